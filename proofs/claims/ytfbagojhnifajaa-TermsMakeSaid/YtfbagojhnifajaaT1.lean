/- Contracts of the small functions of terms. -/
import Derived.Test.YtfbagojhnifajaaProg
import Derived.WalkKit
import Derived.WalkSpells
import Derived.WalkLawsBesides
import Derived.Lib.Hide
import Derived.Deep.QuietTactic
import Derived.BigQuiet
import Derived.Test.YtfbagojhnifajaaTa
namespace Go.Proofs.Ytfbagojhnifajaa
open Go.RowKit
set_option maxRecDepth 100000
set_option linter.unusedVariables false
set_option linter.unusedSimpArgs false
def isLet (c : Int) : Bool := decide (97 ≤ c) && decide (c ≤ 122)
def isDig (c : Int) : Bool := decide (48 ≤ c) && decide (c ≤ 57)
set_option maxHeartbeats 400000 in
theorem isLetter_any (c : Int) (w : World) :
    Calls Try.prog 31 #[.int .u8 c] w fun e w' => w = w' ∧ e = .returned (.bool (isLet c)) := by
  by_cases h1 : 97 ≤ c
  · go_enter Try.func31, Try.ntmps31
    go_wp2
    go_ret
    exact ⟨rfl, by simp [isLet, h1]⟩
  · have h1' : decide (97 ≤ c) = false := by simpa using h1
    go_enter Try.func31, Try.ntmps31
    go_wp2
    go_ret
    exact ⟨rfl, by simp [isLet]; omega⟩
set_option maxHeartbeats 400000 in
theorem isDigit_any (c : Int) (w : World) :
    Calls Try.prog 32 #[.int .u8 c] w fun e w' => w = w' ∧ e = .returned (.bool (isDig c)) := by
  by_cases h1 : 48 ≤ c
  · go_enter Try.func32, Try.ntmps32
    go_wp2
    go_ret
    exact ⟨rfl, by simp [isDig, h1]⟩
  · have h1' : decide (48 ≤ c) = false := by simpa using h1
    go_enter Try.func32, Try.ntmps32
    go_wp2
    go_ret
    exact ⟨rfl, by simp [isDig]; omega⟩

inductive T where
  | atom (s : ByteArray)
  | pair (a b : T)
  | hash (a : T)
  | seal_ (a b : T)

def T.size : T → Int
  | .atom _ => 1
  | .pair a b => 1 + a.size + b.size
  | .hash a => 1 + a.size
  | .seal_ a b => 1 + a.size + b.size

def T.kind : T → Int
  | .atom _ => 1
  | .pair _ _ => 2
  | .hash _ => 3
  | .seal_ _ _ => 4

def IsT (w : World) : T → Value → Prop
  | .atom s, v => v = .iface 42 (.string s)
  | .pair a b, v => ∃ g va vb, v = .iface 53 (.pointer (some ⟨g, 0, none⟩)) ∧ w.heap[g]? = some (.cells #[va, vb, .int .i64 (1 + a.size + b.size)] 55 (0, 0)) ∧ IsT w a va ∧ IsT w b vb
  | .hash a, v => ∃ g va, v = .iface 56 (.pointer (some ⟨g, 0, none⟩)) ∧ w.heap[g]? = some (.cells #[va, .int .i64 (1 + a.size)] 58 (0, 0)) ∧ IsT w a va
  | .seal_ a b, v => ∃ g va vb, v = .iface 59 (.pointer (some ⟨g, 0, none⟩)) ∧ w.heap[g]? = some (.cells #[va, vb, .int .i64 (1 + a.size + b.size)] 61 (0, 0)) ∧ IsT w a va ∧ IsT w b vb

set_option maxHeartbeats 400000 in
theorem kind_any (w : World) (t : T) (v : Value) (h : IsT w t v) :
    Calls Try.prog 15 #[v] w fun e w' => w = w' ∧ e = .returned (.int .i64 t.kind) := by
  cases t with
  | atom s =>
    obtain rfl := h
    go_enter Try.func15, Try.ntmps15
    go_wp2
    go_ret
    exact ⟨rfl, rfl⟩
  | pair a b =>
    obtain ⟨g, va, vb, rfl, -, -, -⟩ := h
    go_enter Try.func15, Try.ntmps15
    go_wp2
    go_ret
    exact ⟨rfl, rfl⟩
  | hash a =>
    obtain ⟨g, va, rfl, -, -⟩ := h
    go_enter Try.func15, Try.ntmps15
    go_wp2
    go_ret
    exact ⟨rfl, rfl⟩
  | seal_ a b =>
    obtain ⟨g, va, vb, rfl, -, -, -⟩ := h
    go_enter Try.func15, Try.ntmps15
    go_wp2
    go_ret
    exact ⟨rfl, rfl⟩

set_option maxHeartbeats 400000 in
theorem kind_nil (w : World) :
    Calls Try.prog 15 #[.nilIface] w fun e w' => w = w' ∧ e = .returned (.int .i64 0) := by
  go_enter Try.func15, Try.ntmps15
  go_wp2
  go_ret
  exact ⟨rfl, rfl⟩

set_option maxHeartbeats 400000 in
theorem size_any (w : World) (t : T) (v : Value) (h : IsT w t v) :
    Calls Try.prog 18 #[v] w fun e w' => w = w' ∧ e = .returned (.int .i64 t.size) := by
  cases t with
  | atom s =>
    obtain rfl := h
    go_enter Try.func18, Try.ntmps18
    go_wp2
    go_ret
    exact ⟨rfl, rfl⟩
  | pair a b =>
    obtain ⟨g, va, vb, rfl, hb, -, -⟩ := h
    have hc : w.cell? ⟨g, 2, none⟩ = some (.int .i64 (1 + a.size + b.size)) := by simp [World.cell?, hb]
    clear hb
    go_enter Try.func18, Try.ntmps18
    go_wp2
    go_ret
    exact ⟨rfl, rfl⟩
  | hash a =>
    obtain ⟨g, va, rfl, hb, -⟩ := h
    have hc : w.cell? ⟨g, 1, none⟩ = some (.int .i64 (1 + a.size)) := by simp [World.cell?, hb]
    clear hb
    go_enter Try.func18, Try.ntmps18
    go_wp2
    go_ret
    exact ⟨rfl, rfl⟩
  | seal_ a b =>
    obtain ⟨g, va, vb, rfl, hb, -, -⟩ := h
    have hc : w.cell? ⟨g, 2, none⟩ = some (.int .i64 (1 + a.size + b.size)) := by simp [World.cell?, hb]
    clear hb
    go_enter Try.func18, Try.ntmps18
    go_wp2
    go_ret
    exact ⟨rfl, rfl⟩
set_option maxHeartbeats 400000 in
theorem size_nil (w : World) :
    Calls Try.prog 18 #[.nilIface] w fun e w' => w = w' ∧ e = .returned (.int .i64 0) := by
  go_enter Try.func18, Try.ntmps18
  go_wp2
  go_ret
  exact ⟨rfl, rfl⟩
end Go.Proofs.Ytfbagojhnifajaa
