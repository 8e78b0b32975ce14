/- Parts and Depth. -/
import Derived.Test.YtfbagojhnifajaaT3
namespace Go.Proofs.Ytfbagojhnifajaa
open Go.RowKit
set_option maxRecDepth 100000
set_option linter.unusedVariables false
set_option linter.unusedSimpArgs false
theorem IsT.keep {w w' : World} (h : ∀ (i : Nat) (cs : Array Value) (t : TypeId), w.heap[i]? = some (.cells cs t (0, 0)) → t ≠ 49 → w'.heap[i]? = w.heap[i]?) : ∀ {t : T} {v : Value}, IsT w t v → IsT w' t v
  | .atom _, _, h1 => h1
  | .pair _ _, _, ⟨g, va, vb, e, hb, h1, h2⟩ => ⟨g, va, vb, e, by rw [h _ _ _ hb (by decide)]; exact hb, IsT.keep h h1, IsT.keep h h2⟩
  | .hash _, _, ⟨g, va, e, hb, h1⟩ => ⟨g, va, e, by rw [h _ _ _ hb (by decide)]; exact hb, IsT.keep h h1⟩
  | .seal_ _ _, _, ⟨g, va, vb, e, hb, h1, h2⟩ => ⟨g, va, vb, e, by rw [h _ _ _ hb (by decide)]; exact hb, IsT.keep h h1, IsT.keep h h2⟩
theorem lt_of_some {w : World} {i : Nat} {o : Obj} (h : w.heap[i]? = some o) : i < w.heap.size := by
  rcases Nat.lt_or_ge i w.heap.size with h' | h'
  · exact h'
  · rw [Array.getElem?_eq_none h'] at h; cases h
theorem IsT.below {w w' : World} {t : T} {v : Value} (hb : Below w.heap.size w w') (h : IsT w t v) : IsT w' t v :=
  h.keep fun i _ _ hi _ => hb.block i (lt_of_some hi)
theorem IsT.alloc {w : World} {t : T} {v : Value} (h : IsT w t v) (o : Obj) : IsT (w.alloc o) t v :=
  h.keep fun i _ _ hi _ => Below.heap_alloc w o i (lt_of_some hi)

/-- a fresh slice of terms -/
def Sl (w w' : World) (vs : List Value) (v : Value) : Prop := ∃ g, v = .slice (some ⟨g, 0, none⟩) vs.length vs.length ∧ w'.heap[g]? = some (.cells vs.toArray 24 (0, 0)) ∧ w.heap.size ≤ g

set_option maxHeartbeats 400000 in
theorem parts_atom (w : World) (s : ByteArray) :
    Calls Try.prog 16 #[.iface 42 (.string s)] w fun e w' => w = w' ∧ e = .returned (.slice none 0 0) := by
  have h15 := Lib.hid (fun w => kind_any w (.atom s) _ rfl)
  go_enter Try.func16, Try.ntmps16
  go_wp2_with (go_at_call 15; refine (h15.out _).mono ?_; rintro e w' ⟨rfl, rfl⟩; simp only [T.kind])
  go_ret
  exact ⟨rfl, rfl⟩
set_option maxHeartbeats 400000 in
theorem parts_nil (w : World) :
    Calls Try.prog 16 #[.nilIface] w fun e w' => w = w' ∧ e = .returned (.slice none 0 0) := by
  go_enter Try.func16, Try.ntmps16
  go_wp2_with (go_at_call 15; refine (kind_nil _).mono ?_; rintro e w' ⟨rfl, rfl⟩)
  go_ret
  exact ⟨rfl, rfl⟩
theorem IsT.form {w : World} : ∀ {t : T} {v : Value}, IsT w t v → ∃ ty x, v = .iface ty x
  | .atom _, _, h => ⟨_, _, h⟩
  | .pair _ _, _, ⟨_, _, _, h, _⟩ => ⟨_, _, h⟩
  | .hash _, _, ⟨_, _, h, _⟩ => ⟨_, _, h⟩
  | .seal_ _ _, _, ⟨_, _, _, h, _⟩ => ⟨_, _, h⟩
set_option maxHeartbeats 400000 in
theorem parts_hash (w : World) (g : Nat) (ta : TypeId) (xa : Value) (n : Int) (hb : w.heap[g]? = some (.cells #[.iface ta xa, .int .i64 n] 58 (0, 0))) :
    Calls Try.prog 16 #[.iface 56 (.pointer (some ⟨g, 0, none⟩))] w fun e w' => Below w.heap.size w w' ∧ ∃ v, e = .returned v ∧ Sl w w' [.iface ta xa] v := by
  have hc0 : w.cell? ⟨g, 0, none⟩ = some (.iface ta xa) := by simp [World.cell?, hb]
  clear hb
  go_enter Try.func16, Try.ntmps16
  go_wp2_with fail
  go_ret
  exact ⟨(Below.refl _ _).alloc (Nat.le_refl _) _, _, rfl, w.heap.size, rfl, heap_alloc_new w _, Nat.le_refl _⟩
set_option maxHeartbeats 400000 in
theorem parts_pair (w : World) (g : Nat) (a b : T) (ta tb : TypeId) (xa xb : Value) (hI : IsT w (.pair a b) (.iface 53 (.pointer (some ⟨g, 0, none⟩)))) (hb : w.heap[g]? = some (.cells #[.iface ta xa, .iface tb xb, .int .i64 (1 + a.size + b.size)] 55 (0, 0))) :
    Calls Try.prog 16 #[.iface 53 (.pointer (some ⟨g, 0, none⟩))] w fun e w' => Below w.heap.size w w' ∧ ∃ v, e = .returned v ∧ Sl w w' [.iface ta xa, .iface tb xb] v := by
  have hc0 : w.cell? ⟨g, 0, none⟩ = some (.iface ta xa) := by simp [World.cell?, hb]
  have hc1 : w.cell? ⟨g, 1, none⟩ = some (.iface tb xb) := by simp [World.cell?, hb]
  have h15 := Lib.hid (kind_any w _ _ hI)
  clear hb hI
  go_enter Try.func16, Try.ntmps16
  go_wp2_with (go_at_call 15; refine (h15.out).mono ?_; rintro e w' ⟨rfl, rfl⟩; simp only [T.kind])
  go_region
  go_wp2_with fail
  go_ret
  exact ⟨((Below.refl _ _).alloc (Nat.le_refl _) _).drew, _, rfl, w.heap.size, rfl, heap_alloc_new w _, Nat.le_refl _⟩
set_option maxHeartbeats 400000 in
theorem parts_seal (w : World) (g : Nat) (a b : T) (ta tb : TypeId) (xa xb : Value) (hI : IsT w (.seal_ a b) (.iface 59 (.pointer (some ⟨g, 0, none⟩)))) (hb : w.heap[g]? = some (.cells #[.iface ta xa, .iface tb xb, .int .i64 (1 + a.size + b.size)] 61 (0, 0))) :
    Calls Try.prog 16 #[.iface 59 (.pointer (some ⟨g, 0, none⟩))] w fun e w' => Below w.heap.size w w' ∧ ∃ v, e = .returned v ∧ Sl w w' [.iface ta xa, .iface tb xb] v := by
  have hc0 : w.cell? ⟨g, 0, none⟩ = some (.iface ta xa) := by simp [World.cell?, hb]
  have hc1 : w.cell? ⟨g, 1, none⟩ = some (.iface tb xb) := by simp [World.cell?, hb]
  have h15 := Lib.hid (kind_any w _ _ hI)
  clear hb hI
  go_enter Try.func16, Try.ntmps16
  go_wp2_with (go_at_call 15; refine (h15.out).mono ?_; rintro e w' ⟨rfl, rfl⟩; simp only [T.kind])
  go_region
  go_wp2_with fail
  go_ret
  exact ⟨((Below.refl _ _).alloc (Nat.le_refl _) _).drew, _, rfl, w.heap.size, rfl, heap_alloc_new w _, Nat.le_refl _⟩
def T.parts : T → List T
  | .atom _ => []
  | .pair a b => [a, b]
  | .hash a => [a]
  | .seal_ a b => [a, b]
inductive IsL (w : World) : List T → List Value → Prop where
  | nil : IsL w [] []
  | cons {t : T} {v : Value} {ts : List T} {vs : List Value} : IsT w t v → IsL w ts vs → IsL w (t :: ts) (v :: vs)
theorem IsL.length {w : World} {ts : List T} {vs : List Value} (h : IsL w ts vs) : vs.length = ts.length := by induction h <;> simp_all
theorem IsL.get {w : World} {ts : List T} {vs : List Value} (h : IsL w ts vs) : ∀ (k : Nat) (hk : k < ts.length), ∃ v, vs[k]? = some v ∧ IsT w ts[k] v := by
  induction h with
  | nil => intro k hk; simp at hk
  | cons h1 h2 ih =>
    intro k hk
    cases k with
    | zero => exact ⟨_, rfl, h1⟩
    | succ k => simpa using ih k (by simpa using hk)
theorem IsL.keep {w w' : World} (h : ∀ {t v}, IsT w t v → IsT w' t v) {ts : List T} {vs : List Value} (hl : IsL w ts vs) : IsL w' ts vs := by
  induction hl with
  | nil => exact .nil
  | cons h1 h2 ih => exact .cons (h h1) ih
def SlP (w w' : World) (vs : List Value) (v : Value) : Prop := (vs = [] ∧ v = .slice none 0 0 ∧ w = w') ∨ (vs ≠ [] ∧ Sl w w' vs v)
theorem parts_any (w : World) (t : T) (v : Value) (h : IsT w t v) :
    Calls Try.prog 16 #[v] w fun e w' => Below w.heap.size w w' ∧ ∃ v' vs, e = .returned v' ∧ SlP w w' vs v' ∧ IsL w t.parts vs := by
  cases t with
  | atom s =>
    obtain rfl := h
    exact (parts_atom w s).mono fun e w' ⟨h1, h2⟩ => ⟨h1 ▸ Below.refl _ _, _, [], h2, .inl ⟨rfl, rfl, h1⟩, .nil⟩
  | pair a b =>
    have h0 := h
    obtain ⟨g, va, vb, rfl, hb, h1, h2⟩ := h
    obtain ⟨ta, xa, rfl⟩ := h1.form
    obtain ⟨tb, xb, rfl⟩ := h2.form
    exact (parts_pair w g a b ta tb xa xb h0 hb).mono fun e w' ⟨h3, v, h4, h5⟩ => ⟨h3, v, _, h4, .inr ⟨by simp, h5⟩, .cons h1 (.cons h2 .nil)⟩
  | hash a =>
    obtain ⟨g, va, rfl, hb, h1⟩ := h
    obtain ⟨ta, xa, rfl⟩ := h1.form
    exact (parts_hash w g ta xa _ hb).mono fun e w' ⟨h3, v, h4, h5⟩ => ⟨h3, v, _, h4, .inr ⟨by simp, h5⟩, .cons h1 .nil⟩
  | seal_ a b =>
    have h0 := h
    obtain ⟨g, va, vb, rfl, hb, h1, h2⟩ := h
    obtain ⟨ta, xa, rfl⟩ := h1.form
    obtain ⟨tb, xb, rfl⟩ := h2.form
    exact (parts_seal w g a b ta tb xa xb h0 hb).mono fun e w' ⟨h3, v, h4, h5⟩ => ⟨h3, v, _, h4, .inr ⟨by simp, h5⟩, .cons h1 (.cons h2 .nil)⟩
end Go.Proofs.Ytfbagojhnifajaa
