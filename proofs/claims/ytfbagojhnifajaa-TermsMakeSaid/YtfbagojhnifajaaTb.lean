/- Parse and Same. -/
import Derived.Test.YtfbagojhnifajaaT9
namespace Go.Proofs.Ytfbagojhnifajaa
open Go.RowKit
set_option maxRecDepth 100000
set_option linter.unusedVariables false
set_option linter.unusedSimpArgs false
def parseEnd : PR → Option T × Int
  | (none, e, _) => (none, e)
  | (some t, _, []) => (some t, 0)
  | (some _, _, _ :: _) => (none, 3)
def pParse (l : List UInt8) : Option T × Int := if 2000 < l.length then (none, 8) else parseEnd (pTerm 2001 l)
def ParseP (w : World) (x : Option T × Int) (e : Ending) (w' : World) : Prop :=
  Below w.heap.size w w' ∧ ((x.1 = none ∧ e = .returned (.tuple #[.nilIface, .int .i64 x.2])) ∨ ∃ t v, x.1 = some t ∧ e = .returned (.tuple #[v, .int .i64 0]) ∧ IsT w' t v)
theorem Rdr.new (w : World) (l : List UInt8) : Rdr (w.alloc (.cells #[.string ⟨l.toArray⟩] 49)) w.heap.size l := heap_alloc_new w _
theorem below_only {w w' : World} {o : Obj} (h : (w.alloc o).grownBy w' (some w.heap.size)) : Below w.heap.size w w' :=
  ((Below.refl w.heap.size w).alloc (Nat.le_refl _) o).grown h (by simp) (by intro k hk; injection hk with hk; omega)
set_option maxHeartbeats 400000 in
theorem parse_big (l : List UInt8) (w : World) (h : 2000 < l.length) : Calls Try.prog 9 #[.string ⟨l.toArray⟩] w (ParseP w (none, 8)) := by
  go_enter Try.func9, Try.ntmps9
  go_wp2_with fail
  go_ret2
  exact ⟨Below.refl _ _, .inl ⟨rfl, rfl⟩⟩
set_option maxHeartbeats 400000 in
theorem parse_small (l : List UInt8) (w : World) (h : l.length ≤ 2000) : Calls Try.prog 9 #[.string ⟨l.toArray⟩] w (ParseP w (parseEnd (pTerm 2001 l))) := by
  have H2 := Lib.hid (term_any 2000 (by omega) l _ _ h (Rdr.new w l))
  have HG := Lib.hid (good_term 2001 l)
  generalize pTerm 2001 l = x at *
  obtain ⟨o, e, r⟩ := x
  cases o with
  | none =>
    have he := er_ne HG.out rfl
    dsimp only at he
    go_enter Try.func9, Try.ntmps9
    go_wp2_with fail
    refine (H2.out).mono ?_
    rintro e1 w1 ⟨hr1, hg1, ⟨-, rfl⟩ | ⟨t, v, ht, -⟩⟩
    · dsimp only at hr1
      go_wp2_with fail
      go_ret2
      exact ⟨below_only hg1, .inl ⟨rfl, rfl⟩⟩
    · cases ht
  | some t =>
    go_enter Try.func9, Try.ntmps9
    go_wp2_with fail
    refine (H2.out).mono ?_
    rintro e1 w1 ⟨hr1, hg1, ⟨hn, -⟩ | ⟨t, v, ht, rfl, hi⟩⟩
    · cases hn
    · dsimp only at hr1
      injection ht with ht
      subst ht
      cases r with
      | nil =>
        have hc := hr1.cell
        clear hr1
        go_wp2_with fail
        go_ret2
        exact ⟨below_only hg1, .inr ⟨_, _, rfl, rfl, hi⟩⟩
      | cons c r =>
        have hc := hr1.cell
        clear hr1
        go_wp2_with fail
        go_ret2
        exact ⟨below_only hg1, .inl ⟨rfl, rfl⟩⟩
theorem parse_any (l : List UInt8) (w : World) : Calls Try.prog 9 #[.string ⟨l.toArray⟩] w (ParseP w (pParse l)) := by
  unfold pParse
  split
  · exact parse_big l w (by assumption)
  · exact parse_small l w (by omega)
set_option maxHeartbeats 400000 in
theorem same_nil2 (w : World) (ty : TypeId) (x : Value) : Calls Try.prog 10 #[.iface ty x, .nilIface] w fun e w' => w = w' ∧ e = .returned (.bool false) := by
  go_enter Try.func10, Try.ntmps10
  go_wp2_with fail
  go_ret
  exact ⟨rfl, rfl⟩
set_option maxHeartbeats 400000 in
theorem same_nil1 (w : World) (ty : TypeId) (x : Value) : Calls Try.prog 10 #[.nilIface, .iface ty x] w fun e w' => w = w' ∧ e = .returned (.bool false) := by
  go_enter Try.func10, Try.ntmps10
  go_wp2_with fail
  go_ret
  exact ⟨rfl, rfl⟩
set_option maxHeartbeats 400000 in
theorem same_nil (w : World) : Calls Try.prog 10 #[.nilIface, .nilIface] w fun e w' => w = w' ∧ e = .returned (.bool true) := by
  go_enter Try.func10, Try.ntmps10
  go_wp2_with fail
  go_ret
  exact ⟨rfl, rfl⟩
set_option maxHeartbeats 400000 in
theorem same_any (w : World) (a b : T) (va vb : Value) (h1 : IsT w a va) (h2 : IsT w b vb) (s1 : a.text.size ≤ 1000000) (s2 : b.text.size ≤ 1000000) :
    Calls Try.prog 10 #[va, vb] w fun e w' => e = .returned (.bool (a.text.toList == b.text.toList)) ∧ ∃ n, w' = w.drewN n := by
  obtain ⟨ta, xa, rfl⟩ := h1.form
  obtain ⟨tb, xb, rfl⟩ := h2.form
  have H1 := Lib.hid (text_any a w _ h1 s1)
  have H2 := Lib.hid (fun n => text_any b (w.drewN n) _ (h2.drewN n) s2)
  clear h1 h2
  go_enter Try.func10, Try.ntmps10
  go_wp2_with fail
  refine (H1.out).mono ?_
  rintro e1 w1 ⟨rfl, n, rfl⟩
  go_wp2_with fail
  refine (H2.out n).mono ?_
  rintro e1 w1 ⟨rfl, m, rfl⟩
  go_wp2_with fail
  go_ret
  exact ⟨rfl, _, rfl⟩
end Go.Proofs.Ytfbagojhnifajaa
