/- The reference's Parse, Kind, Parts, Atom. -/
import Derived.Test.YtfbagojhnifajaaR5
namespace Go.Proofs.Ytfbagojhnifajaa
open Go.RowKit
set_option maxRecDepth 100000
set_option linter.unusedVariables false
set_option linter.unusedSimpArgs false
def tup3 (a b c : Int) : Value := .tuple #[.int .i64 a, .int .i64 b, .int .i64 c]
def rpEnd : PR → Value
  | (none, e, _) => tup3 0 0 e
  | (some t, _, []) => tup3 t.size t.depth 0
  | (some _, _, _ :: _) => tup3 0 0 3
def rpV (L : List UInt8) : Value := if 2000 < L.length then tup3 0 0 8 else rpEnd (pTerm 2002 L)
set_option maxHeartbeats 800000 in
theorem rparse_big (L : List UInt8) (w : World) (h : 2000 < L.length) : Calls Try.prog 24 #[.string ⟨L.toArray⟩] w fun e w' => Below w.heap.size w w' ∧ e = .returned (tup3 0 0 8) := by
  go_enter Try.func24, Try.ntmps24
  go_wp2_with fail
  go_ret3
  exact ⟨Below.refl _ _, rfl⟩
set_option maxHeartbeats 800000 in
theorem rparse_small (L : List UInt8) (w : World) (h : L.length ≤ 2000) : Calls Try.prog 24 #[.string ⟨L.toArray⟩] w fun e w' => Below w.heap.size w w' ∧ e = .returned (rpEnd (pTerm 2002 L)) := by
  have H := Lib.hid (fun w => rterm_any L (by omega) 2002 (by omega) 0 0 w rfl (by omega))
  rw [List.drop_zero] at H
  have HG := Lib.hid (good_term 2002 L)
  have HS := Lib.hid (suf_term 2002 L)
  generalize pTerm 2002 L = x at *
  obtain ⟨o, e, r⟩ := x
  cases o with
  | none =>
    have he := er_ne HG.out rfl
    dsimp only at he
    go_enter Try.func24, Try.ntmps24
    go_wp2_with fail
    refine (H.out w).mono ?_
    rintro e1 w1 ⟨hb, rfl⟩
    simp only [RV]
    go_wp2_with fail
    go_ret3
    exact ⟨hb.alloc hb.size _, rfl⟩
  | some t =>
    have hsl := HS.out.length_le
    dsimp only at hsl
    have hz := HG.out.ok t rfl
    cases r with
    | nil =>
      go_enter Try.func24, Try.ntmps24
      go_wp2_with fail
      refine (H.out w).mono ?_
      rintro e1 w1 ⟨hb, rfl⟩
      simp only [RV, List.length_nil, Nat.sub_zero]
      go_wp2_with fail
      go_quiet (fail)
      go_wp2_with fail
      go_ret3
      exact ⟨below_dN (hb.alloc hb.size _) _, rfl⟩
    | cons c r =>
      have hlt : L.length - (c :: r).length < L.length := by simp only [List.length_cons] at hsl ⊢; omega
      generalize L.length - (c :: r).length = m at *
      go_enter Try.func24, Try.ntmps24
      go_wp2_with fail
      refine (H.out w).mono ?_
      rintro e1 w1 ⟨hb, rfl⟩
      simp only [RV]
      go_wp2_with fail
      go_ret3
      exact ⟨hb.alloc hb.size _, rfl⟩
end Go.Proofs.Ytfbagojhnifajaa
