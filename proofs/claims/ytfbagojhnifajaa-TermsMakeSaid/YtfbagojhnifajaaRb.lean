/- made. -/
import Derived.Test.YtfbagojhnifajaaRa
namespace Go.Proofs.Ytfbagojhnifajaa
open Go.RowKit
set_option maxRecDepth 100000
set_option linter.unusedVariables false
set_option linter.unusedSimpArgs false
theorem rpV_pair (a b : T) (va : Valid a) (vb : Valid b) (hb : roomBad [a, b] = true) : rpV (T.pair a b).tl = tup3 0 0 8 := by
  unfold rpV
  split
  · rfl
  · rename_i h
    rw [tl_pair] at h ⊢
    simp only [List.length_cons, List.length_append] at h
    rw [pTerm, if_pos rfl]
    unfold pTwo
    rw [parse_text a 2001 _ va (by omega) (by rfl)]
    dsimp only [mustR]
    rw [if_pos rfl]
    dsimp only
    rw [parse_text b 2001 _ vb (by omega) (by rfl)]
    dsimp only [mustR]
    rw [if_pos rfl]
    dsimp only [twoEnd]
    rw [hb]
    rfl
theorem rpV_seal (a b : T) (va : Valid a) (vb : Valid b) (hb : roomBad [a, b] = true) : rpV (T.seal_ a b).tl = tup3 0 0 8 := by
  unfold rpV
  split
  · rfl
  · rename_i h
    rw [tl_seal] at h ⊢
    simp only [List.length_cons, List.length_append] at h
    rw [pTerm, if_neg (by decide), if_pos rfl]
    unfold pTwo
    rw [parse_text a 2001 _ va (by omega) (by rfl)]
    dsimp only [mustR]
    rw [if_pos rfl]
    dsimp only
    rw [parse_text b 2001 _ vb (by omega) (by rfl)]
    dsimp only [mustR]
    rw [if_pos rfl]
    dsimp only [twoEnd]
    rw [hb]
    rfl
theorem rpV_hash (a : T) (va : Valid a) (hb : roomBad [a] = true) : rpV (T.hash a).tl = tup3 0 0 8 := by
  unfold rpV
  split
  · rfl
  · rename_i h
    rw [tl_hash] at h ⊢
    simp only [List.length_cons] at h
    rw [pTerm, if_neg (by decide), if_neg (by decide), if_pos rfl]
    have hp := parse_text a 2001 [] va (by omega) rfl
    rw [List.append_nil] at hp
    rw [hp]
    dsimp only
    rw [hb]
    rfl
set_option maxHeartbeats 800000 in
theorem made_bad (t : T) (ht : rpV t.tl = tup3 0 0 8) (w : World) : Calls Try.prog 14 #[.nilIface, .int .i64 8, .string t.text] w (TrueP w) := by
  have H := rparse_any t.tl w
  rw [ht, ← text_tl] at H
  have C := Lib.hid H
  clear H ht
  go_enter Try.func14, Try.ntmps14
  go_wp2_with fail
  refine (C.out).mono ?_
  rintro e1 w1 ⟨hb1, rfl⟩
  simp only [tup3]
  go_wp2_with fail
  go_ret
  exact ⟨hb1, rfl⟩
set_option maxHeartbeats 800000 in
theorem made_long (t : T) (ty : TypeId) (x : Value) (hl : 2000 < t.text.size) (w : World) : Calls Try.prog 14 #[.iface ty x, .int .i64 0, .string t.text] w (TrueP w) := by
  go_enter Try.func14, Try.ntmps14
  go_wp2_with fail
  go_ret
  exact ⟨Below.refl _ _, rfl⟩
set_option maxHeartbeats 800000 in
theorem made_good (t : T) (v : Value) (hv : Valid t) (hl : t.text.size ≤ 2000) (w : World) (hI : IsT w t v) : Calls Try.prog 14 #[v, .int .i64 0, .string t.text] w (TrueP w) := by
  have C := Lib.hid (as_any t v hv (by rw [← ba_size]; exact hl) w hI)
  obtain ⟨ty, x, rfl⟩ := hI.form
  clear hI hv
  go_enter Try.func14, Try.ntmps14
  go_wp2_with fail
  refine (C.out).mono ?_
  rintro e1 w1 h2
  obtain rfl := h2.2
  go_wp2_with fail
  go_ret
  exact h2
theorem made_ok (t : T) (v : Value) (hv : Valid t) (w : World) (hI : IsT w t v) : Calls Try.prog 14 #[v, .int .i64 0, .string t.text] w (TrueP w) := by
  by_cases hl : t.text.size ≤ 2000
  · exact made_good t v hv hl w hI
  · obtain ⟨ty, x, rfl⟩ := hI.form
    exact made_long t ty x (by omega) w
def MadeR (w : World) (t : T) (v : Value) (e : Int) : Prop := ∀ w', Below w.heap.size w w' → Calls Try.prog 14 #[v, .int .i64 e, .string t.text] w' (TrueP w')
/-- what Pair, Hash and Seal hand back -/
def MP (w : World) (t : T) (e : Ending) (w' : World) : Prop := Below w.heap.size w w' ∧ ∃ v er, e = .returned (.tuple #[v, .int .i64 er]) ∧ MadeR w' t v er
theorem mp_of {w : World} {t : T} {bad : Bool} {e : Ending} {w' : World} (hv : bad = false → Valid t) (hb : bad = true → rpV t.tl = tup3 0 0 8) (h : MadeT w t bad e w') : MP w t e w' := by
  obtain ⟨h1, ⟨h2, rfl⟩ | ⟨h2, v, rfl, h3⟩⟩ := h
  · exact ⟨h1, _, _, rfl, fun w2 _ => made_bad t (hb h2) w2⟩
  · exact ⟨h1, _, _, rfl, fun w2 hw => made_ok t v (hv h2) w2 (h3.below hw)⟩
theorem pair_mp (w : World) (a b : T) (va vb : Value) (h1 : IsT w a va) (h2 : IsT w b vb) (v1 : Valid a) (v2 : Valid b) : Calls Try.prog 11 #[va, vb] w (MP w (.pair a b)) :=
  (pair_any w a b va vb h1 h2 (by have := valid_size v1; omega) (by have := valid_size v2; omega)).mono fun _ _ h => mp_of (fun hb => ⟨v1, v2, hb⟩) (fun hb => rpV_pair a b v1 v2 hb) h
theorem seal_mp (w : World) (a b : T) (va vb : Value) (h1 : IsT w a va) (h2 : IsT w b vb) (v1 : Valid a) (v2 : Valid b) : Calls Try.prog 13 #[va, vb] w (MP w (.seal_ a b)) :=
  (seal_any w a b va vb h1 h2 (by have := valid_size v1; omega) (by have := valid_size v2; omega)).mono fun _ _ h => mp_of (fun hb => ⟨v1, v2, hb⟩) (fun hb => rpV_seal a b v1 v2 hb) h
theorem hash_mp (w : World) (a : T) (va : Value) (h1 : IsT w a va) (v1 : Valid a) : Calls Try.prog 12 #[va] w (MP w (.hash a)) :=
  (hash_any w a va h1 (by have := valid_size v1; omega)).mono fun _ _ h => mp_of (fun hb => ⟨v1, hb⟩) (fun hb => rpV_hash a v1 hb) h
end Go.Proofs.Ytfbagojhnifajaa
