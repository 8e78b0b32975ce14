/- alive and TermsNil. -/
import Derived.Test.YtfbagojhnifajaaTw
namespace Go.Proofs.Ytfbagojhnifajaa
open Go.RowKit Go.Sort
set_option maxRecDepth 100000
set_option linter.unusedVariables false
set_option linter.unusedSimpArgs false
def tr : T := .pair (.atom ⟨#[97]⟩) (.hash (.atom ⟨#[98]⟩))
theorem ms1 (x : List UInt8) : [x].mergeSort le8 = [x] := by simp
theorem ms2 : ([[35, 98],[98]] : List (List UInt8)).mergeSort le8 = [[35, 98], [98]] := by
  simp +decide [List.mergeSort, List.MergeSort.Internal.splitInTwo, List.merge, le8]
theorem ms4 : ([[40, 97, 32, 35, 98, 41], [97], [35, 98],[98]] : List (List UInt8)).mergeSort le8 = [[35, 98], [40, 97, 32, 35, 98, 41], [97], [98]] := by
  simp +decide [List.mergeSort, List.MergeSort.Internal.splitInTwo, List.merge, le8]
theorem wa (x : List UInt8) : Lib.compact ([x].mergeSort le8) = [x] := by rw [ms1]; rfl
theorem wb : wl (.hash (.atom ⟨#[98]⟩)) = [[35, 98],[98]] := by
  have h2 : Lib.compact ([[35, 98],[98]] : List (List UInt8)) = [[35, 98],[98]] := by rfl
  simp only [wl, wa]
  show Lib.compact (([[35, 98],[98]] : List (List UInt8)).mergeSort le8) = _
  rw [ms2, h2]
theorem tr_wl : (wl tr).length = 4 := by
  unfold tr
  rw [wl, wb]
  simp only [wl, wa]
  show (Lib.compact (([[40, 97, 32, 35, 98, 41], [97], [35, 98],[98]] : List (List UInt8)).mergeSort le8)).length = 4
  rw [ms4]
  rfl
theorem tr_parse : pParse [40, 97, 32, 35, 98, 41] = (some tr, 0) := by rfl
theorem tr_text : tr.text = ⟨#[40, 97, 32, 35, 98, 41]⟩ := by rfl
theorem a1 : atomOk [97, 49] = true := by rfl
theorem tr_kind : tr.kind = 2 := rfl
theorem tr_size : tr.size = 4 := rfl
theorem tr_depth : tr.depth = 3 := by decide
set_option maxHeartbeats 1000000 in
theorem alive_any (w : World) : Calls Try.prog 5 #[] w fun e w' => Below w.heap.size w w' ∧ e = .returned (.bool true) := by
  have H9 := Lib.hid (parse_any [40, 97, 32, 35, 98, 41] w)
  have H6 := Lib.hid (fun w => atom_yes [97, 49] w a1)
  have HP := Lib.hid tr_parse
  go_enter Try.func5, Try.ntmps5
  go_wp2_with fail
  refine (H9.out).mono ?_
  rintro e1 w1 ⟨hb1, h⟩
  rw [HP.out] at h
  obtain ⟨hn, -⟩ | ⟨t, v, ht, rfl, hi⟩ := h
  · cases hn
  · injection ht with ht
    subst ht
    obtain ⟨ty, x, rfl⟩ := hi.form
    have H18 := Lib.hid (size_any w1 _ _ hi)
    have H19 := Lib.hid (depth_any tr (by decide) w1 _ hi)
    have HI := Lib.hid hi
    clear hi
    go_wp2_with (go_at_call 6; refine (H6.out _).mono ?_; rintro e2 w2 ⟨rfl, rfl⟩)
    refine (H18.out).mono ?_
    rintro e2 w2 ⟨rfl, rfl⟩
    rw [tr_size]
    go_wp2_with fail
    refine (H19.out).mono ?_
    rintro e2 w2 ⟨hb2, rfl⟩
    rw [tr_depth]
    have H20 := Lib.hid (text_any tr w2 _ (HI.out.below hb2) (by decide))
    go_wp2_with fail
    refine (H20.out).mono ?_
    rintro e2 w3 ⟨rfl, n3, rfl⟩
    rw [tr_text]
    have HI3 := Lib.hid ((HI.out.below hb2).drewN n3)
    have H15 := Lib.hid (kind_any _ tr _ HI3.out)
    go_wp2_with fail
    refine (H15.out).mono ?_
    rintro e2 w4 ⟨rfl, rfl⟩
    rw [tr_kind]
    have H16 := Lib.hid (parts_any _ tr _ HI3.out)
    go_wp2_with fail
    refine (H16.out).mono ?_
    rintro e2 w5 ⟨hb5, sl, vs, rfl, hsl, hil⟩
    obtain ⟨A, rfl, -⟩ := hsl.reads
    have hv2 : vs.length = 2 := hil.length
    rw [hv2]
    have H17 := Lib.hid (within_any tr (by decide) (by decide) w5 _ (HI3.out.below hb5))
    clear hsl hil hv2
    go_wp2_with fail
    refine (H17.out).mono ?_
    rintro e2 w6 ⟨hb6, r, rfl, hr⟩
    obtain ⟨g, cap, cur, rfl, q1, q2, q3, q4, q5, q6⟩ := hr.form (by rw [tr_wl]; decide)
    rw [tr_wl]
    clear hr q1 q2 q3 q4 q5 q6
    have H15b := Lib.hid (kind_any w6 (.atom ⟨#[97, 49]⟩) _ rfl)
    go_wp2_with fail
    refine (H15b.out).mono ?_
    rintro e2 w7 ⟨rfl, rfl⟩
    simp only [T.kind]
    go_wp2_with fail
    go_ret
    have hB3 : Below w.heap.size w (w2.drewN n3) := below_dN (hb1.trans (hb2.mono hb1.size)) n3
    have hB5 := hB3.trans (hb5.mono hB3.size)
    exact ⟨hB5.trans (hb6.mono hB5.size), rfl⟩
def TrueP (w : World) (e : Ending) (w' : World) : Prop := Below w.heap.size w w' ∧ e = .returned (.bool true)
theorem alive_t (w : World) : Calls Try.prog 5 #[] w (TrueP w) := alive_any w
theorem TrueP.of {w w1 w' : World} {e : Ending} (h : Below w.heap.size w w1) (k : TrueP w1 e w') : TrueP w e w' := ⟨h.trans (k.1.mono h.size), k.2⟩
set_option maxHeartbeats 2000000 in
theorem termsNil_any (l : List UInt8) (w : World) : Calls Try.prog 4 #[.string ⟨l.toArray⟩] w (TrueP w) := by
  by_cases hbig : 2000 < l.length
  · have HA := Lib.hid (alive_t w)
    go_enter Try.func4, Try.ntmps4
    go_wp2_with fail
    refine (HA.out).mono ?_
    rintro e1 w1 ⟨hb1, rfl⟩
    go_wp2_with fail
    go_ret
    exact ⟨hb1, rfl⟩
  · have hl : l.length ≤ 2000 := by omega
    have H9 := Lib.hid (parse_any l w)
    have HG := Lib.hid (good_term 2001 l)
    have HE : Hid (∀ t, (pParse l).1 = some t → t.size ≤ 200) := by
      intro t ht
      unfold pParse at ht
      rw [if_neg hbig] at ht
      have hG := good_term 2001 l
      rcases hq : pTerm 2001 l with ⟨o, e, r⟩
      rw [hq] at ht hG
      cases o with
      | none => cases ht
      | some a =>
        cases r with
        | nil => exact hG.ok t ht
        | cons c r => cases ht
    have HN : Hid ((pParse l).1 = none → ((pParse l).2 != 0) = true) := by
      intro hn
      unfold pParse at hn ⊢
      rw [if_neg hbig] at hn ⊢
      have hG := good_term 2001 l
      rcases hq : pTerm 2001 l with ⟨o, e, r⟩
      rw [hq] at hn hG
      cases o with
      | none => exact er_ne hG rfl
      | some a =>
        cases r with
        | nil => cases hn
        | cons c r => rfl
    clear hbig
    generalize pParse l = x at *
    obtain ⟨o, e⟩ := x
    cases o with
    | none =>
      have hne := HN.out rfl
      dsimp only at hne
      go_enter Try.func4, Try.ntmps4
      go_wp2_with fail
      refine (H9.out).mono ?_
      rintro e1 w1 ⟨hb1, ⟨-, rfl⟩ | ⟨t, v, ht, -⟩⟩
      · have HA := Lib.hid (alive_t w1)
        go_wp2_with fail
        refine (HA.out).mono ?_
        rintro e2 w2 h2
        obtain rfl := h2.2
        have h3 := h2.of hb1
        clear h2
        go_wp2_with fail
        go_ret
        exact h3
      · cases ht
    | some t =>
      have hz := HE.out t rfl
      go_enter Try.func4, Try.ntmps4
      go_wp2_with fail
      refine (H9.out).mono ?_
      rintro e1 w1 ⟨hb1, ⟨hn, -⟩ | ⟨t', v, ht, rfl, hi⟩⟩
      · cases hn
      · injection ht with ht
        subst ht
        have HI := Lib.hid hi
        obtain ⟨ty, x, rfl⟩ := hi.form
        have C1 := Lib.hid (pair_nil2 w1 t _ hi (by omega))
        clear hi
        go_wp2_with fail
        refine (C1.out).mono ?_
        rintro e2 w2 ⟨hb2, rfl⟩
        have hi2 := HI.out.below hb2
        have C2 := Lib.hid (pair_nil1 w2 t _ hi2 (by omega))
        have HI2 := Lib.hid hi2
        clear hi2
        go_wp2_with fail
        refine (C2.out).mono ?_
        rintro e2 w3 ⟨hb3, rfl⟩
        have C3 := Lib.hid (hash_nil w3)
        go_wp2_with fail
        refine (C3.out).mono ?_
        rintro e2 w4 ⟨hb4, rfl⟩
        have hi4 := (HI2.out.below hb3).below hb4
        have C4 := Lib.hid (seal_nil1 w4 t _ hi4 (by omega))
        have HI4 := Lib.hid hi4
        clear hi4
        go_wp2_with fail
        refine (C4.out).mono ?_
        rintro e2 w5 ⟨hb5, rfl⟩
        have hi5 := HI4.out.below hb5
        have C5 := Lib.hid (seal_nil2 w5 t _ hi5 (by omega))
        clear hi5
        go_wp2_with fail
        refine (C5.out).mono ?_
        rintro e2 w6 ⟨hb6, rfl⟩
        go_wp2_with (first | (go_at_call 15; refine (kind_nil _).mono ?_; rintro e w' ⟨rfl, rfl⟩) | (go_at_call 16; refine (parts_nil _).mono ?_; rintro e w' ⟨rfl, rfl⟩) | (go_at_call 17; refine (within_nil _).mono ?_; rintro e w' ⟨rfl, rfl⟩) | (go_at_call 18; refine (size_nil _).mono ?_; rintro e w' ⟨rfl, rfl⟩) | (go_at_call 19; refine (depth_nil _).mono ?_; rintro e w' ⟨rfl, rfl⟩) | (go_at_call 20; refine (text_nil _).mono ?_; rintro e w' ⟨rfl, rfl⟩))
        refine (same_nil _).mono ?_
        rintro e7 w7 ⟨rfl, rfl⟩
        go_wp2_with fail
        refine (same_nil2 _ _ _).mono ?_
        rintro e7 w7 ⟨rfl, rfl⟩
        go_wp2_with fail
        refine (same_nil1 _ _ _).mono ?_
        rintro e7 w7 ⟨rfl, rfl⟩
        have HA := Lib.hid (alive_t w6)
        go_wp2_with fail
        refine (HA.out).mono ?_
        rintro e8 w8 h2
        obtain rfl := h2.2
        have hB2 := hb1.trans (hb2.mono hb1.size)
        have hB3 := hB2.trans (hb3.mono hB2.size)
        have hB4 := hB3.trans (hb4.mono hB3.size)
        have hB5 := hB4.trans (hb5.mono hB4.size)
        have hB6 := hB5.trans (hb6.mono hB5.size)
        have h3 := h2.of hB6
        clear h2
        go_wp2_with fail
        go_ret
        exact h3
theorem termsNil_walk (a : ByteArray) (w : World) (_ : a.size ≤ 140737488351232) : Calls Try.prog 4 #[.string a] w fun e w' => Below w.heap.size w w' ∧ e = .returned (.bool true) := by
  have h := termsNil_any a.data.toList w
  rw [show (⟨a.data.toList.toArray⟩ : ByteArray) = a from by simp] at h
  exact h
end Go.Proofs.Ytfbagojhnifajaa
