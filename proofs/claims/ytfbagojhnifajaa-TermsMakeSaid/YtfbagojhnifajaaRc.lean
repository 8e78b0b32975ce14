/- TermsMake: the walks. -/
import Derived.Test.YtfbagojhnifajaaRb
namespace Go.Proofs.Ytfbagojhnifajaa
open Go.RowKit
set_option maxRecDepth 100000
set_option linter.unusedVariables false
set_option linter.unusedSimpArgs false
theorem ba_of (a : ByteArray) : (⟨a.data.toList.toArray⟩ : ByteArray) = a := by simp
def bl (a : ByteArray) : List UInt8 := a.data.toList
theorem parse_ba (a : ByteArray) (w : World) : Calls Try.prog 9 #[.string a] w (ParseP w (pParse (bl a))) := by
  have h := parse_any a.data.toList w
  rw [ba_of] at h; exact h
theorem atom_ba_yes (a : ByteArray) (w : World) (h : atomOk (bl a) = true) : Calls Try.prog 6 #[.string a] w fun e w' => w = w' ∧ e = .returned (.tuple #[.iface 42 (.string a), .int .i64 0]) := by
  have h := atom_yes a.data.toList w h
  rw [ba_of] at h; exact h
theorem atom_ba_no (a : ByteArray) (w : World) (h : atomOk (bl a) = false) (hl : a.size ≤ 1000000) : Calls Try.prog 6 #[.string a] w fun e w' => w = w' ∧ e = .returned (.tuple #[.nilIface, .int .i64 3]) := by
  have h := atom_no a.data.toList w h (by rw [Array.length_toList]; exact hl)
  rw [ba_of] at h; exact h
theorem rAtom_ba (a : ByteArray) (w : World) (hl : a.size ≤ 1000000) : Calls Try.prog 7 #[.string a] w fun e w' => w = w' ∧ e = .returned (.bool (atomOk (bl a))) := by
  have h := rAtom_any a.data.toList w (by rw [Array.length_toList]; exact hl)
  rw [ba_of] at h; exact h
theorem as_atom (a : ByteArray) (h : atomOk (bl a) = true) (hl : a.size ≤ 2000) (w : World) : Calls Try.prog 8 #[.iface 42 (.string a), .string a] w (TrueP w) :=
  as_any (.atom a) _ h (by show a.data.toList.length ≤ 2000; rw [Array.length_toList]; exact hl) w rfl
theorem parse_fine {l : List UInt8} {t : T} {e : Int} (h : pParse l = (some t, e)) : Valid t ∧ l = t.tl ∧ e = 0 := by
  unfold pParse at h
  split at h
  · simp at h
  · rcases hq : pTerm 2001 l with ⟨o, e1, r⟩
    rw [hq] at h
    cases o with
    | none => simp [parseEnd] at h
    | some a =>
      have f := fine_term 2001 l a e1 r hq
      cases r with
      | nil =>
        simp only [parseEnd, Prod.mk.injEq, Option.some.injEq] at h
        obtain ⟨rfl, rfl⟩ := h
        exact ⟨f.valid, by rw [f.text]; simp, rfl⟩
      | cons c r => simp [parseEnd] at h
theorem parse_none {l : List UInt8} {e : Int} (h : pParse l = (none, e)) : (e != 0) = true ∧ (e == 0) = false := by
  have : (e != 0) = true := by
    unfold pParse at h
    split at h
    · simp only [Prod.mk.injEq, true_and] at h; subst h; decide
    · rcases hq : pTerm 2001 l with ⟨o, e1, r⟩
      have hG := good_term 2001 l
      rw [hq] at h hG
      cases o with
      | none => simp only [parseEnd, Prod.mk.injEq, true_and] at h; subst h; exact er_ne hG rfl
      | some a =>
        cases r with
        | nil => simp [parseEnd] at h
        | cons c r => simp only [parseEnd, Prod.mk.injEq, true_and] at h; subst h; decide
  exact ⟨this, e2_of this⟩
theorem eq_text {a : ByteArray} {t : T} (h : bl a = t.tl) : a = t.text := by
  rw [text_tl, ← h]; exact (ba_of a).symm
set_option maxHeartbeats 800000 in
theorem tm_big1 (a b : ByteArray) (ha : 2000 < a.size) (w : World) : Calls Try.prog 3 #[.string a, .string b] w (TrueP w) := by
  have HA := Lib.hid (alive_t w)
  go_enter Try.func3, Try.ntmps3
  go_wp2_with fail
  refine (HA.out).mono ?_
  rintro e1 w1 h2
  obtain rfl := h2.2
  go_wp2_with fail
  go_ret
  exact h2
set_option maxHeartbeats 800000 in
theorem tm_big2 (a b : ByteArray) (ha : a.size ≤ 2000) (hb : 2000 < b.size) (w : World) : Calls Try.prog 3 #[.string a, .string b] w (TrueP w) := by
  have HA := Lib.hid (alive_t w)
  go_enter Try.func3, Try.ntmps3
  go_wp2_with fail
  refine (HA.out).mono ?_
  rintro e1 w1 h2
  obtain rfl := h2.2
  go_wp2_with fail
  go_ret
  exact h2
set_option maxHeartbeats 4000000 in
theorem tm_y_nn (a b : ByteArray) (ha : a.size ≤ 2000) (hb : b.size ≤ 2000) (w : World) (hA : atomOk (bl a) = true) (e1_ : Int) (h1 : pParse (bl a) = (none, e1_)) (e2_ : Int) (h2 : pParse (bl b) = (none, e2_)) : Calls Try.prog 3 #[.string a, .string b] w (TrueP w) := by
  obtain ⟨k1, k2⟩ := parse_none h1
  obtain ⟨k3, k4⟩ := parse_none h2
  have C6 := Lib.hid (atom_ba_yes a w hA)
  have C7 := rAtom_ba a w (by omega)
  rw [hA] at C7
  have C8 := Lib.hid (as_atom a hA ha w)
  have C7 := Lib.hid C7
  have P1 := Lib.hid (fun w => parse_ba a w)
  have P2 := Lib.hid (fun w => parse_ba b w)
  rw [h1] at P1
  rw [h2] at P2
  clear hA h1 h2
  go_enter Try.func3, Try.ntmps3
  go_wp2_with fail
  refine (C6.out).mono ?_
  rintro e1 w1 ⟨rfl, rfl⟩
  go_wp2_with fail
  refine (C7.out).mono ?_
  rintro e1 w1 ⟨rfl, rfl⟩
  go_wp2_with fail
  refine (C8.out).mono ?_
  rintro e1 w1 ⟨hb1, rfl⟩
  go_wp2_with fail
  refine (P1.out _).mono ?_
  rintro e2 w2 ⟨hb2, ⟨-, rfl⟩ | ⟨t, v, ht, -⟩⟩
  · go_wp2_with fail
    refine (P2.out _).mono ?_
    rintro e3 w3 ⟨hb3, ⟨-, rfl⟩ | ⟨t', v', ht', -⟩⟩
    · have hB2 := Below.trans hb1 (hb2.mono (Below.size hb1))
      have hB3 := hB2.trans (hb3.mono hB2.size)
      have HB3 := Lib.hid hb3
      clear hb2 hb3 hb1
      go_wp2_with fail
      refine (same_nil _).mono ?_
      rintro e4 w4 ⟨rfl, rfl⟩
      have HA := Lib.hid (alive_t w3)
      go_wp2_with fail
      refine (HA.out).mono ?_
      rintro e5 w5 h5
      obtain rfl := h5.2
      have h6 := h5.of hB3
      clear h5
      go_wp2_with fail
      go_ret
      exact h6
    · cases ht'
  · cases ht
set_option maxHeartbeats 4000000 in
theorem tm_y_ns (a b : ByteArray) (ha : a.size ≤ 2000) (hb : b.size ≤ 2000) (w : World) (hA : atomOk (bl a) = true) (e1_ : Int) (h1 : pParse (bl a) = (none, e1_)) (t2 : T) (h2 : pParse (bl b) = (some t2, 0)) (v2 : Valid t2) (x2 : b = t2.text) : Calls Try.prog 3 #[.string a, .string b] w (TrueP w) := by
  obtain ⟨k1, k2⟩ := parse_none h1
  have C6 := Lib.hid (atom_ba_yes a w hA)
  have C7 := rAtom_ba a w (by omega)
  rw [hA] at C7
  have C8 := Lib.hid (as_atom a hA ha w)
  have C7 := Lib.hid C7
  have P1 := Lib.hid (fun w => parse_ba a w)
  have P2 := Lib.hid (fun w => parse_ba b w)
  rw [h1] at P1
  rw [h2] at P2
  clear hA h1 h2
  clear v2 x2
  go_enter Try.func3, Try.ntmps3
  go_wp2_with fail
  refine (C6.out).mono ?_
  rintro e1 w1 ⟨rfl, rfl⟩
  go_wp2_with fail
  refine (C7.out).mono ?_
  rintro e1 w1 ⟨rfl, rfl⟩
  go_wp2_with fail
  refine (C8.out).mono ?_
  rintro e1 w1 ⟨hb1, rfl⟩
  go_wp2_with fail
  refine (P1.out _).mono ?_
  rintro e2 w2 ⟨hb2, ⟨-, rfl⟩ | ⟨t, v, ht, -⟩⟩
  · go_wp2_with fail
    refine (P2.out _).mono ?_
    rintro e3 w3 ⟨hb3, ⟨hn, -⟩ | ⟨t', v', ht', rfl, hi'⟩⟩
    · cases hn
    · injection ht' with ht'
      subst ht'
      have HI2 := Lib.hid hi'
      obtain ⟨ty2, x2, rfl⟩ := hi'.form
      clear hi'
      have hB2 := Below.trans hb1 (hb2.mono (Below.size hb1))
      have hB3 := hB2.trans (hb3.mono hB2.size)
      have HB3 := Lib.hid hb3
      clear hb2 hb3 hb1
      go_wp2_with fail
      refine (same_nil1 _ _ _).mono ?_
      rintro e4 w4 ⟨rfl, rfl⟩
      have HA := Lib.hid (alive_t w3)
      go_wp2_with fail
      refine (HA.out).mono ?_
      rintro e5 w5 h5
      obtain rfl := h5.2
      have h6 := h5.of hB3
      clear h5
      go_wp2_with fail
      go_ret
      exact h6
  · cases ht
set_option maxHeartbeats 4000000 in
theorem tm_y_sn (a b : ByteArray) (ha : a.size ≤ 2000) (hb : b.size ≤ 2000) (w : World) (hA : atomOk (bl a) = true) (t1 : T) (h1 : pParse (bl a) = (some t1, 0)) (v1 : Valid t1) (x1 : a = t1.text) (e2_ : Int) (h2 : pParse (bl b) = (none, e2_)) : Calls Try.prog 3 #[.string a, .string b] w (TrueP w) := by
  obtain ⟨k3, k4⟩ := parse_none h2
  have C6 := Lib.hid (atom_ba_yes a w hA)
  have C7 := rAtom_ba a w (by omega)
  rw [hA] at C7
  have C8 := Lib.hid (as_atom a hA ha w)
  have C7 := Lib.hid C7
  have P1 := Lib.hid (fun w => parse_ba a w)
  have P2 := Lib.hid (fun w => parse_ba b w)
  rw [h1] at P1
  rw [h2] at P2
  clear hA h1 h2
  clear v1 x1
  go_enter Try.func3, Try.ntmps3
  go_wp2_with fail
  refine (C6.out).mono ?_
  rintro e1 w1 ⟨rfl, rfl⟩
  go_wp2_with fail
  refine (C7.out).mono ?_
  rintro e1 w1 ⟨rfl, rfl⟩
  go_wp2_with fail
  refine (C8.out).mono ?_
  rintro e1 w1 ⟨hb1, rfl⟩
  go_wp2_with fail
  refine (P1.out _).mono ?_
  rintro e2 w2 ⟨hb2, ⟨hn, -⟩ | ⟨t, v, ht, rfl, hi⟩⟩
  · cases hn
  · injection ht with ht
    subst ht
    have HI := Lib.hid hi
    obtain ⟨ty, x, rfl⟩ := hi.form
    clear hi
    go_wp2_with fail
    refine (P2.out _).mono ?_
    rintro e3 w3 ⟨hb3, ⟨-, rfl⟩ | ⟨t', v', ht', -⟩⟩
    · have hB2 := Below.trans hb1 (hb2.mono (Below.size hb1))
      have hB3 := hB2.trans (hb3.mono hB2.size)
      have HB3 := Lib.hid hb3
      clear hb2 hb3 hb1
      go_wp2_with fail
      refine (same_nil2 _ _ _).mono ?_
      rintro e4 w4 ⟨rfl, rfl⟩
      have HA := Lib.hid (alive_t w3)
      go_wp2_with fail
      refine (HA.out).mono ?_
      rintro e5 w5 h5
      obtain rfl := h5.2
      have h6 := h5.of hB3
      clear h5
      go_wp2_with fail
      go_ret
      exact h6
    · cases ht'
set_option maxHeartbeats 4000000 in
theorem tm_y_ss (a b : ByteArray) (ha : a.size ≤ 2000) (hb : b.size ≤ 2000) (w : World) (hA : atomOk (bl a) = true) (t1 : T) (h1 : pParse (bl a) = (some t1, 0)) (v1 : Valid t1) (x1 : a = t1.text) (t2 : T) (h2 : pParse (bl b) = (some t2, 0)) (v2 : Valid t2) (x2 : b = t2.text) : Calls Try.prog 3 #[.string a, .string b] w (TrueP w) := by
  have C6 := Lib.hid (atom_ba_yes a w hA)
  have C7 := rAtom_ba a w (by omega)
  rw [hA] at C7
  have C8 := Lib.hid (as_atom a hA ha w)
  have C7 := Lib.hid C7
  have P1 := Lib.hid (fun w => parse_ba a w)
  have P2 := Lib.hid (fun w => parse_ba b w)
  rw [h1] at P1
  rw [h2] at P2
  clear hA h1 h2
  have V1 := Lib.hid v1
  have V2 := Lib.hid v2
  subst x1
  subst x2
  clear v1 v2
  go_enter Try.func3, Try.ntmps3
  go_wp2_with fail
  refine (C6.out).mono ?_
  rintro e1 w1 ⟨rfl, rfl⟩
  go_wp2_with fail
  refine (C7.out).mono ?_
  rintro e1 w1 ⟨rfl, rfl⟩
  go_wp2_with fail
  refine (C8.out).mono ?_
  rintro e1 w1 ⟨hb1, rfl⟩
  go_wp2_with fail
  refine (P1.out _).mono ?_
  rintro e2 w2 ⟨hb2, ⟨hn, -⟩ | ⟨t, v, ht, rfl, hi⟩⟩
  · cases hn
  · injection ht with ht
    subst ht
    have HI := Lib.hid hi
    obtain ⟨ty, x, rfl⟩ := hi.form
    clear hi
    go_wp2_with fail
    refine (P2.out _).mono ?_
    rintro e3 w3 ⟨hb3, ⟨hn, -⟩ | ⟨t', v', ht', rfl, hi'⟩⟩
    · cases hn
    · injection ht' with ht'
      subst ht'
      have HI2 := Lib.hid hi'
      obtain ⟨ty2, x2, rfl⟩ := hi'.form
      clear hi'
      have hB2 := Below.trans hb1 (hb2.mono (Below.size hb1))
      have hB3 := hB2.trans (hb3.mono hB2.size)
      have HB3 := Lib.hid hb3
      clear hb2 hb3 hb1
      go_wp2_with fail
      have hi1 := HI.out.below (w := w2) (w' := w3) HB3.out
      have CP := Lib.hid (pair_mp w3 t1 t2 _ _ hi1 HI2.out V1.out V2.out)
      have HI1 := Lib.hid hi1
      clear hi1 HI
      refine (CP.out).mono ?_
      rintro e4 w4 ⟨hb4, vp, ep, rfl, mp⟩
      have M1 : Hid (∀ w', Below w4.heap.size w4 w' → Calls Try.prog 14 #[vp, .int .i64 ep, .string (⟨#[40]⟩ ++ t1.text ++ ⟨#[32]⟩ ++ t2.text ++ ⟨#[41]⟩)] w' (TrueP w')) := mp
      have J1 := Lib.hid (HI1.out.below hb4)
      have J2 := Lib.hid (HI2.out.below hb4)
      have CH := Lib.hid (hash_mp w4 t1 _ J1.out V1.out)
      have hB4 := hB3.trans (hb4.mono hB3.size)
      clear mp hb4
      go_wp2_with fail
      refine (CH.out).mono ?_
      rintro e5 w5 ⟨hb5, vh, eh, rfl, mp⟩
      have M2 : Hid (∀ w', Below w5.heap.size w5 w' → Calls Try.prog 14 #[vh, .int .i64 eh, .string (⟨#[35]⟩ ++ t1.text)] w' (TrueP w')) := mp
      have HB5 := Lib.hid hb5
      have K1 := Lib.hid (J1.out.below hb5)
      have K2 := Lib.hid (J2.out.below hb5)
      have CS := Lib.hid (seal_mp w5 t1 t2 _ _ K1.out K2.out V1.out V2.out)
      have hB5 := hB4.trans (hb5.mono hB4.size)
      clear mp hb5
      go_wp2_with fail
      refine (CS.out).mono ?_
      rintro e6 w6 ⟨hb6, vq, eq_, rfl, mp⟩
      have M3 : Hid (∀ w', Below w6.heap.size w6 w' → Calls Try.prog 14 #[vq, .int .i64 eq_, .string (⟨#[91]⟩ ++ t1.text ++ ⟨#[32]⟩ ++ t2.text ++ ⟨#[93]⟩)] w' (TrueP w')) := mp
      have HB6 := Lib.hid hb6
      have L1 := Lib.hid (K1.out.below hb6)
      have L2 := Lib.hid (K2.out.below hb6)
      have hB6 := hB5.trans (hb6.mono hB5.size)
      clear mp hb6
      go_wp2_with fail
      refine (M1.out _ (HB5.out.trans (HB6.out.mono HB5.out.size))).mono ?_
      rintro e7 w7 ⟨hb7, rfl⟩
      have HB7 := Lib.hid hb7
      have hB7 := hB6.trans (hb7.mono hB6.size)
      clear hb7
      go_wp2_with fail
      refine (M2.out _ (HB6.out.trans (HB7.out.mono HB6.out.size))).mono ?_
      rintro e8 w8 ⟨hb8, rfl⟩
      have HB8 := Lib.hid hb8
      have hB8 := hB7.trans (hb8.mono hB7.size)
      clear hb8
      go_wp2_with fail
      refine (M3.out _ (HB7.out.trans (HB8.out.mono HB7.out.size))).mono ?_
      rintro e9 w9 ⟨hb9, rfl⟩
      have hB9 := hB8.trans (hb9.mono hB8.size)
      have Z1 := ((L1.out.below HB7.out).below HB8.out).below hb9
      have Z2 := ((L2.out.below HB7.out).below HB8.out).below hb9
      have C10 := Lib.hid (same_any w9 t1 t2 _ _ Z1 Z2 (by omega) (by omega))
      clear Z1 Z2 hb9
      go_wp2_with fail
      refine (C10.out).mono ?_
      rintro e10 w10 ⟨rfl, n10, rfl⟩
      have hB10 := below_dN hB9 n10
      have HA := Lib.hid (alive_t (w9.drewN n10))
      have hcc : ((t1.text.toList == t2.text.toList) == (t1.text.toList == t2.text.toList)) = true := by simp
      go_wp2_with fail
      refine (HA.out).mono ?_
      rintro e11 w11 h5
      obtain rfl := h5.2
      have h6 := h5.of hB10
      clear h5
      go_wp2_with fail
      go_ret
      exact h6
set_option maxHeartbeats 4000000 in
theorem tm_n_nn (a b : ByteArray) (ha : a.size ≤ 2000) (hb : b.size ≤ 2000) (w : World) (hA : atomOk (bl a) = false) (e1_ : Int) (h1 : pParse (bl a) = (none, e1_)) (e2_ : Int) (h2 : pParse (bl b) = (none, e2_)) : Calls Try.prog 3 #[.string a, .string b] w (TrueP w) := by
  obtain ⟨k1, k2⟩ := parse_none h1
  obtain ⟨k3, k4⟩ := parse_none h2
  have C6 := Lib.hid (atom_ba_no a w hA (by omega))
  have C7 := rAtom_ba a w (by omega)
  rw [hA] at C7
  have C7 := Lib.hid C7
  have P1 := Lib.hid (fun w => parse_ba a w)
  have P2 := Lib.hid (fun w => parse_ba b w)
  rw [h1] at P1
  rw [h2] at P2
  clear hA h1 h2
  go_enter Try.func3, Try.ntmps3
  go_wp2_with fail
  refine (C6.out).mono ?_
  rintro e1 w1 ⟨rfl, rfl⟩
  go_wp2_with fail
  refine (C7.out).mono ?_
  rintro e1 w1 ⟨rfl, rfl⟩
  go_wp2_with fail
  refine (P1.out _).mono ?_
  rintro e2 w2 ⟨hb2, ⟨-, rfl⟩ | ⟨t, v, ht, -⟩⟩
  · go_wp2_with fail
    refine (P2.out _).mono ?_
    rintro e3 w3 ⟨hb3, ⟨-, rfl⟩ | ⟨t', v', ht', -⟩⟩
    · have hB2 := Below.trans (Below.refl w.heap.size w) (hb2.mono (Below.size (Below.refl w.heap.size w)))
      have hB3 := hB2.trans (hb3.mono hB2.size)
      have HB3 := Lib.hid hb3
      clear hb2 hb3
      go_wp2_with fail
      refine (same_nil _).mono ?_
      rintro e4 w4 ⟨rfl, rfl⟩
      have HA := Lib.hid (alive_t w3)
      go_wp2_with fail
      refine (HA.out).mono ?_
      rintro e5 w5 h5
      obtain rfl := h5.2
      have h6 := h5.of hB3
      clear h5
      go_wp2_with fail
      go_ret
      exact h6
    · cases ht'
  · cases ht
set_option maxHeartbeats 4000000 in
theorem tm_n_ns (a b : ByteArray) (ha : a.size ≤ 2000) (hb : b.size ≤ 2000) (w : World) (hA : atomOk (bl a) = false) (e1_ : Int) (h1 : pParse (bl a) = (none, e1_)) (t2 : T) (h2 : pParse (bl b) = (some t2, 0)) (v2 : Valid t2) (x2 : b = t2.text) : Calls Try.prog 3 #[.string a, .string b] w (TrueP w) := by
  obtain ⟨k1, k2⟩ := parse_none h1
  have C6 := Lib.hid (atom_ba_no a w hA (by omega))
  have C7 := rAtom_ba a w (by omega)
  rw [hA] at C7
  have C7 := Lib.hid C7
  have P1 := Lib.hid (fun w => parse_ba a w)
  have P2 := Lib.hid (fun w => parse_ba b w)
  rw [h1] at P1
  rw [h2] at P2
  clear hA h1 h2
  clear v2 x2
  go_enter Try.func3, Try.ntmps3
  go_wp2_with fail
  refine (C6.out).mono ?_
  rintro e1 w1 ⟨rfl, rfl⟩
  go_wp2_with fail
  refine (C7.out).mono ?_
  rintro e1 w1 ⟨rfl, rfl⟩
  go_wp2_with fail
  refine (P1.out _).mono ?_
  rintro e2 w2 ⟨hb2, ⟨-, rfl⟩ | ⟨t, v, ht, -⟩⟩
  · go_wp2_with fail
    refine (P2.out _).mono ?_
    rintro e3 w3 ⟨hb3, ⟨hn, -⟩ | ⟨t', v', ht', rfl, hi'⟩⟩
    · cases hn
    · injection ht' with ht'
      subst ht'
      have HI2 := Lib.hid hi'
      obtain ⟨ty2, x2, rfl⟩ := hi'.form
      clear hi'
      have hB2 := Below.trans (Below.refl w.heap.size w) (hb2.mono (Below.size (Below.refl w.heap.size w)))
      have hB3 := hB2.trans (hb3.mono hB2.size)
      have HB3 := Lib.hid hb3
      clear hb2 hb3
      go_wp2_with fail
      refine (same_nil1 _ _ _).mono ?_
      rintro e4 w4 ⟨rfl, rfl⟩
      have HA := Lib.hid (alive_t w3)
      go_wp2_with fail
      refine (HA.out).mono ?_
      rintro e5 w5 h5
      obtain rfl := h5.2
      have h6 := h5.of hB3
      clear h5
      go_wp2_with fail
      go_ret
      exact h6
  · cases ht
set_option maxHeartbeats 4000000 in
theorem tm_n_sn (a b : ByteArray) (ha : a.size ≤ 2000) (hb : b.size ≤ 2000) (w : World) (hA : atomOk (bl a) = false) (t1 : T) (h1 : pParse (bl a) = (some t1, 0)) (v1 : Valid t1) (x1 : a = t1.text) (e2_ : Int) (h2 : pParse (bl b) = (none, e2_)) : Calls Try.prog 3 #[.string a, .string b] w (TrueP w) := by
  obtain ⟨k3, k4⟩ := parse_none h2
  have C6 := Lib.hid (atom_ba_no a w hA (by omega))
  have C7 := rAtom_ba a w (by omega)
  rw [hA] at C7
  have C7 := Lib.hid C7
  have P1 := Lib.hid (fun w => parse_ba a w)
  have P2 := Lib.hid (fun w => parse_ba b w)
  rw [h1] at P1
  rw [h2] at P2
  clear hA h1 h2
  clear v1 x1
  go_enter Try.func3, Try.ntmps3
  go_wp2_with fail
  refine (C6.out).mono ?_
  rintro e1 w1 ⟨rfl, rfl⟩
  go_wp2_with fail
  refine (C7.out).mono ?_
  rintro e1 w1 ⟨rfl, rfl⟩
  go_wp2_with fail
  refine (P1.out _).mono ?_
  rintro e2 w2 ⟨hb2, ⟨hn, -⟩ | ⟨t, v, ht, rfl, hi⟩⟩
  · cases hn
  · injection ht with ht
    subst ht
    have HI := Lib.hid hi
    obtain ⟨ty, x, rfl⟩ := hi.form
    clear hi
    go_wp2_with fail
    refine (P2.out _).mono ?_
    rintro e3 w3 ⟨hb3, ⟨-, rfl⟩ | ⟨t', v', ht', -⟩⟩
    · have hB2 := Below.trans (Below.refl w.heap.size w) (hb2.mono (Below.size (Below.refl w.heap.size w)))
      have hB3 := hB2.trans (hb3.mono hB2.size)
      have HB3 := Lib.hid hb3
      clear hb2 hb3
      go_wp2_with fail
      refine (same_nil2 _ _ _).mono ?_
      rintro e4 w4 ⟨rfl, rfl⟩
      have HA := Lib.hid (alive_t w3)
      go_wp2_with fail
      refine (HA.out).mono ?_
      rintro e5 w5 h5
      obtain rfl := h5.2
      have h6 := h5.of hB3
      clear h5
      go_wp2_with fail
      go_ret
      exact h6
    · cases ht'
set_option maxHeartbeats 4000000 in
theorem tm_n_ss (a b : ByteArray) (ha : a.size ≤ 2000) (hb : b.size ≤ 2000) (w : World) (hA : atomOk (bl a) = false) (t1 : T) (h1 : pParse (bl a) = (some t1, 0)) (v1 : Valid t1) (x1 : a = t1.text) (t2 : T) (h2 : pParse (bl b) = (some t2, 0)) (v2 : Valid t2) (x2 : b = t2.text) : Calls Try.prog 3 #[.string a, .string b] w (TrueP w) := by
  have C6 := Lib.hid (atom_ba_no a w hA (by omega))
  have C7 := rAtom_ba a w (by omega)
  rw [hA] at C7
  have C7 := Lib.hid C7
  have P1 := Lib.hid (fun w => parse_ba a w)
  have P2 := Lib.hid (fun w => parse_ba b w)
  rw [h1] at P1
  rw [h2] at P2
  clear hA h1 h2
  have V1 := Lib.hid v1
  have V2 := Lib.hid v2
  subst x1
  subst x2
  clear v1 v2
  go_enter Try.func3, Try.ntmps3
  go_wp2_with fail
  refine (C6.out).mono ?_
  rintro e1 w1 ⟨rfl, rfl⟩
  go_wp2_with fail
  refine (C7.out).mono ?_
  rintro e1 w1 ⟨rfl, rfl⟩
  go_wp2_with fail
  refine (P1.out _).mono ?_
  rintro e2 w2 ⟨hb2, ⟨hn, -⟩ | ⟨t, v, ht, rfl, hi⟩⟩
  · cases hn
  · injection ht with ht
    subst ht
    have HI := Lib.hid hi
    obtain ⟨ty, x, rfl⟩ := hi.form
    clear hi
    go_wp2_with fail
    refine (P2.out _).mono ?_
    rintro e3 w3 ⟨hb3, ⟨hn, -⟩ | ⟨t', v', ht', rfl, hi'⟩⟩
    · cases hn
    · injection ht' with ht'
      subst ht'
      have HI2 := Lib.hid hi'
      obtain ⟨ty2, x2, rfl⟩ := hi'.form
      clear hi'
      have hB2 := Below.trans (Below.refl w.heap.size w) (hb2.mono (Below.size (Below.refl w.heap.size w)))
      have hB3 := hB2.trans (hb3.mono hB2.size)
      have HB3 := Lib.hid hb3
      clear hb2 hb3
      go_wp2_with fail
      have hi1 := HI.out.below (w := w2) (w' := w3) HB3.out
      have CP := Lib.hid (pair_mp w3 t1 t2 _ _ hi1 HI2.out V1.out V2.out)
      have HI1 := Lib.hid hi1
      clear hi1 HI
      refine (CP.out).mono ?_
      rintro e4 w4 ⟨hb4, vp, ep, rfl, mp⟩
      have M1 : Hid (∀ w', Below w4.heap.size w4 w' → Calls Try.prog 14 #[vp, .int .i64 ep, .string (⟨#[40]⟩ ++ t1.text ++ ⟨#[32]⟩ ++ t2.text ++ ⟨#[41]⟩)] w' (TrueP w')) := mp
      have J1 := Lib.hid (HI1.out.below hb4)
      have J2 := Lib.hid (HI2.out.below hb4)
      have CH := Lib.hid (hash_mp w4 t1 _ J1.out V1.out)
      have hB4 := hB3.trans (hb4.mono hB3.size)
      clear mp hb4
      go_wp2_with fail
      refine (CH.out).mono ?_
      rintro e5 w5 ⟨hb5, vh, eh, rfl, mp⟩
      have M2 : Hid (∀ w', Below w5.heap.size w5 w' → Calls Try.prog 14 #[vh, .int .i64 eh, .string (⟨#[35]⟩ ++ t1.text)] w' (TrueP w')) := mp
      have HB5 := Lib.hid hb5
      have K1 := Lib.hid (J1.out.below hb5)
      have K2 := Lib.hid (J2.out.below hb5)
      have CS := Lib.hid (seal_mp w5 t1 t2 _ _ K1.out K2.out V1.out V2.out)
      have hB5 := hB4.trans (hb5.mono hB4.size)
      clear mp hb5
      go_wp2_with fail
      refine (CS.out).mono ?_
      rintro e6 w6 ⟨hb6, vq, eq_, rfl, mp⟩
      have M3 : Hid (∀ w', Below w6.heap.size w6 w' → Calls Try.prog 14 #[vq, .int .i64 eq_, .string (⟨#[91]⟩ ++ t1.text ++ ⟨#[32]⟩ ++ t2.text ++ ⟨#[93]⟩)] w' (TrueP w')) := mp
      have HB6 := Lib.hid hb6
      have L1 := Lib.hid (K1.out.below hb6)
      have L2 := Lib.hid (K2.out.below hb6)
      have hB6 := hB5.trans (hb6.mono hB5.size)
      clear mp hb6
      go_wp2_with fail
      refine (M1.out _ (HB5.out.trans (HB6.out.mono HB5.out.size))).mono ?_
      rintro e7 w7 ⟨hb7, rfl⟩
      have HB7 := Lib.hid hb7
      have hB7 := hB6.trans (hb7.mono hB6.size)
      clear hb7
      go_wp2_with fail
      refine (M2.out _ (HB6.out.trans (HB7.out.mono HB6.out.size))).mono ?_
      rintro e8 w8 ⟨hb8, rfl⟩
      have HB8 := Lib.hid hb8
      have hB8 := hB7.trans (hb8.mono hB7.size)
      clear hb8
      go_wp2_with fail
      refine (M3.out _ (HB7.out.trans (HB8.out.mono HB7.out.size))).mono ?_
      rintro e9 w9 ⟨hb9, rfl⟩
      have hB9 := hB8.trans (hb9.mono hB8.size)
      have Z1 := ((L1.out.below HB7.out).below HB8.out).below hb9
      have Z2 := ((L2.out.below HB7.out).below HB8.out).below hb9
      have C10 := Lib.hid (same_any w9 t1 t2 _ _ Z1 Z2 (by omega) (by omega))
      clear Z1 Z2 hb9
      go_wp2_with fail
      refine (C10.out).mono ?_
      rintro e10 w10 ⟨rfl, n10, rfl⟩
      have hB10 := below_dN hB9 n10
      have HA := Lib.hid (alive_t (w9.drewN n10))
      have hcc : ((t1.text.toList == t2.text.toList) == (t1.text.toList == t2.text.toList)) = true := by simp
      go_wp2_with fail
      refine (HA.out).mono ?_
      rintro e11 w11 h5
      obtain rfl := h5.2
      have h6 := h5.of hB10
      clear h5
      go_wp2_with fail
      go_ret
      exact h6
theorem termsMake_walk (a b : ByteArray) (w : World) (_ : a.size ≤ 140737488351232) (_ : b.size ≤ 140737488351232) : Calls Try.prog 3 #[.string a, .string b] w fun e w' => Below w.heap.size w w' ∧ e = .returned (.bool true) := by
  by_cases ha : 2000 < a.size
  · exact tm_big1 a b ha w
  by_cases hb : 2000 < b.size
  · exact tm_big2 a b (by omega) hb w
  have ha' : a.size ≤ 2000 := by omega
  have hb' : b.size ≤ 2000 := by omega
  rcases h1 : pParse (bl a) with ⟨o1, e1⟩
  rcases h2 : pParse (bl b) with ⟨o2, e2⟩
  cases hA : atomOk (bl a) <;> cases o1 <;> cases o2
  · exact tm_n_nn a b ha' hb' w hA e1 h1 e2 h2
  · obtain ⟨v2, x2, rfl⟩ := parse_fine h2
    exact tm_n_ns a b ha' hb' w hA e1 h1 _ h2 v2 (eq_text x2)
  · obtain ⟨v1, x1, rfl⟩ := parse_fine h1
    exact tm_n_sn a b ha' hb' w hA _ h1 v1 (eq_text x1) e2 h2
  · obtain ⟨v1, x1, rfl⟩ := parse_fine h1
    obtain ⟨v2, x2, rfl⟩ := parse_fine h2
    exact tm_n_ss a b ha' hb' w hA _ h1 v1 (eq_text x1) _ h2 v2 (eq_text x2)
  · exact tm_y_nn a b ha' hb' w hA e1 h1 e2 h2
  · obtain ⟨v2, x2, rfl⟩ := parse_fine h2
    exact tm_y_ns a b ha' hb' w hA e1 h1 _ h2 v2 (eq_text x2)
  · obtain ⟨v1, x1, rfl⟩ := parse_fine h1
    exact tm_y_sn a b ha' hb' w hA _ h1 v1 (eq_text x1) e2 h2
  · obtain ⟨v1, x1, rfl⟩ := parse_fine h1
    obtain ⟨v2, x2, rfl⟩ := parse_fine h2
    exact tm_y_ss a b ha' hb' w hA _ h1 v1 (eq_text x1) _ h2 v2 (eq_text x2)
end Go.Proofs.Ytfbagojhnifajaa
