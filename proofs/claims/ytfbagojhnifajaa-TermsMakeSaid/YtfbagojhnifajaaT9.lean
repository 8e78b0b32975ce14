/- term and Parse. -/
import Derived.Test.YtfbagojhnifajaaT8
namespace Go.Proofs.Ytfbagojhnifajaa
open Go.RowKit
set_option maxRecDepth 100000
set_option linter.unusedVariables false
set_option linter.unusedSimpArgs false
theorem ba_tail (c : UInt8) (s : List UInt8) : (⟨(c :: s).toArray⟩ : ByteArray).extract 1 (s.length + 1) = ⟨s.toArray⟩ := by rw [ba_ext]; simp
theorem ba_take (l : List UInt8) (k : Nat) : (⟨l.toArray⟩ : ByteArray).extract 0 k = ⟨(l.take k).toArray⟩ := by rw [ba_ext]; simp
theorem ba_drop (c : UInt8) (s : List UInt8) (k : Nat) : (⟨(c :: s).toArray⟩ : ByteArray).extract k (s.length + 1) = ⟨((c :: s).drop k).toArray⟩ := by
  rw [ba_ext, List.take_of_length_le (by simp)]
attribute [go_sem] ba_tail ba_take ba_drop
theorem made11 : MadeC 11 .pair := fun w a b va vb h1 h2 s1 s2 => pair_any w a b va vb h1 h2 s1 s2
theorem made13 : MadeC 13 .seal_ := fun w a b va vb h1 h2 s1 s2 => seal_any w a b va vb h1 h2 s1 s2
set_option maxHeartbeats 400000 in
theorem term_nil (w : World) (g : Nat) (hr : Rdr w g []) : Calls Try.prog 27 #[.pointer (some ⟨g, 0, none⟩)] w (PPost w g (none, 4, [])) := by
  have hc := hr.cell
  have Hr := Lib.hid hr
  clear hr
  go_enter Try.func27, Try.ntmps27
  go_wp2_with fail
  go_ret2
  exact ⟨Hr.out, World.grownBy.refl _ _, .inl ⟨rfl, rfl⟩⟩
set_option maxHeartbeats 400000 in
theorem term_pair (B : Nat) (hB : B ≤ 999999) (p : List UInt8 → PR) (hp : TermC B p) (hG : ∀ s, Good s (p s)) (s : List UInt8) (w : World) (g : Nat) (hs : s.length ≤ B) (hr : Rdr w g (40 :: s)) :
    Calls Try.prog 27 #[.pointer (some ⟨g, 0, none⟩)] w (PPost w g (pTwo p 41 .pair s)) := by
  have hc := hr.cell
  have hf := hr.free
  have Hr := Lib.hid hr
  have H2 := Lib.hid (two_any_11 B (by omega) p hp hG 41 41 rfl .pair s (w.setCell ⟨g, 0, none⟩ (.string ⟨s.toArray⟩)) g (by omega) (hr.set s) made11)
  clear hr hp hG
  go_enter Try.func27, Try.ntmps27
  go_wp2_with fail
  refine (H2.out).mono ?_
  rintro e1 w1 ⟨hr1, hg1, ⟨hn, rfl⟩ | ⟨t, v, ht, rfl, hi⟩⟩
  · go_wp2_with fail
    go_ret2
    exact ⟨hr1, (only_set w g _).trans hg1, .inl ⟨hn, rfl⟩⟩
  · go_wp2_with fail
    go_ret2
    exact ⟨hr1, (only_set w g _).trans hg1, .inr ⟨t, v, ht, rfl, hi⟩⟩
set_option maxHeartbeats 400000 in
theorem term_seal (B : Nat) (hB : B ≤ 999999) (p : List UInt8 → PR) (hp : TermC B p) (hG : ∀ s, Good s (p s)) (s : List UInt8) (w : World) (g : Nat) (hs : s.length ≤ B) (hr : Rdr w g (91 :: s)) :
    Calls Try.prog 27 #[.pointer (some ⟨g, 0, none⟩)] w (PPost w g (pTwo p 93 .seal_ s)) := by
  have hc := hr.cell
  have hf := hr.free
  have Hr := Lib.hid hr
  have H2 := Lib.hid (two_any_13 B (by omega) p hp hG 93 93 rfl .seal_ s (w.setCell ⟨g, 0, none⟩ (.string ⟨s.toArray⟩)) g (by omega) (hr.set s) made13)
  clear hr hp hG
  go_enter Try.func27, Try.ntmps27
  go_wp2_with fail
  refine (H2.out).mono ?_
  rintro e1 w1 ⟨hr1, hg1, ⟨hn, rfl⟩ | ⟨t, v, ht, rfl, hi⟩⟩
  · go_wp2_with fail
    go_ret2
    exact ⟨hr1, (only_set w g _).trans hg1, .inl ⟨hn, rfl⟩⟩
  · go_wp2_with fail
    go_ret2
    exact ⟨hr1, (only_set w g _).trans hg1, .inr ⟨t, v, ht, rfl, hi⟩⟩
def hashEnd (x : PR) : PR :=
  match x with
  | (none, e, r) => (none, e, r)
  | (some a, _, r) => if roomBad [a] then (none, 8, r) else (some (.hash a), 0, r)
set_option maxHeartbeats 400000 in
theorem term_hash (B : Nat) (hB : B ≤ 999999) (p : List UInt8 → PR) (hp : TermC B p) (hG : ∀ s, Good s (p s)) (s : List UInt8) (w : World) (g : Nat) (hs : s.length ≤ B) (hr : Rdr w g (35 :: s)) :
    Calls Try.prog 27 #[.pointer (some ⟨g, 0, none⟩)] w (PPost w g (hashEnd (p s))) := by
  have hc := hr.cell
  have hf := hr.free
  have Hr := Lib.hid hr
  have H2 := Lib.hid (hp s (w.setCell ⟨g, 0, none⟩ (.string ⟨s.toArray⟩)) g (by omega) (hr.set s))
  have HG := Lib.hid (hG s)
  clear hr hp hG
  generalize p s = x at *
  obtain ⟨o, e, r⟩ := x
  cases o with
  | none =>
    have he := er_ne HG.out rfl
    dsimp only at he
    go_enter Try.func27, Try.ntmps27
    go_wp2_with fail
    refine (H2.out).mono ?_
    rintro e1 w1 ⟨hr1, hg1, ⟨-, rfl⟩ | ⟨t, v, ht, -⟩⟩
    · dsimp only at hr1
      go_wp2_with fail
      go_ret2
      exact ⟨hr1, (only_set w g _).trans hg1, .inl ⟨rfl, rfl⟩⟩
    · cases ht
  | some a =>
    have hz := HG.out.ok a rfl
    go_enter Try.func27, Try.ntmps27
    go_wp2_with fail
    refine (H2.out).mono ?_
    rintro e1 w1 ⟨hr1, hg1, ⟨hn, -⟩ | ⟨t, v, ht, rfl, hi⟩⟩
    · cases hn
    · dsimp only at hr1
      injection ht with ht
      subst ht
      have H3 := Lib.hid (hash_any w1 a v hi (by omega))
      clear hi
      go_wp2_with fail
      refine (H3.out).mono ?_
      rintro e5 w5 ⟨hb5, ⟨hbad, rfl⟩ | ⟨hgood, vt, rfl, hit⟩⟩
      · have hfin : Hid (hashEnd (some a, e, r) = (none, 8, r)) := by unfold hashEnd; dsimp only; rw [hbad]; exact rfl
        clear hbad
        go_wp2_with fail
        go_ret2
        rw [hfin.out]
        exact ⟨hr1.below hb5, ((only_set w g _).trans hg1).trans (only_below hb5 _), .inl ⟨rfl, rfl⟩⟩
      · have hfin : Hid (hashEnd (some a, e, r) = (some (.hash a), 0, r)) := by unfold hashEnd; dsimp only; rw [hgood]; exact rfl
        clear hgood
        go_wp2_with fail
        go_ret2
        rw [hfin.out]
        exact ⟨hr1.below hb5, ((only_set w g _).trans hg1).trans (only_below hb5 _), .inr ⟨_, _, rfl, rfl, hit⟩⟩
def atomEnd (l : List UInt8) (k : Nat) : PR := if atomOk (l.take k) then (some (.atom ⟨(l.take k).toArray⟩), 0, l.drop k) else (none, 3, l.drop k)
set_option maxHeartbeats 400000 in
theorem term_atom (c : UInt8) (s : List UInt8) (w : World) (g : Nat) (hs : s.length ≤ 999999) (hr : Rdr w g (c :: s)) (h1 : c ≠ 40) (h2 : c ≠ 91) (h3 : c ≠ 35) :
    Calls Try.prog 27 #[.pointer (some ⟨g, 0, none⟩)] w (PPost w g (atomEnd (c :: s) (nm true (c :: s)))) := by
  have hc := hr.cell
  have hf := hr.free
  have Hr := Lib.hid hr
  have g1 : ((c.toNat : Int) == 40) = false := by rw [beq_eq_false_iff_ne]; intro e; exact h1 (UInt8.toNat_inj.1 (by simpa using (by omega : c.toNat = 40)))
  have g2 : ((c.toNat : Int) == 91) = false := by rw [beq_eq_false_iff_ne]; intro e; exact h2 (UInt8.toNat_inj.1 (by simpa using (by omega : c.toNat = 91)))
  have g3 : ((c.toNat : Int) == 35) = false := by rw [beq_eq_false_iff_ne]; intro e; exact h3 (UInt8.toNat_inj.1 (by simpa using (by omega : c.toNat = 35)))
  have HN := Lib.hid (name_any (c :: s) w (by simp; omega))
  have hle : (nm true (c :: s) : Int) ≤ s.length + 1 := by have := nm_le true (c :: s); simp only [List.length_cons] at this; omega
  have hlen : (c :: s).length ≤ 1000000 := by simp; omega
  clear hr h1 h2 h3
  generalize hk : nm true (c :: s) = k at *
  clear hk
  cases hA : atomOk ((c :: s).take k) with
  | true =>
    have hfin : Hid (atomEnd (c :: s) k = (some (.atom ⟨((c :: s).take k).toArray⟩), 0, (c :: s).drop k)) := by unfold atomEnd; rw [hA]; exact rfl
    have H6 := Lib.hid (atom_yes _ w hA)
    clear hA
    go_enter Try.func27, Try.ntmps27
    go_wp2_with fail
    refine (HN.out).mono ?_
    rintro e1 w1 ⟨rfl, rfl⟩
    go_wp2_with fail
    refine (H6.out).mono ?_
    rintro e1 w1 ⟨rfl, rfl⟩
    go_wp2_with fail
    go_ret2
    rw [hfin.out]
    exact ⟨Hr.out.set _, only_set w g _, .inr ⟨_, _, rfl, rfl, rfl⟩⟩
  | false =>
    have hfin : Hid (atomEnd (c :: s) k = (none, 3, (c :: s).drop k)) := by unfold atomEnd; rw [hA]; exact rfl
    have H6 := Lib.hid (atom_no _ w hA (by rw [List.length_take]; omega))
    clear hA
    go_enter Try.func27, Try.ntmps27
    go_wp2_with fail
    refine (HN.out).mono ?_
    rintro e1 w1 ⟨rfl, rfl⟩
    go_wp2_with fail
    refine (H6.out).mono ?_
    rintro e1 w1 ⟨rfl, rfl⟩
    go_wp2_with fail
    go_ret2
    rw [hfin.out]
    exact ⟨Hr.out.set _, only_set w g _, .inl ⟨rfl, rfl⟩⟩
theorem u8_of {c : UInt8} {n : Nat} (h : c.toNat = n) (hn : n < 256) : c = UInt8.ofNat n := by
  apply UInt8.toNat_inj.1; rw [h]; simp; omega
theorem term_any (n : Nat) (hn : n ≤ 999999) : TermC n (pTerm (n + 1)) := by
  induction n with
  | zero =>
    intro s w g hs hr
    have : s = [] := List.eq_nil_of_length_eq_zero (by omega)
    subst this
    exact term_nil w g hr
  | succ n ih =>
    intro s w g hs hr
    have ih' := ih (by omega)
    have hG := good_term (n + 1)
    cases s with
    | nil => exact term_nil w g hr
    | cons c s =>
      have hs' : s.length ≤ n := by simpa using hs
      rw [pTerm]
      by_cases h1 : c = 40
      · subst h1; rw [if_pos rfl]; exact term_pair n (by omega) _ ih' hG s w g hs' hr
      rw [if_neg h1]
      by_cases h2 : c = 91
      · subst h2; rw [if_pos rfl]; exact term_seal n (by omega) _ ih' hG s w g hs' hr
      rw [if_neg h2]
      by_cases h3 : c = 35
      · subst h3; rw [if_pos rfl]; exact term_hash n (by omega) _ ih' hG s w g hs' hr
      rw [if_neg h3]
      exact term_atom c s w g (by omega) hr h1 h2 h3
end Go.Proofs.Ytfbagojhnifajaa
