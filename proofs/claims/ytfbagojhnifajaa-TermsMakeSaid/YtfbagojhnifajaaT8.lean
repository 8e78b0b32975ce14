/- two and term. -/
import Derived.Test.YtfbagojhnifajaaT7
namespace Go.Proofs.Ytfbagojhnifajaa
open Go.RowKit
set_option maxRecDepth 100000
set_option linter.unusedVariables false
set_option linter.unusedSimpArgs false
theorem IsT.only {w w' : World} {g : Nat} {s : List UInt8} {t : T} {v : Value} (hr : Rdr w g s) (hg : w.grownBy w' (some g)) (h : IsT w t v) : IsT w' t v :=
  h.keep fun i cs t hi ht => hg.block i (lt_of_some hi) (by
    intro e
    injection e with e
    subst e
    unfold Rdr at hr
    rw [hr] at hi
    injection hi with hi
    injection hi with _ h2
    exact ht h2.symm)
theorem only_set (w : World) (g : Nat) (v : Value) : w.grownBy (w.setCell ⟨g, 0, none⟩ v) (some g) :=
  ⟨rfl, rfl, rfl, by simp [World.setCell], fun i _ hne => Below.heap_setCell w ⟨g, 0, none⟩ v i (by rintro rfl; exact hne rfl)⟩
theorem only_below {w w' : World} (h : Below w.heap.size w w') (row : Option Nat) : w.grownBy w' row := ⟨h.os, h.tape, h.output, h.size, fun i hi _ => h.block i hi⟩
theorem Rdr.below {w w' : World} {g : Nat} {s : List UInt8} (h : Rdr w g s) (hb : Below w.heap.size w w') : Rdr w' g s := (hb.block g (lt_of_some h)).trans h
def PPost (w : World) (g : Nat) (x : PR) (e : Ending) (w' : World) : Prop :=
  Rdr w' g x.2.2 ∧ w.grownBy w' (some g) ∧ ((x.1 = none ∧ e = .returned (.tuple #[.nilIface, .int .i64 x.2.1])) ∨ ∃ t v, x.1 = some t ∧ e = .returned (.tuple #[v, .int .i64 0]) ∧ IsT w' t v)
def TermC (B : Nat) (p : List UInt8 → PR) : Prop := ∀ (s : List UInt8) (w : World) (g : Nat), s.length ≤ B → Rdr w g s → Calls Try.prog 27 #[.pointer (some ⟨g, 0, none⟩)] w (PPost w g (p s))
def MadeC (f : FuncId) (mk : T → T → T) : Prop := ∀ (w : World) (a b : T) (va vb : Value), IsT w a va → IsT w b vb → a.size ≤ 1000000 → b.size ≤ 1000000 → Calls Try.prog f #[va, vb] w (MadeT w (mk a b) (roomBad [a, b]))
theorem er_ne {s : List UInt8} {x : PR} (h : Good s x) (hn : x.1 = none) : (x.2.1 != 0) = true := by
  rw [bne_iff_ne]; rcases h.er hn with h | h | h <;> rw [h] <;> decide
theorem mustE_ne (s : List UInt8) : (mustE s != 0) = true := by
  rw [bne_iff_ne]; rcases mustE_or s with h | h <;> rw [h] <;> decide
theorem must_none (w : World) (g : Nat) (c : UInt8) (k : Int) (s : List UInt8) (h : Rdr w g s) (hk : k = c.toNat) (hm : mustR c s = none) :
    Calls Try.prog 39 #[.pointer (some ⟨g, 0, none⟩), .int .u8 k] w fun e w' => w = w' ∧ e = .returned (.int .i64 (mustE s)) := by
  subst hk
  cases s with
  | nil => exact must_end w g c h
  | cons d s =>
    refine must_no w g c d s h ?_
    rintro rfl
    simp [mustR] at hm
theorem must_some (w : World) (g : Nat) (c : UInt8) (k : Int) (s r : List UInt8) (h : Rdr w g s) (hk : k = c.toNat) (hm : mustR c s = some r) (hl : s.length ≤ 1000000) :
    Calls Try.prog 39 #[.pointer (some ⟨g, 0, none⟩), .int .u8 k] w fun e w' => (Rdr w' g r ∧ w.grownBy w' (some g)) ∧ e = .returned (.int .i64 0) := by
  subst hk
  have := mustR_len hm
  subst this
  simp only [List.length_cons] at hl
  exact (must_yes w g c r h (by omega)).mono fun e w' ⟨h1, h2⟩ => ⟨by subst h1; exact ⟨h.set r, only_set w g _⟩, h2⟩

section
variable (B : Nat) (hB : B ≤ 1000000) (p : List UInt8 → PR) (hp : TermC B p) (hG : ∀ s, Good s (p s)) (en : UInt8) (k : Int) (hk : k = en.toNat) (mk : T → T → T) (fv : Value)
  (s : List UInt8) (w : World) (g : Nat) (hs : s.length ≤ B) (hr : Rdr w g s)
set_option maxHeartbeats 400000 in
include hp hG hs hr in
theorem two_1 (e : Int) (r : List UInt8) (h1 : p s = (none, e, r)) : Calls Try.prog 34 #[.pointer (some ⟨g, 0, none⟩), .int .u8 k, fv] w (PPost w g (none, e, r)) := by
  have c27 := hp s w g hs hr
  have he := er_ne (hG s) (by rw [h1])
  rw [h1] at c27 he
  dsimp only at he
  have C27 := Lib.hid c27
  clear c27 h1 hr hp hG
  go_enter Try.func34, Try.ntmps34
  go_wp2_with fail
  refine (C27.out).mono ?_
  rintro e1 w1 ⟨hr1, hg1, ⟨-, rfl⟩ | ⟨t, v, ht, -⟩⟩
  · dsimp only at hr1
    go_wp2_with fail
    go_ret2
    exact ⟨hr1, hg1, .inl ⟨rfl, rfl⟩⟩
  · cases ht
set_option maxHeartbeats 400000 in
include hp hs hr in
theorem two_2 (a : T) (e : Int) (r : List UInt8) (h1 : p s = (some a, e, r)) (h2 : mustR 32 r = none) : Calls Try.prog 34 #[.pointer (some ⟨g, 0, none⟩), .int .u8 k, fv] w (PPost w g (none, mustE r, r)) := by
  have c27 := hp s w g hs hr
  have he := mustE_ne r
  rw [h1] at c27
  have C27 := Lib.hid c27
  have H2 := Lib.hid h2
  clear c27 h1 hr hp h2
  go_enter Try.func34, Try.ntmps34
  go_wp2_with fail
  refine (C27.out).mono ?_
  rintro e1 w1 ⟨hr1, hg1, ⟨hn, -⟩ | ⟨t, v, ht, rfl, hi⟩⟩
  · cases hn
  · dsimp only at hr1
    clear ht
    go_wp2_with fail
    refine (must_none w1 g 32 32 r hr1 rfl H2.out).mono ?_
    rintro e2 w2 ⟨rfl, rfl⟩
    go_wp2_with fail
    go_ret2
    exact ⟨hr1, hg1, .inl ⟨rfl, rfl⟩⟩
set_option maxHeartbeats 400000 in
include hB hp hG hs hr in
theorem two_3 (a : T) (e e2 : Int) (r r1 r2 : List UInt8) (h1 : p s = (some a, e, r)) (h2 : mustR 32 r = some r1) (h3 : p r1 = (none, e2, r2)) : Calls Try.prog 34 #[.pointer (some ⟨g, 0, none⟩), .int .u8 k, fv] w (PPost w g (none, e2, r2)) := by
  have c27 := hp s w g hs hr
  have he := er_ne (hG r1) (by rw [h3])
  have hl := (hG s).len
  have hP := Lib.hid hp
  rw [h3] at he
  rw [h1] at c27 hl
  dsimp only at hl he
  have hr1e := mustR_len h2
  have hl1 : r1.length ≤ B := by rw [hr1e] at hl; simp only [List.length_cons] at hl; omega
  have C27 := Lib.hid c27
  have H2 := Lib.hid h2
  have H3 := Lib.hid h3
  clear c27 h1 hr hp hG h2 hr1e h3
  go_enter Try.func34, Try.ntmps34
  go_wp2_with fail
  refine (C27.out).mono ?_
  rintro e1 w1 ⟨hr1, hg1, ⟨hn, -⟩ | ⟨t, v, ht, rfl, hi⟩⟩
  · cases hn
  · dsimp only at hr1
    clear ht
    go_wp2_with fail
    refine (must_some w1 g 32 32 r r1 hr1 rfl H2.out (by omega)).mono ?_
    rintro e2 w2 ⟨⟨hr2, hg2⟩, rfl⟩
    have C27b := Lib.hid (hP.out r1 w2 g hl1 hr2)
    rw [H3.out] at C27b
    go_wp2_with fail
    refine (C27b.out).mono ?_
    rintro e3 w3 ⟨hr3, hg3, ⟨-, rfl⟩ | ⟨t, v, ht, -⟩⟩
    · dsimp only at hr3
      go_wp2_with fail
      go_ret2
      exact ⟨hr3, (hg1.trans hg2).trans hg3, .inl ⟨rfl, rfl⟩⟩
    · cases ht
set_option maxHeartbeats 400000 in
include hB hp hG hs hr hk in
theorem two_4 (a b : T) (e e2 : Int) (r r1 r2 : List UInt8) (h1 : p s = (some a, e, r)) (h2 : mustR 32 r = some r1) (h3 : p r1 = (some b, e2, r2)) (h4 : mustR en r2 = none) :
    Calls Try.prog 34 #[.pointer (some ⟨g, 0, none⟩), .int .u8 k, fv] w (PPost w g (none, mustE r2, r2)) := by
  have he := mustE_ne r2
  have c27 := hp s w g hs hr
  have hl := (hG s).len
  have hlb := (hG r1).len
  have hza := (hG s).ok
  have hzb := (hG r1).ok
  have hP := Lib.hid hp
  rw [h3] at hlb hzb
  rw [h1] at c27 hl hza
  dsimp only at hl hlb
  have hza' := hza a rfl
  have hzb' := hzb b rfl
  have hr1e := mustR_len h2
  have hl1 : r1.length ≤ B := by rw [hr1e] at hl; simp only [List.length_cons] at hl; omega
  have C27 := Lib.hid c27
  have H2 := Lib.hid h2
  have H3 := Lib.hid h3
  have H4 := Lib.hid h4
  have HK := Lib.hid hk
  clear c27 h1 hr hp hG h2 hr1e h3 h4 hk hza hzb
  go_enter Try.func34, Try.ntmps34
  go_wp2_with fail
  refine (C27.out).mono ?_
  rintro e1 w1 ⟨hr1, hg1, ⟨hn, -⟩ | ⟨t, v, ht, rfl, hi⟩⟩
  · cases hn
  · dsimp only at hr1
    injection ht with ht
    subst ht
    go_wp2_with fail
    refine (must_some w1 g 32 32 r r1 hr1 rfl H2.out (by omega)).mono ?_
    rintro e2 w2 ⟨⟨hr2, hg2⟩, rfl⟩
    have C27b := Lib.hid (hP.out r1 w2 g hl1 hr2)
    rw [H3.out] at C27b
    go_wp2_with fail
    refine (C27b.out).mono ?_
    rintro e3 w3 ⟨hr3, hg3, ⟨hn, -⟩ | ⟨t, v', ht, rfl, hi2⟩⟩
    · cases hn
    · dsimp only at hr3
      injection ht with ht
      subst ht
      go_wp2_with fail
      refine (must_none w3 g en k r2 hr3 HK.out H4.out).mono ?_
      rintro e2 w2 ⟨rfl, rfl⟩
      go_wp2_with fail
      go_ret2
      exact ⟨hr3, (hg1.trans hg2).trans hg3, .inl ⟨rfl, rfl⟩⟩
set_option maxHeartbeats 400000 in
include hB hp hG hs hr hk in
theorem two_5_11 (hM : MadeC 11 mk) (a b : T) (e e2 : Int) (r r1 r2 r3 : List UInt8) (h1 : p s = (some a, e, r)) (h2 : mustR 32 r = some r1) (h3 : p r1 = (some b, e2, r2)) (h4 : mustR en r2 = some r3) :
    Calls Try.prog 34 #[.pointer (some ⟨g, 0, none⟩), .int .u8 k, .func (.func 11) #[] #[]] w (PPost w g (twoEnd mk a b r3)) := by
  have HM := Lib.hid hM
  clear hM
  have c27 := hp s w g hs hr
  have hl := (hG s).len
  have hlb := (hG r1).len
  have hza := (hG s).ok
  have hzb := (hG r1).ok
  have hP := Lib.hid hp
  rw [h3] at hlb hzb
  rw [h1] at c27 hl hza
  dsimp only at hl hlb
  have hza' := hza a rfl
  have hzb' := hzb b rfl
  have hr1e := mustR_len h2
  have hl1 : r1.length ≤ B := by rw [hr1e] at hl; simp only [List.length_cons] at hl; omega
  have C27 := Lib.hid c27
  have H2 := Lib.hid h2
  have H3 := Lib.hid h3
  have H4 := Lib.hid h4
  have HK := Lib.hid hk
  clear c27 h1 hr hp hG h2 hr1e h3 h4 hk hza hzb
  go_enter Try.func34, Try.ntmps34
  go_wp2_with fail
  refine (C27.out).mono ?_
  rintro e1 w1 ⟨hr1, hg1, ⟨hn, -⟩ | ⟨t, v, ht, rfl, hi⟩⟩
  · cases hn
  · dsimp only at hr1
    injection ht with ht
    subst ht
    go_wp2_with fail
    refine (must_some w1 g 32 32 r r1 hr1 rfl H2.out (by omega)).mono ?_
    rintro e2 w2 ⟨⟨hr2, hg2⟩, rfl⟩
    have C27b := Lib.hid (hP.out r1 w2 g hl1 hr2)
    rw [H3.out] at C27b
    go_wp2_with fail
    refine (C27b.out).mono ?_
    rintro e3 w3 ⟨hr3, hg3, ⟨hn, -⟩ | ⟨t, v', ht, rfl, hi2⟩⟩
    · cases hn
    · dsimp only at hr3
      injection ht with ht
      subst ht
      go_wp2_with fail
      refine (must_some w3 g en k r2 r3 hr3 HK.out H4.out (by omega)).mono ?_
      rintro e2 w4 ⟨⟨hr4, hg4⟩, rfl⟩
      go_wp2_with fail
      have hia := (((hi.only hr1 hg2).only hr2 hg3)).only hr3 hg4
      have hib := hi2.only hr3 hg4
      refine (HM.out w4 a b _ _ hia hib (by omega) (by omega)).mono ?_
      rintro e5 w5 ⟨hb5, ⟨hbad, rfl⟩ | ⟨hgood, vt, rfl, hit⟩⟩
      · have hfin : Hid (twoEnd mk a b r3 = (none, 8, r3)) := by unfold twoEnd; rw [hbad]; exact rfl
        clear hbad
        go_wp2_with fail
        go_ret2
        rw [hfin.out]
        exact ⟨hr4.below hb5, (((hg1.trans hg2).trans hg3).trans hg4).trans (only_below hb5 _), .inl ⟨rfl, rfl⟩⟩
      · have hfin : Hid (twoEnd mk a b r3 = (some (mk a b), 0, r3)) := by unfold twoEnd; rw [hgood]; exact rfl
        clear hgood
        go_wp2_with fail
        go_ret2
        rw [hfin.out]
        exact ⟨hr4.below hb5, (((hg1.trans hg2).trans hg3).trans hg4).trans (only_below hb5 _), .inr ⟨_, _, rfl, rfl, hit⟩⟩
set_option maxHeartbeats 400000 in
include hB hp hG hs hr hk in
theorem two_5_13 (hM : MadeC 13 mk) (a b : T) (e e2 : Int) (r r1 r2 r3 : List UInt8) (h1 : p s = (some a, e, r)) (h2 : mustR 32 r = some r1) (h3 : p r1 = (some b, e2, r2)) (h4 : mustR en r2 = some r3) :
    Calls Try.prog 34 #[.pointer (some ⟨g, 0, none⟩), .int .u8 k, .func (.func 13) #[] #[]] w (PPost w g (twoEnd mk a b r3)) := by
  have HM := Lib.hid hM
  clear hM
  have c27 := hp s w g hs hr
  have hl := (hG s).len
  have hlb := (hG r1).len
  have hza := (hG s).ok
  have hzb := (hG r1).ok
  have hP := Lib.hid hp
  rw [h3] at hlb hzb
  rw [h1] at c27 hl hza
  dsimp only at hl hlb
  have hza' := hza a rfl
  have hzb' := hzb b rfl
  have hr1e := mustR_len h2
  have hl1 : r1.length ≤ B := by rw [hr1e] at hl; simp only [List.length_cons] at hl; omega
  have C27 := Lib.hid c27
  have H2 := Lib.hid h2
  have H3 := Lib.hid h3
  have H4 := Lib.hid h4
  have HK := Lib.hid hk
  clear c27 h1 hr hp hG h2 hr1e h3 h4 hk hza hzb
  go_enter Try.func34, Try.ntmps34
  go_wp2_with fail
  refine (C27.out).mono ?_
  rintro e1 w1 ⟨hr1, hg1, ⟨hn, -⟩ | ⟨t, v, ht, rfl, hi⟩⟩
  · cases hn
  · dsimp only at hr1
    injection ht with ht
    subst ht
    go_wp2_with fail
    refine (must_some w1 g 32 32 r r1 hr1 rfl H2.out (by omega)).mono ?_
    rintro e2 w2 ⟨⟨hr2, hg2⟩, rfl⟩
    have C27b := Lib.hid (hP.out r1 w2 g hl1 hr2)
    rw [H3.out] at C27b
    go_wp2_with fail
    refine (C27b.out).mono ?_
    rintro e3 w3 ⟨hr3, hg3, ⟨hn, -⟩ | ⟨t, v', ht, rfl, hi2⟩⟩
    · cases hn
    · dsimp only at hr3
      injection ht with ht
      subst ht
      go_wp2_with fail
      refine (must_some w3 g en k r2 r3 hr3 HK.out H4.out (by omega)).mono ?_
      rintro e2 w4 ⟨⟨hr4, hg4⟩, rfl⟩
      go_wp2_with fail
      have hia := (((hi.only hr1 hg2).only hr2 hg3)).only hr3 hg4
      have hib := hi2.only hr3 hg4
      refine (HM.out w4 a b _ _ hia hib (by omega) (by omega)).mono ?_
      rintro e5 w5 ⟨hb5, ⟨hbad, rfl⟩ | ⟨hgood, vt, rfl, hit⟩⟩
      · have hfin : Hid (twoEnd mk a b r3 = (none, 8, r3)) := by unfold twoEnd; rw [hbad]; exact rfl
        clear hbad
        go_wp2_with fail
        go_ret2
        rw [hfin.out]
        exact ⟨hr4.below hb5, (((hg1.trans hg2).trans hg3).trans hg4).trans (only_below hb5 _), .inl ⟨rfl, rfl⟩⟩
      · have hfin : Hid (twoEnd mk a b r3 = (some (mk a b), 0, r3)) := by unfold twoEnd; rw [hgood]; exact rfl
        clear hgood
        go_wp2_with fail
        go_ret2
        rw [hfin.out]
        exact ⟨hr4.below hb5, (((hg1.trans hg2).trans hg3).trans hg4).trans (only_below hb5 _), .inr ⟨_, _, rfl, rfl, hit⟩⟩
include hB hp hG hs hr hk in
theorem two_any_11 (hM : MadeC 11 mk) : Calls Try.prog 34 #[.pointer (some ⟨g, 0, none⟩), .int .u8 k, .func (.func 11) #[] #[]] w (PPost w g (pTwo p en mk s)) := by
  unfold pTwo
  rcases h1 : p s with ⟨o, e, r⟩
  cases o with
  | none => exact two_1 B p hp hG k _ s w g hs hr e r h1
  | some a =>
    dsimp only
    cases h2 : mustR 32 r with
    | none => exact two_2 B p hp k _ s w g hs hr a e r h1 h2
    | some r1 =>
      dsimp only
      rcases h3 : p r1 with ⟨o2, e2, r2⟩
      cases o2 with
      | none => exact two_3 B hB p hp hG k _ s w g hs hr a e e2 r r1 r2 h1 h2 h3
      | some b =>
        dsimp only
        cases h4 : mustR en r2 with
        | none => exact two_4 B hB p hp hG en k hk _ s w g hs hr a b e e2 r r1 r2 h1 h2 h3 h4
        | some r3 => exact two_5_11 B hB p hp hG en k hk mk s w g hs hr hM a b e e2 r r1 r2 r3 h1 h2 h3 h4
include hB hp hG hs hr hk in
theorem two_any_13 (hM : MadeC 13 mk) : Calls Try.prog 34 #[.pointer (some ⟨g, 0, none⟩), .int .u8 k, .func (.func 13) #[] #[]] w (PPost w g (pTwo p en mk s)) := by
  unfold pTwo
  rcases h1 : p s with ⟨o, e, r⟩
  cases o with
  | none => exact two_1 B p hp hG k _ s w g hs hr e r h1
  | some a =>
    dsimp only
    cases h2 : mustR 32 r with
    | none => exact two_2 B p hp k _ s w g hs hr a e r h1 h2
    | some r1 =>
      dsimp only
      rcases h3 : p r1 with ⟨o2, e2, r2⟩
      cases o2 with
      | none => exact two_3 B hB p hp hG k _ s w g hs hr a e e2 r r1 r2 h1 h2 h3
      | some b =>
        dsimp only
        cases h4 : mustR en r2 with
        | none => exact two_4 B hB p hp hG en k hk _ s w g hs hr a b e e2 r r1 r2 h1 h2 h3 h4
        | some r3 => exact two_5_13 B hB p hp hG en k hk mk s w g hs hr hM a b e e2 r r1 r2 r3 h1 h2 h3 h4
end
end Go.Proofs.Ytfbagojhnifajaa
