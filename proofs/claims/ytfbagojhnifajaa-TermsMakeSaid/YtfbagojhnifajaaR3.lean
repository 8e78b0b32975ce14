/- The reference's two and term. -/
import Derived.Test.YtfbagojhnifajaaR2
namespace Go.Proofs.Ytfbagojhnifajaa
open Go.RowKit
set_option maxRecDepth 100000
set_option linter.unusedVariables false
set_option linter.unusedSimpArgs false
theorem mustR_suf {c : UInt8} {s r : List UInt8} (h : mustR c s = some r) : r <:+ s := by rw [mustR_len h]; exact List.suffix_cons c r
theorem suf_two {p : List UInt8 → PR} (hp : ∀ s, (p s).2.2 <:+ s) (en : UInt8) (mk : T → T → T) (s : List UInt8) : (pTwo p en mk s).2.2 <:+ s := by
  unfold pTwo
  have h1 := hp s
  rcases hq : p s with ⟨o, e, r⟩
  rw [hq] at h1
  cases o with
  | none => exact h1
  | some a =>
    dsimp only
    cases hm1 : mustR 32 r with
    | none => exact h1
    | some r1 =>
      dsimp only
      have h2 := hp r1
      rcases hq2 : p r1 with ⟨o2, e2, r2⟩
      rw [hq2] at h2
      have h3 : r2 <:+ s := h2.trans ((mustR_suf hm1).trans h1)
      cases o2 with
      | none => exact h3
      | some b =>
        dsimp only
        cases hm2 : mustR en r2 with
        | none => exact h3
        | some r3 =>
          dsimp only [twoEnd]
          have h4 : r3 <:+ s := (mustR_suf hm2).trans h3
          split <;> exact h4
theorem suf_term (n : Nat) : ∀ s, (pTerm n s).2.2 <:+ s := by
  induction n with
  | zero => intro s; exact List.suffix_refl _
  | succ n ih =>
    intro s
    cases s with
    | nil => exact List.suffix_refl _
    | cons c s =>
      simp only [pTerm]
      split
      · exact (suf_two ih _ _ s).trans (List.suffix_cons c s)
      split
      · exact (suf_two ih _ _ s).trans (List.suffix_cons c s)
      split
      · have h1 := ih s
        rcases hq : pTerm n s with ⟨o, e, r⟩
        rw [hq] at h1
        cases o with
        | none => exact h1.trans (List.suffix_cons c s)
        | some a =>
          dsimp only
          split <;> exact h1.trans (List.suffix_cons c s)
      · split <;> exact List.drop_suffix _ _
theorem drop_suf {L r : List UInt8} (h : r <:+ L) : L.drop (L.length - r.length) = r := (List.suffix_iff_eq_drop.1 h).symm
def errV (e : Int) : Value := .tuple #[.agg #[.int .i64 0, .int .i64 0, .int .i64 0], .int .i64 e]
def okV (k : Nat) (z d : Int) : Value := .tuple #[.agg #[.int .i64 k, .int .i64 z, .int .i64 d], .int .i64 0]
def twoV (L : List UInt8) (p : List UInt8 → PR) (en : UInt8) (s : List UInt8) : Value :=
  match p s with
  | (none, e, _) => errV e
  | (some a, _, r) =>
    match mustR 32 r with
    | none => errV (mustE r)
    | some r1 =>
      match p r1 with
      | (none, e, _) => errV e
      | (some b, _, r2) =>
        match mustR en r2 with
        | none => errV (mustE r2)
        | some r3 => okV (L.length - r3.length) (1 + a.size + b.size) (1 + mx a.depth b.depth)
def RPost (L : List UInt8) (w : World) (x : PR) (e : Ending) (w' : World) : Prop := Below w.heap.size w w' ∧ e = .returned (RV L x)
def RTermC (L : List UInt8) (left : Int) (p : List UInt8 → PR) : Prop := ∀ (k : Nat) (kk : Int) (w : World), kk = k → k ≤ L.length → Calls Try.prog 33 #[.string ⟨L.toArray⟩, .int .i64 kk, .int .i64 left] w (RPost L w (p (L.drop k)))
structure Old3 (w1 : World) (g : Nat) (c0 c1 c2 : Value) : Prop where
  c0 : w1.cell? ⟨g, 0, none⟩ = some c0
  c1 : w1.cell? ⟨g, 1, none⟩ = some c1
  c2 : w1.cell? ⟨g, 2, none⟩ = some c2
  f0 : w1.frozen? ⟨g, 0, none⟩ = false
  f1 : w1.frozen? ⟨g, 1, none⟩ = false
  f2 : w1.frozen? ⟨g, 2, none⟩ = false
  lt : g < w1.heap.size
theorem old3_of {w1 : World} {g : Nat} {c0 c1 c2 : Value} (h : w1.heap[g]? = some (Obj.cells #[c0, c1, c2] 66 (0, 0))) : Old3 w1 g c0 c1 c2 :=
  ⟨by simp [World.cell?, h], by simp [World.cell?, h], by simp [World.cell?, h], by simp [World.frozen?, h], by simp [World.frozen?, h], by simp [World.frozen?, h], lt_of_some h⟩
def B3 (w : World) (g : Nat) (c0 c1 c2 : Value) : Prop := w.heap[g]? = some (Obj.cells #[c0, c1, c2] 66 (0, 0))
theorem B3.set3 {w : World} {g : Nat} {c0 c1 c2 : Value} (h : B3 w g c0 c1 c2) (v0 v1 v2 : Value) : B3 (((w.setCell ⟨g, 0, none⟩ v0).setCell ⟨g, 1, none⟩ v1).setCell ⟨g, 2, none⟩ v2) g v0 v1 v2 := by
  unfold B3 at *
  simp [World.setCell, Array.getElem?_modify, h]
theorem B3.alloc {w : World} {g : Nat} {c0 c1 c2 : Value} (h : B3 w g c0 c1 c2) (o : Obj) : B3 (w.alloc o) g c0 c1 c2 := (Below.heap_alloc w o g (lt_of_some h)).trans h
theorem B3.new (w : World) (c0 c1 c2 : Value) : B3 (w.alloc (.cells #[c0, c1, c2] 66)) w.heap.size c0 c1 c2 := heap_alloc_new w _
theorem B3.below {w w' : World} {g : Nat} {c0 c1 c2 : Value} (h : B3 w g c0 c1 c2) (hb : Below w.heap.size w w') : B3 w' g c0 c1 c2 := (hb.block g (lt_of_some h)).trans h
theorem B3.old {w : World} {g : Nat} {c0 c1 c2 : Value} (h : B3 w g c0 c1 c2) : Old3 w g c0 c1 c2 := old3_of h
theorem res_cell {fn : Func} {t u : Tmp} (hr : fn.results = #[.cell t 66, .tmp u]) {tmps : Array Value} {w : World} {g : Nat} {c0 c1 c2 x : Value} (ht : tmps.getD t undef = .pointer (some ⟨g, 0, none⟩)) (hu : tmps.getD u undef = x) (h : B3 w g c0 c1 c2) :
    (results fn tmps).run Try.prog w = .ok (.tuple #[.agg #[c0, c1, c2], x]) w := by
  obtain ⟨q0, q1, q2, f0, f1, f2, _⟩ := h.old
  rw [Array.getD_eq_getD_getElem?] at ht hu
  simp [results, hr, ht, hu, go_sem, q0, q1, q2]
section
variable (L : List UInt8) (hL : L.length ≤ 1000000) (left : Int) (h0 : -1 ≤ left) (h1 : left ≤ 1000000) (p : List UInt8 → PR) (hp : RTermC L left p) (hG : ∀ s, Good s (p s)) (hS : ∀ s, (p s).2.2 <:+ s) (en : UInt8) (ev : Int) (hen : ev = en.toNat) (k : Nat) (hk : k < L.length) (w : World)
set_option maxHeartbeats 800000 in
include hL h0 h1 hp hG hk in
theorem rtwo_1 (e : Int) (r : List UInt8) (hx : p (L.drop (k + 1)) = (none, e, r)) : Calls Try.prog 37 #[.string ⟨L.toArray⟩, .int .i64 k, .int .u8 ev, .int .i64 (left + 1)] w fun en_ w' => Below w.heap.size w w' ∧ en_ = .returned (errV e) := by
  have c33 := Lib.hid (fun w => hp (k + 1) ((k : Int) + 1) w (by omega) (by omega))
  have he := er_ne (hG (L.drop (k + 1))) (by rw [hx])
  rw [hx] at c33 he
  dsimp only at he
  clear hp hG hx
  go_enter Try.func37, Try.ntmps37
  go_wp2_with fail
  refine (c33.out _).mono ?_
  rintro e1 w1 ⟨hb, rfl⟩
  simp only [RV]
  have hblk := (hb.block w.heap.size (by simp)).trans (heap_alloc_new w _)
  have hB1 : Below w.heap.size w w1 := ((Below.refl w.heap.size w).alloc (Nat.le_refl _) _).trans (hb.mono (by simp))
  have HBlk := Lib.hid hblk
  obtain ⟨q0, q1, q2, f0, f1, f2, hz⟩ := old3_of hblk
  clear hb hblk
  go_wp2_with fail
  exact bodyPost_ret (v := errV e) (res_cell Try.results37 rfl rfl ((B3.set3 HBlk.out _ _ _).alloc _)) rfl ⟨((((hB1.setCell (Nat.le_refl _) _).setCell (Nat.le_refl _) _).setCell (Nat.le_refl _) _).alloc (by simpa [World.setCell] using Nat.le_of_lt hz) _), rfl⟩
set_option maxHeartbeats 800000 in
include hL h0 h1 hp hS hk in
theorem rtwo_2 (a : T) (e : Int) (r : List UInt8) (hx : p (L.drop (k + 1)) = (some a, e, r)) (hm : mustR 32 r = none) : Calls Try.prog 37 #[.string ⟨L.toArray⟩, .int .i64 k, .int .u8 ev, .int .i64 (left + 1)] w fun en_ w' => Below w.heap.size w w' ∧ en_ = .returned (errV (mustE r)) := by
  have c33 := Lib.hid (fun w => hp (k + 1) ((k : Int) + 1) w (by omega) (by omega))
  have hsuf := (hS (L.drop (k + 1))).trans (List.drop_suffix (k + 1) L)
  rw [hx] at c33 hsuf
  dsimp only at hsuf
  have hk1 : L.drop (L.length - r.length) = r := drop_suf hsuf
  have hme : rmust 32 r = mustE r := by unfold rmust; rw [hm]
  have he := mustE_ne r
  have M1 := Lib.hid (fun w => rmust_any L (L.length - r.length) 32 32 rfl w (by omega) hL)
  rw [hk1] at M1
  rw [hme] at M1
  clear hp hx hS hsuf hk1 hm hme
  go_enter Try.func37, Try.ntmps37
  go_wp2_with fail
  refine (c33.out _).mono ?_
  rintro e1 w1 ⟨hb, rfl⟩
  simp only [RV]
  have hblk := (hb.block w.heap.size (by simp)).trans (heap_alloc_new w _)
  have hB1 : Below w.heap.size w w1 := ((Below.refl w.heap.size w).alloc (Nat.le_refl _) _).trans (hb.mono (by simp))
  have HBlk := Lib.hid hblk
  obtain ⟨q0, q1, q2, f0, f1, f2, hz⟩ := old3_of hblk
  clear hb hblk
  go_wp2_with fail
  refine (M1.out _).mono ?_
  rintro e2 w2 ⟨rfl, rfl⟩
  go_wp2_with fail
  exact bodyPost_ret (v := errV (mustE r)) (res_cell Try.results37 rfl rfl ((B3.set3 HBlk.out _ _ _).alloc _)) rfl ⟨((((hB1.setCell (Nat.le_refl _) _).setCell (Nat.le_refl _) _).setCell (Nat.le_refl _) _).alloc (by simpa [World.setCell] using Nat.le_of_lt hz) _), rfl⟩
set_option maxHeartbeats 800000 in
include hL h0 h1 hp hS hG hk in
theorem rtwo_3 (a : T) (e e2 : Int) (r r1 r2 : List UInt8) (hx : p (L.drop (k + 1)) = (some a, e, r)) (hm : mustR 32 r = some r1) (hx2 : p r1 = (none, e2, r2)) : Calls Try.prog 37 #[.string ⟨L.toArray⟩, .int .i64 k, .int .u8 ev, .int .i64 (left + 1)] w fun en_ w' => Below w.heap.size w w' ∧ en_ = .returned (errV e2) := by
  have c33 := Lib.hid (fun w => hp (k + 1) ((k : Int) + 1) w (by omega) (by omega))
  have hsuf := (hS (L.drop (k + 1))).trans (List.drop_suffix (k + 1) L)
  have hza := (hG (L.drop (k + 1))).ok a (by rw [hx])
  rw [hx] at c33 hsuf
  dsimp only at hsuf
  have hk1 : L.drop (L.length - r.length) = r := drop_suf hsuf
  have hr := mustR_len hm
  have hk2 : L.length - r.length < L.length ∧ L.drop (L.length - r.length + 1) = r1 := by
    rw [hr] at hk1
    obtain ⟨h1, -, h2⟩ := getD_drop hk1
    rw [← hr] at h1 h2
    exact ⟨h1, h2⟩
  have hme : rmust 32 r = 0 := by unfold rmust; rw [hm]
  have M1 := Lib.hid (fun w => rmust_any L (L.length - r.length) 32 32 rfl w (by omega) hL)
  rw [hk1, hme] at M1
  have hlt2 := hk2.1
  have d33 := Lib.hid (fun w => hp (L.length - r.length + 1) (((L.length - r.length : Nat) : Int) + 1) w (by omega) (by omega))
  rw [hk2.2, hx2] at d33
  have he := er_ne (hG r1) (by rw [hx2])
  rw [hx2] at he
  dsimp only at he
  have hd1 := a.depth_size
  have hkb : L.length - r.length ≤ 1000000 := by omega
  generalize hK1 : L.length - r.length = k1 at *
  have HE := Lib.hid hK1
  clear hK1
  clear hp hx hS hsuf hk1 hm hme hG hx2 hk2 hr
  go_enter Try.func37, Try.ntmps37
  go_wp2_with fail
  refine (c33.out _).mono ?_
  rintro e1 w1 ⟨hb, rfl⟩
  simp only [RV]
  rw [HE.out]
  have hblk := (hb.block w.heap.size (by simp)).trans (heap_alloc_new w _)
  have hB1 : Below w.heap.size w w1 := ((Below.refl w.heap.size w).alloc (Nat.le_refl _) _).trans (hb.mono (by simp))
  have HBlk := Lib.hid hblk
  obtain ⟨q0, q1, q2, f0, f1, f2, hz⟩ := old3_of hblk
  clear hb hblk
  go_wp2_with fail
  refine (M1.out _).mono ?_
  rintro e2 w2 ⟨rfl, rfl⟩
  have HB10 := Lib.hid (B3.new w1 (.int .i64 k1) (.int .i64 a.size) (.int .i64 a.depth))
  have HB8 := Lib.hid (B3.alloc HBlk.out (.cells #[.int .i64 k1, .int .i64 a.size, .int .i64 a.depth] 66))
  have HB1 := Lib.hid (hB1.alloc hB1.size (.cells #[.int .i64 k1, .int .i64 a.size, .int .i64 a.depth] 66))
  go_wp2_with fail
  refine (d33.out _).mono ?_
  rintro e3 w3 ⟨hb3, rfl⟩
  simp only [RV]
  have hB3 : Below w.heap.size w w3 := HB1.out.trans (hb3.mono HB1.out.size)
  have HC8 := Lib.hid (B3.below HB8.out hb3)
  obtain ⟨q0, q1, q2, f0, f1, f2, hz3⟩ := HC8.out.old
  clear hb3 HB10
  go_wp2_with fail
  exact bodyPost_ret (v := errV e2) (res_cell Try.results37 rfl rfl ((B3.set3 HC8.out _ _ _).alloc _)) rfl ⟨((((hB3.setCell (Nat.le_refl _) _).setCell (Nat.le_refl _) _).setCell (Nat.le_refl _) _).alloc (by simpa [World.setCell] using Nat.le_of_lt hz3) _), rfl⟩
set_option maxHeartbeats 800000 in
include hL h0 h1 hp hS hG hk hen in
theorem rtwo_4 (a : T) (e e2 : Int) (r r1 r2 : List UInt8) (hx : p (L.drop (k + 1)) = (some a, e, r)) (hm : mustR 32 r = some r1) (b : T) (hx2 : p r1 = (some b, e2, r2)) (h4 : mustR en r2 = none) : Calls Try.prog 37 #[.string ⟨L.toArray⟩, .int .i64 k, .int .u8 ev, .int .i64 (left + 1)] w fun en_ w' => Below w.heap.size w w' ∧ en_ = .returned (errV (mustE r2)) := by
  have c33 := Lib.hid (fun w => hp (k + 1) ((k : Int) + 1) w (by omega) (by omega))
  have hsuf := (hS (L.drop (k + 1))).trans (List.drop_suffix (k + 1) L)
  have hza := (hG (L.drop (k + 1))).ok a (by rw [hx])
  rw [hx] at c33 hsuf
  dsimp only at hsuf
  have hk1 : L.drop (L.length - r.length) = r := drop_suf hsuf
  have hr := mustR_len hm
  have hk2 : L.length - r.length < L.length ∧ L.drop (L.length - r.length + 1) = r1 := by
    rw [hr] at hk1
    obtain ⟨h1, -, h2⟩ := getD_drop hk1
    rw [← hr] at h1 h2
    exact ⟨h1, h2⟩
  have hme : rmust 32 r = 0 := by unfold rmust; rw [hm]
  have M1 := Lib.hid (fun w => rmust_any L (L.length - r.length) 32 32 rfl w (by omega) hL)
  rw [hk1, hme] at M1
  have hlt2 := hk2.1
  have d33 := Lib.hid (fun w => hp (L.length - r.length + 1) (((L.length - r.length : Nat) : Int) + 1) w (by omega) (by omega))
  rw [hk2.2, hx2] at d33
  have hzb := (hG r1).ok b (by rw [hx2])
  have hd2 := b.depth_size
  have hsuf2 : r2 <:+ L := by
    have h1 := hS r1
    rw [hx2] at h1
    exact h1.trans ((mustR_suf hm).trans hsuf)
  have hk3 : L.drop (L.length - r2.length) = r2 := drop_suf hsuf2
  have M2 := Lib.hid (fun w => rmust_any L (L.length - r2.length) en ev hen w (by omega) hL)
  rw [hk3] at M2
  have hme2 : rmust en r2 = mustE r2 := by unfold rmust; rw [h4]
  have he := mustE_ne r2
  rw [hme2] at M2
  have hd1 := a.depth_size
  have hkb : L.length - r.length ≤ 1000000 := by omega
  generalize hK1 : L.length - r.length = k1 at *
  have HE := Lib.hid hK1
  clear hK1
  have hlt3 : L.length - r2.length ≤ 1000000 := by omega
  generalize hK2 : L.length - r2.length = k2 at *
  have HE2 := Lib.hid hK2
  clear hK2
  clear hp hx hS hsuf hk1 hm hme hG hx2 hk2 hr hsuf2 hk3 h4 hen hme2
  go_enter Try.func37, Try.ntmps37
  go_wp2_with fail
  refine (c33.out _).mono ?_
  rintro e1 w1 ⟨hb, rfl⟩
  simp only [RV]
  rw [HE.out]
  have hblk := (hb.block w.heap.size (by simp)).trans (heap_alloc_new w _)
  have hB1 : Below w.heap.size w w1 := ((Below.refl w.heap.size w).alloc (Nat.le_refl _) _).trans (hb.mono (by simp))
  have HBlk := Lib.hid hblk
  obtain ⟨q0, q1, q2, f0, f1, f2, hz⟩ := old3_of hblk
  clear hb hblk
  go_wp2_with fail
  refine (M1.out _).mono ?_
  rintro e2 w2 ⟨rfl, rfl⟩
  have HB10 := Lib.hid (B3.new w1 (.int .i64 k1) (.int .i64 a.size) (.int .i64 a.depth))
  have HB8 := Lib.hid (B3.alloc HBlk.out (.cells #[.int .i64 k1, .int .i64 a.size, .int .i64 a.depth] 66))
  have HB1 := Lib.hid (hB1.alloc hB1.size (.cells #[.int .i64 k1, .int .i64 a.size, .int .i64 a.depth] 66))
  go_wp2_with fail
  refine (d33.out _).mono ?_
  rintro e3 w3 ⟨hb3, rfl⟩
  simp only [RV]
  rw [HE2.out]
  have hB3 : Below w.heap.size w w3 := HB1.out.trans (hb3.mono HB1.out.size)
  have HC8 := Lib.hid (B3.below HB8.out hb3)
  obtain ⟨q0, q1, q2, f0, f1, f2, hz3⟩ := HC8.out.old
  have HC10 := Lib.hid (B3.below HB10.out hb3)
  obtain ⟨p0, p1, p2, g0, g1, g2, hz4⟩ := HC10.out.old
  clear hb3 HB10
  go_wp2_with fail
  refine (M2.out _).mono ?_
  rintro e4 w4 ⟨rfl, rfl⟩
  go_wp2_with fail
  exact bodyPost_ret (v := errV (mustE r2)) (res_cell Try.results37 rfl rfl ((B3.set3 HC8.out _ _ _).alloc _)) rfl ⟨((((hB3.setCell (Nat.le_refl _) _).setCell (Nat.le_refl _) _).setCell (Nat.le_refl _) _).alloc (by simpa [World.setCell] using Nat.le_of_lt hz3) _), rfl⟩
set_option maxHeartbeats 800000 in
include hL h0 h1 hp hS hG hk hen in
theorem rtwo_5 (a : T) (e e2 : Int) (r r1 r2 : List UInt8) (hx : p (L.drop (k + 1)) = (some a, e, r)) (hm : mustR 32 r = some r1) (b : T) (hx2 : p r1 = (some b, e2, r2)) (r3 : List UInt8) (h4 : mustR en r2 = some r3) : Calls Try.prog 37 #[.string ⟨L.toArray⟩, .int .i64 k, .int .u8 ev, .int .i64 (left + 1)] w fun en_ w' => Below w.heap.size w w' ∧ en_ = .returned (okV (L.length - r3.length) (1 + a.size + b.size) (1 + mx a.depth b.depth)) := by
  have c33 := Lib.hid (fun w => hp (k + 1) ((k : Int) + 1) w (by omega) (by omega))
  have hsuf := (hS (L.drop (k + 1))).trans (List.drop_suffix (k + 1) L)
  have hza := (hG (L.drop (k + 1))).ok a (by rw [hx])
  rw [hx] at c33 hsuf
  dsimp only at hsuf
  have hk1 : L.drop (L.length - r.length) = r := drop_suf hsuf
  have hr := mustR_len hm
  have hk2 : L.length - r.length < L.length ∧ L.drop (L.length - r.length + 1) = r1 := by
    rw [hr] at hk1
    obtain ⟨h1, -, h2⟩ := getD_drop hk1
    rw [← hr] at h1 h2
    exact ⟨h1, h2⟩
  have hme : rmust 32 r = 0 := by unfold rmust; rw [hm]
  have M1 := Lib.hid (fun w => rmust_any L (L.length - r.length) 32 32 rfl w (by omega) hL)
  rw [hk1, hme] at M1
  have hlt2 := hk2.1
  have d33 := Lib.hid (fun w => hp (L.length - r.length + 1) (((L.length - r.length : Nat) : Int) + 1) w (by omega) (by omega))
  rw [hk2.2, hx2] at d33
  have hzb := (hG r1).ok b (by rw [hx2])
  have hd2 := b.depth_size
  have hsuf2 : r2 <:+ L := by
    have h1 := hS r1
    rw [hx2] at h1
    exact h1.trans ((mustR_suf hm).trans hsuf)
  have hk3 : L.drop (L.length - r2.length) = r2 := drop_suf hsuf2
  have M2 := Lib.hid (fun w => rmust_any L (L.length - r2.length) en ev hen w (by omega) hL)
  rw [hk3] at M2
  have hme2 : rmust en r2 = 0 := by unfold rmust; rw [h4]
  rw [hme2] at M2
  have hr3 := mustR_len h4
  have hend : L.length - r3.length = L.length - r2.length + 1 := by
    have h6 := hsuf2.length_le
    have h7 : r2.length = r3.length + 1 := by rw [hr3]; rfl
    omega
  have hmxb : 0 ≤ mx a.depth b.depth ∧ mx a.depth b.depth ≤ 200 := mx_bd (by have := a.depth_size; omega) (by omega) (by have := a.depth_size; omega)
  obtain ⟨hmx0, hmx1⟩ := hmxb
  have hsza := a.size_pos
  have hszb := b.size_pos
  have hd1 := a.depth_size
  have hkb : L.length - r.length ≤ 1000000 := by omega
  generalize hK1 : L.length - r.length = k1 at *
  have HE := Lib.hid hK1
  clear hK1
  have hlt3 : L.length - r2.length ≤ 1000000 := by omega
  generalize hK2 : L.length - r2.length = k2 at *
  have HE2 := Lib.hid hK2
  clear hK2
  rw [hend]
  clear hend
  clear hp hx hS hsuf hk1 hm hme hG hx2 hk2 hr hsuf2 hk3 h4 hen hme2 hr3
  go_enter Try.func37, Try.ntmps37
  go_wp2_with fail
  refine (c33.out _).mono ?_
  rintro e1 w1 ⟨hb, rfl⟩
  simp only [RV]
  rw [HE.out]
  have hblk := (hb.block w.heap.size (by simp)).trans (heap_alloc_new w _)
  have hB1 : Below w.heap.size w w1 := ((Below.refl w.heap.size w).alloc (Nat.le_refl _) _).trans (hb.mono (by simp))
  have HBlk := Lib.hid hblk
  obtain ⟨q0, q1, q2, f0, f1, f2, hz⟩ := old3_of hblk
  clear hb hblk
  go_wp2_with fail
  refine (M1.out _).mono ?_
  rintro e2 w2 ⟨rfl, rfl⟩
  have HB10 := Lib.hid (B3.new w1 (.int .i64 k1) (.int .i64 a.size) (.int .i64 a.depth))
  have HB8 := Lib.hid (B3.alloc HBlk.out (.cells #[.int .i64 k1, .int .i64 a.size, .int .i64 a.depth] 66))
  have HB1 := Lib.hid (hB1.alloc hB1.size (.cells #[.int .i64 k1, .int .i64 a.size, .int .i64 a.depth] 66))
  go_wp2_with fail
  refine (d33.out _).mono ?_
  rintro e3 w3 ⟨hb3, rfl⟩
  simp only [RV]
  rw [HE2.out]
  have hB3 : Below w.heap.size w w3 := HB1.out.trans (hb3.mono HB1.out.size)
  have HC8 := Lib.hid (B3.below HB8.out hb3)
  obtain ⟨q0, q1, q2, f0, f1, f2, hz3⟩ := HC8.out.old
  have HC10 := Lib.hid (B3.below HB10.out hb3)
  obtain ⟨p0, p1, p2, g0, g1, g2, hz4⟩ := HC10.out.old
  clear hb3 HB10
  go_wp2_with fail
  refine (M2.out _).mono ?_
  rintro e4 w4 ⟨rfl, rfl⟩
  go_wp2_with fail
  exact bodyPost_ret (v := okV (k2 + 1) (1 + a.size + b.size) (1 + mx a.depth b.depth)) (res_cell Try.results37 rfl rfl ((B3.set3 HC8.out _ _ _).alloc _)) rfl ⟨((((hB3.setCell (Nat.le_refl _) _).setCell (Nat.le_refl _) _).setCell (Nat.le_refl _) _).alloc (by simpa [World.setCell] using Nat.le_of_lt hz3) _), rfl⟩
include hL h0 h1 hp hS hG hk hen in
theorem rtwo_any : Calls Try.prog 37 #[.string ⟨L.toArray⟩, .int .i64 k, .int .u8 ev, .int .i64 (left + 1)] w fun en_ w' => Below w.heap.size w w' ∧ en_ = .returned (twoV L p en (L.drop (k + 1))) := by
  unfold twoV
  rcases hx : p (L.drop (k + 1)) with ⟨o, e, r⟩
  cases o with
  | none => exact rtwo_1 L hL left h0 h1 p hp hG ev k hk w e r hx
  | some a =>
    dsimp only
    cases hm : mustR 32 r with
    | none => exact rtwo_2 L hL left h0 h1 p hp hS ev k hk w a e r hx hm
    | some r1 =>
      dsimp only
      rcases hx2 : p r1 with ⟨o2, e2, r2⟩
      cases o2 with
      | none => exact rtwo_3 L hL left h0 h1 p hp hG hS ev k hk w a e e2 r r1 r2 hx hm hx2
      | some b =>
        dsimp only
        cases h4 : mustR en r2 with
        | none => exact rtwo_4 L hL left h0 h1 p hp hG hS en ev hen k hk w a e e2 r r1 r2 hx hm b hx2 h4
        | some r3 => exact rtwo_5 L hL left h0 h1 p hp hG hS en ev hen k hk w a e e2 r r1 r2 hx hm b hx2 r3 h4
end
end Go.Proofs.Ytfbagojhnifajaa
