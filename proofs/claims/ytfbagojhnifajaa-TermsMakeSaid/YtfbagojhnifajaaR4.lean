/- The reference's term: the walks. -/
import Derived.Test.YtfbagojhnifajaaR3
namespace Go.Proofs.Ytfbagojhnifajaa
open Go.RowKit
set_option maxRecDepth 100000
set_option linter.unusedVariables false
set_option linter.unusedSimpArgs false
theorem B3.far {w : World} {g : Nat} {c0 c1 c2 : Value} (h : B3 w g c0 c1 c2) {g' : Nat} (hne : g ≠ g') (i : Nat) (u : Value) : B3 (w.setCell ⟨g', i, none⟩ u) g c0 c1 c2 := (Below.heap_setCell w ⟨g', i, none⟩ u g hne).trans h
def CallB (f : FuncId) (args : Array Value) (v : Value) : Prop := ∀ w : World, Calls Try.prog f args w fun e w' => Below w.heap.size w w' ∧ e = .returned v
theorem u8_ne' {c : UInt8} {n : Nat} (h : c ≠ UInt8.ofNat n) (hn : n < 256) : ((c.toNat : Int) == (n : Int)) = false := by
  rw [beq_eq_false_iff_ne]; intro e; exact h (u8_of (by omega) hn)
set_option maxHeartbeats 800000 in
theorem rterm_pair_err (L : List UInt8) (hL : L.length ≤ 1000000) (left : Int) (h0 : 0 ≤ left) (h1 : left ≤ 1000000) (k : Nat) (c : UInt8) (s : List UInt8) (hdr : L.drop k = c :: s) (hc : c.toNat = 40) (w : World) (e : Int) (he : (e != 0) = true) (he2 : (e == 0) = false) (hC : CallB 37 #[.string ⟨L.toArray⟩, .int .i64 k, .int .u8 41, .int .i64 left] (errV e)) :
    Calls Try.prog 33 #[.string ⟨L.toArray⟩, .int .i64 k, .int .i64 left] w fun e_ w' => Below w.heap.size w w' ∧ e_ = .returned (errV e) := by
  obtain ⟨hlt, he_, -⟩ := getD_drop hdr
  have hlt' : k < (⟨L.toArray⟩ : ByteArray).size := hlt
  have hcc : (⟨L.toArray⟩ : ByteArray)[k]'hlt' = c := by rw [ba_idx]; exact he_
  have t1 : ((((⟨L.toArray⟩ : ByteArray)[k]'hlt').toNat : Int) == 40) = true := by rw [hcc, hc]; decide
  have t2 : ((((⟨L.toArray⟩ : ByteArray)[k]'hlt').toNat : Int) == 91) = false := by rw [hcc, hc]; decide
  have t3 : ((((⟨L.toArray⟩ : ByteArray)[k]'hlt').toNat : Int) == 35) = false := by rw [hcc, hc]; decide
  clear hc
  have H := Lib.hid hC
  clear hdr he_ hcc hC
  go_enter Try.func33, Try.ntmps33
  go_wp2_with fail
  refine (H.out _).mono ?_
  rintro e1 w1 ⟨hb, rfl⟩
  simp only [errV, okV]
  have hB1 : Below w.heap.size w w1 := (((Below.refl w.heap.size w).alloc (Nat.le_refl _) _).alloc (by simp) _).trans (hb.mono (by simp; omega))
  have HC6 := Lib.hid (B3.below ((B3.new w (.int .i64 0) (.int .i64 0) (.int .i64 0)).alloc (.cells #[.int .i64 0, .int .i64 0, .int .i64 0] 66)) hb)
  have HC8 := Lib.hid (B3.below (B3.new (w.alloc (.cells #[.int .i64 0, .int .i64 0, .int .i64 0] 66)) (.int .i64 0) (.int .i64 0) (.int .i64 0)) hb)
  have hse : (w.alloc (.cells #[.int .i64 0, .int .i64 0, .int .i64 0] 66)).heap.size = w.heap.size + 1 := by simp
  rw [hse] at HC8
  obtain ⟨q0, q1, q2, f0, f1, f2, hz6⟩ := HC6.out.old
  obtain ⟨p0, p1, p2, g0, g1, g2, hz8⟩ := HC8.out.old
  clear hb hse
  go_wp2_with fail
  exact bodyPost_ret (v := errV e) (res_cell Try.results33 rfl rfl (B3.set3 (((HC6.out.far (Nat.ne_of_lt (Nat.lt_succ_self _)) 0 _).far (Nat.ne_of_lt (Nat.lt_succ_self _)) 1 _).far (Nat.ne_of_lt (Nat.lt_succ_self _)) 2 _) _ _ _)) rfl ⟨(((((hB1.setCell (p := ⟨w.heap.size + 1, 0, none⟩) (Nat.le_succ _) _).setCell (p := ⟨w.heap.size + 1, 1, none⟩) (Nat.le_succ _) _).setCell (p := ⟨w.heap.size + 1, 2, none⟩) (Nat.le_succ _) _).setCell (Nat.le_refl _) _).setCell (Nat.le_refl _) _).setCell (Nat.le_refl _) _, rfl⟩
set_option maxHeartbeats 800000 in
theorem rterm_pair_big1 (L : List UInt8) (hL : L.length ≤ 1000000) (left : Int) (h0 : 0 ≤ left) (h1 : left ≤ 1000000) (k : Nat) (c : UInt8) (s : List UInt8) (hdr : L.drop k = c :: s) (hc : c.toNat = 40) (w : World) (n : Nat) (z d : Int) (z0 : 0 ≤ z) (z1 : z ≤ 1000000) (d0 : 0 ≤ d) (d1 : d ≤ 1000000) (hz : 200 < z) (hC : CallB 37 #[.string ⟨L.toArray⟩, .int .i64 k, .int .u8 41, .int .i64 left] (okV n z d)) :
    Calls Try.prog 33 #[.string ⟨L.toArray⟩, .int .i64 k, .int .i64 left] w fun e_ w' => Below w.heap.size w w' ∧ e_ = .returned (errV 8) := by
  obtain ⟨hlt, he_, -⟩ := getD_drop hdr
  have hlt' : k < (⟨L.toArray⟩ : ByteArray).size := hlt
  have hcc : (⟨L.toArray⟩ : ByteArray)[k]'hlt' = c := by rw [ba_idx]; exact he_
  have t1 : ((((⟨L.toArray⟩ : ByteArray)[k]'hlt').toNat : Int) == 40) = true := by rw [hcc, hc]; decide
  have t2 : ((((⟨L.toArray⟩ : ByteArray)[k]'hlt').toNat : Int) == 91) = false := by rw [hcc, hc]; decide
  have t3 : ((((⟨L.toArray⟩ : ByteArray)[k]'hlt').toNat : Int) == 35) = false := by rw [hcc, hc]; decide
  clear hc
  have H := Lib.hid hC
  clear hdr he_ hcc hC
  go_enter Try.func33, Try.ntmps33
  go_wp2_with fail
  refine (H.out _).mono ?_
  rintro e1 w1 ⟨hb, rfl⟩
  simp only [errV, okV]
  have hB1 : Below w.heap.size w w1 := (((Below.refl w.heap.size w).alloc (Nat.le_refl _) _).alloc (by simp) _).trans (hb.mono (by simp; omega))
  have HC6 := Lib.hid (B3.below ((B3.new w (.int .i64 0) (.int .i64 0) (.int .i64 0)).alloc (.cells #[.int .i64 0, .int .i64 0, .int .i64 0] 66)) hb)
  have HC8 := Lib.hid (B3.below (B3.new (w.alloc (.cells #[.int .i64 0, .int .i64 0, .int .i64 0] 66)) (.int .i64 0) (.int .i64 0) (.int .i64 0)) hb)
  have hse : (w.alloc (.cells #[.int .i64 0, .int .i64 0, .int .i64 0] 66)).heap.size = w.heap.size + 1 := by simp
  rw [hse] at HC8
  obtain ⟨q0, q1, q2, f0, f1, f2, hz6⟩ := HC6.out.old
  obtain ⟨p0, p1, p2, g0, g1, g2, hz8⟩ := HC8.out.old
  clear hb hse
  go_wp2_with fail
  exact bodyPost_ret (v := errV 8) (res_cell Try.results33 rfl rfl (B3.set3 (((HC6.out.far (Nat.ne_of_lt (Nat.lt_succ_self _)) 0 _).far (Nat.ne_of_lt (Nat.lt_succ_self _)) 1 _).far (Nat.ne_of_lt (Nat.lt_succ_self _)) 2 _) _ _ _)) rfl ⟨(((((hB1.setCell (p := ⟨w.heap.size + 1, 0, none⟩) (Nat.le_succ _) _).setCell (p := ⟨w.heap.size + 1, 1, none⟩) (Nat.le_succ _) _).setCell (p := ⟨w.heap.size + 1, 2, none⟩) (Nat.le_succ _) _).setCell (Nat.le_refl _) _).setCell (Nat.le_refl _) _).setCell (Nat.le_refl _) _, rfl⟩
set_option maxHeartbeats 800000 in
theorem rterm_pair_big2 (L : List UInt8) (hL : L.length ≤ 1000000) (left : Int) (h0 : 0 ≤ left) (h1 : left ≤ 1000000) (k : Nat) (c : UInt8) (s : List UInt8) (hdr : L.drop k = c :: s) (hc : c.toNat = 40) (w : World) (n : Nat) (z d : Int) (z0 : 0 ≤ z) (z1 : z ≤ 1000000) (d0 : 0 ≤ d) (d1 : d ≤ 1000000) (hz : z ≤ 200) (hd : 40 < d) (hC : CallB 37 #[.string ⟨L.toArray⟩, .int .i64 k, .int .u8 41, .int .i64 left] (okV n z d)) :
    Calls Try.prog 33 #[.string ⟨L.toArray⟩, .int .i64 k, .int .i64 left] w fun e_ w' => Below w.heap.size w w' ∧ e_ = .returned (errV 8) := by
  obtain ⟨hlt, he_, -⟩ := getD_drop hdr
  have hlt' : k < (⟨L.toArray⟩ : ByteArray).size := hlt
  have hcc : (⟨L.toArray⟩ : ByteArray)[k]'hlt' = c := by rw [ba_idx]; exact he_
  have t1 : ((((⟨L.toArray⟩ : ByteArray)[k]'hlt').toNat : Int) == 40) = true := by rw [hcc, hc]; decide
  have t2 : ((((⟨L.toArray⟩ : ByteArray)[k]'hlt').toNat : Int) == 91) = false := by rw [hcc, hc]; decide
  have t3 : ((((⟨L.toArray⟩ : ByteArray)[k]'hlt').toNat : Int) == 35) = false := by rw [hcc, hc]; decide
  clear hc
  have H := Lib.hid hC
  clear hdr he_ hcc hC
  go_enter Try.func33, Try.ntmps33
  go_wp2_with fail
  refine (H.out _).mono ?_
  rintro e1 w1 ⟨hb, rfl⟩
  simp only [errV, okV]
  have hB1 : Below w.heap.size w w1 := (((Below.refl w.heap.size w).alloc (Nat.le_refl _) _).alloc (by simp) _).trans (hb.mono (by simp; omega))
  have HC6 := Lib.hid (B3.below ((B3.new w (.int .i64 0) (.int .i64 0) (.int .i64 0)).alloc (.cells #[.int .i64 0, .int .i64 0, .int .i64 0] 66)) hb)
  have HC8 := Lib.hid (B3.below (B3.new (w.alloc (.cells #[.int .i64 0, .int .i64 0, .int .i64 0] 66)) (.int .i64 0) (.int .i64 0) (.int .i64 0)) hb)
  have hse : (w.alloc (.cells #[.int .i64 0, .int .i64 0, .int .i64 0] 66)).heap.size = w.heap.size + 1 := by simp
  rw [hse] at HC8
  obtain ⟨q0, q1, q2, f0, f1, f2, hz6⟩ := HC6.out.old
  obtain ⟨p0, p1, p2, g0, g1, g2, hz8⟩ := HC8.out.old
  clear hb hse
  go_wp2_with fail
  exact bodyPost_ret (v := errV 8) (res_cell Try.results33 rfl rfl (B3.set3 (((HC6.out.far (Nat.ne_of_lt (Nat.lt_succ_self _)) 0 _).far (Nat.ne_of_lt (Nat.lt_succ_self _)) 1 _).far (Nat.ne_of_lt (Nat.lt_succ_self _)) 2 _) _ _ _)) rfl ⟨(((((hB1.setCell (p := ⟨w.heap.size + 1, 0, none⟩) (Nat.le_succ _) _).setCell (p := ⟨w.heap.size + 1, 1, none⟩) (Nat.le_succ _) _).setCell (p := ⟨w.heap.size + 1, 2, none⟩) (Nat.le_succ _) _).setCell (Nat.le_refl _) _).setCell (Nat.le_refl _) _).setCell (Nat.le_refl _) _, rfl⟩
set_option maxHeartbeats 800000 in
theorem rterm_pair_ok (L : List UInt8) (hL : L.length ≤ 1000000) (left : Int) (h0 : 0 ≤ left) (h1 : left ≤ 1000000) (k : Nat) (c : UInt8) (s : List UInt8) (hdr : L.drop k = c :: s) (hc : c.toNat = 40) (w : World) (n : Nat) (z d : Int) (z0 : 0 ≤ z) (z1 : z ≤ 1000000) (d0 : 0 ≤ d) (d1 : d ≤ 1000000) (hz : z ≤ 200) (hd : d ≤ 40) (hC : CallB 37 #[.string ⟨L.toArray⟩, .int .i64 k, .int .u8 41, .int .i64 left] (okV n z d)) :
    Calls Try.prog 33 #[.string ⟨L.toArray⟩, .int .i64 k, .int .i64 left] w fun e_ w' => Below w.heap.size w w' ∧ e_ = .returned (okV n (z) (d)) := by
  obtain ⟨hlt, he_, -⟩ := getD_drop hdr
  have hlt' : k < (⟨L.toArray⟩ : ByteArray).size := hlt
  have hcc : (⟨L.toArray⟩ : ByteArray)[k]'hlt' = c := by rw [ba_idx]; exact he_
  have t1 : ((((⟨L.toArray⟩ : ByteArray)[k]'hlt').toNat : Int) == 40) = true := by rw [hcc, hc]; decide
  have t2 : ((((⟨L.toArray⟩ : ByteArray)[k]'hlt').toNat : Int) == 91) = false := by rw [hcc, hc]; decide
  have t3 : ((((⟨L.toArray⟩ : ByteArray)[k]'hlt').toNat : Int) == 35) = false := by rw [hcc, hc]; decide
  clear hc
  have H := Lib.hid hC
  clear hdr he_ hcc hC
  go_enter Try.func33, Try.ntmps33
  go_wp2_with fail
  refine (H.out _).mono ?_
  rintro e1 w1 ⟨hb, rfl⟩
  simp only [errV, okV]
  have hB1 : Below w.heap.size w w1 := (((Below.refl w.heap.size w).alloc (Nat.le_refl _) _).alloc (by simp) _).trans (hb.mono (by simp; omega))
  have HC6 := Lib.hid (B3.below ((B3.new w (.int .i64 0) (.int .i64 0) (.int .i64 0)).alloc (.cells #[.int .i64 0, .int .i64 0, .int .i64 0] 66)) hb)
  have HC8 := Lib.hid (B3.below (B3.new (w.alloc (.cells #[.int .i64 0, .int .i64 0, .int .i64 0] 66)) (.int .i64 0) (.int .i64 0) (.int .i64 0)) hb)
  have hse : (w.alloc (.cells #[.int .i64 0, .int .i64 0, .int .i64 0] 66)).heap.size = w.heap.size + 1 := by simp
  rw [hse] at HC8
  obtain ⟨q0, q1, q2, f0, f1, f2, hz6⟩ := HC6.out.old
  obtain ⟨p0, p1, p2, g0, g1, g2, hz8⟩ := HC8.out.old
  clear hb hse
  go_wp2_with fail
  exact bodyPost_ret (v := okV n (z) (d)) (res_cell Try.results33 rfl rfl (B3.set3 (((HC6.out.far (Nat.ne_of_lt (Nat.lt_succ_self _)) 0 _).far (Nat.ne_of_lt (Nat.lt_succ_self _)) 1 _).far (Nat.ne_of_lt (Nat.lt_succ_self _)) 2 _) _ _ _)) rfl ⟨(((((hB1.setCell (p := ⟨w.heap.size + 1, 0, none⟩) (Nat.le_succ _) _).setCell (p := ⟨w.heap.size + 1, 1, none⟩) (Nat.le_succ _) _).setCell (p := ⟨w.heap.size + 1, 2, none⟩) (Nat.le_succ _) _).setCell (Nat.le_refl _) _).setCell (Nat.le_refl _) _).setCell (Nat.le_refl _) _, rfl⟩
set_option maxHeartbeats 800000 in
theorem rterm_seal__err (L : List UInt8) (hL : L.length ≤ 1000000) (left : Int) (h0 : 0 ≤ left) (h1 : left ≤ 1000000) (k : Nat) (c : UInt8) (s : List UInt8) (hdr : L.drop k = c :: s) (hc : c.toNat = 91) (w : World) (e : Int) (he : (e != 0) = true) (he2 : (e == 0) = false) (hC : CallB 37 #[.string ⟨L.toArray⟩, .int .i64 k, .int .u8 93, .int .i64 left] (errV e)) :
    Calls Try.prog 33 #[.string ⟨L.toArray⟩, .int .i64 k, .int .i64 left] w fun e_ w' => Below w.heap.size w w' ∧ e_ = .returned (errV e) := by
  obtain ⟨hlt, he_, -⟩ := getD_drop hdr
  have hlt' : k < (⟨L.toArray⟩ : ByteArray).size := hlt
  have hcc : (⟨L.toArray⟩ : ByteArray)[k]'hlt' = c := by rw [ba_idx]; exact he_
  have t1 : ((((⟨L.toArray⟩ : ByteArray)[k]'hlt').toNat : Int) == 40) = false := by rw [hcc, hc]; decide
  have t2 : ((((⟨L.toArray⟩ : ByteArray)[k]'hlt').toNat : Int) == 91) = true := by rw [hcc, hc]; decide
  have t3 : ((((⟨L.toArray⟩ : ByteArray)[k]'hlt').toNat : Int) == 35) = false := by rw [hcc, hc]; decide
  clear hc
  have H := Lib.hid hC
  clear hdr he_ hcc hC
  go_enter Try.func33, Try.ntmps33
  go_wp2_with fail
  refine (H.out _).mono ?_
  rintro e1 w1 ⟨hb, rfl⟩
  simp only [errV, okV]
  have hB1 : Below w.heap.size w w1 := (((Below.refl w.heap.size w).alloc (Nat.le_refl _) _).alloc (by simp) _).trans (hb.mono (by simp; omega))
  have HC6 := Lib.hid (B3.below ((B3.new w (.int .i64 0) (.int .i64 0) (.int .i64 0)).alloc (.cells #[.int .i64 0, .int .i64 0, .int .i64 0] 66)) hb)
  have HC8 := Lib.hid (B3.below (B3.new (w.alloc (.cells #[.int .i64 0, .int .i64 0, .int .i64 0] 66)) (.int .i64 0) (.int .i64 0) (.int .i64 0)) hb)
  have hse : (w.alloc (.cells #[.int .i64 0, .int .i64 0, .int .i64 0] 66)).heap.size = w.heap.size + 1 := by simp
  rw [hse] at HC8
  obtain ⟨q0, q1, q2, f0, f1, f2, hz6⟩ := HC6.out.old
  obtain ⟨p0, p1, p2, g0, g1, g2, hz8⟩ := HC8.out.old
  clear hb hse
  go_wp2_with fail
  exact bodyPost_ret (v := errV e) (res_cell Try.results33 rfl rfl (B3.set3 (((HC6.out.far (Nat.ne_of_lt (Nat.lt_succ_self _)) 0 _).far (Nat.ne_of_lt (Nat.lt_succ_self _)) 1 _).far (Nat.ne_of_lt (Nat.lt_succ_self _)) 2 _) _ _ _)) rfl ⟨(((((hB1.setCell (p := ⟨w.heap.size + 1, 0, none⟩) (Nat.le_succ _) _).setCell (p := ⟨w.heap.size + 1, 1, none⟩) (Nat.le_succ _) _).setCell (p := ⟨w.heap.size + 1, 2, none⟩) (Nat.le_succ _) _).setCell (Nat.le_refl _) _).setCell (Nat.le_refl _) _).setCell (Nat.le_refl _) _, rfl⟩
set_option maxHeartbeats 800000 in
theorem rterm_seal__big1 (L : List UInt8) (hL : L.length ≤ 1000000) (left : Int) (h0 : 0 ≤ left) (h1 : left ≤ 1000000) (k : Nat) (c : UInt8) (s : List UInt8) (hdr : L.drop k = c :: s) (hc : c.toNat = 91) (w : World) (n : Nat) (z d : Int) (z0 : 0 ≤ z) (z1 : z ≤ 1000000) (d0 : 0 ≤ d) (d1 : d ≤ 1000000) (hz : 200 < z) (hC : CallB 37 #[.string ⟨L.toArray⟩, .int .i64 k, .int .u8 93, .int .i64 left] (okV n z d)) :
    Calls Try.prog 33 #[.string ⟨L.toArray⟩, .int .i64 k, .int .i64 left] w fun e_ w' => Below w.heap.size w w' ∧ e_ = .returned (errV 8) := by
  obtain ⟨hlt, he_, -⟩ := getD_drop hdr
  have hlt' : k < (⟨L.toArray⟩ : ByteArray).size := hlt
  have hcc : (⟨L.toArray⟩ : ByteArray)[k]'hlt' = c := by rw [ba_idx]; exact he_
  have t1 : ((((⟨L.toArray⟩ : ByteArray)[k]'hlt').toNat : Int) == 40) = false := by rw [hcc, hc]; decide
  have t2 : ((((⟨L.toArray⟩ : ByteArray)[k]'hlt').toNat : Int) == 91) = true := by rw [hcc, hc]; decide
  have t3 : ((((⟨L.toArray⟩ : ByteArray)[k]'hlt').toNat : Int) == 35) = false := by rw [hcc, hc]; decide
  clear hc
  have H := Lib.hid hC
  clear hdr he_ hcc hC
  go_enter Try.func33, Try.ntmps33
  go_wp2_with fail
  refine (H.out _).mono ?_
  rintro e1 w1 ⟨hb, rfl⟩
  simp only [errV, okV]
  have hB1 : Below w.heap.size w w1 := (((Below.refl w.heap.size w).alloc (Nat.le_refl _) _).alloc (by simp) _).trans (hb.mono (by simp; omega))
  have HC6 := Lib.hid (B3.below ((B3.new w (.int .i64 0) (.int .i64 0) (.int .i64 0)).alloc (.cells #[.int .i64 0, .int .i64 0, .int .i64 0] 66)) hb)
  have HC8 := Lib.hid (B3.below (B3.new (w.alloc (.cells #[.int .i64 0, .int .i64 0, .int .i64 0] 66)) (.int .i64 0) (.int .i64 0) (.int .i64 0)) hb)
  have hse : (w.alloc (.cells #[.int .i64 0, .int .i64 0, .int .i64 0] 66)).heap.size = w.heap.size + 1 := by simp
  rw [hse] at HC8
  obtain ⟨q0, q1, q2, f0, f1, f2, hz6⟩ := HC6.out.old
  obtain ⟨p0, p1, p2, g0, g1, g2, hz8⟩ := HC8.out.old
  clear hb hse
  go_wp2_with fail
  exact bodyPost_ret (v := errV 8) (res_cell Try.results33 rfl rfl (B3.set3 (((HC6.out.far (Nat.ne_of_lt (Nat.lt_succ_self _)) 0 _).far (Nat.ne_of_lt (Nat.lt_succ_self _)) 1 _).far (Nat.ne_of_lt (Nat.lt_succ_self _)) 2 _) _ _ _)) rfl ⟨(((((hB1.setCell (p := ⟨w.heap.size + 1, 0, none⟩) (Nat.le_succ _) _).setCell (p := ⟨w.heap.size + 1, 1, none⟩) (Nat.le_succ _) _).setCell (p := ⟨w.heap.size + 1, 2, none⟩) (Nat.le_succ _) _).setCell (Nat.le_refl _) _).setCell (Nat.le_refl _) _).setCell (Nat.le_refl _) _, rfl⟩
set_option maxHeartbeats 800000 in
theorem rterm_seal__big2 (L : List UInt8) (hL : L.length ≤ 1000000) (left : Int) (h0 : 0 ≤ left) (h1 : left ≤ 1000000) (k : Nat) (c : UInt8) (s : List UInt8) (hdr : L.drop k = c :: s) (hc : c.toNat = 91) (w : World) (n : Nat) (z d : Int) (z0 : 0 ≤ z) (z1 : z ≤ 1000000) (d0 : 0 ≤ d) (d1 : d ≤ 1000000) (hz : z ≤ 200) (hd : 40 < d) (hC : CallB 37 #[.string ⟨L.toArray⟩, .int .i64 k, .int .u8 93, .int .i64 left] (okV n z d)) :
    Calls Try.prog 33 #[.string ⟨L.toArray⟩, .int .i64 k, .int .i64 left] w fun e_ w' => Below w.heap.size w w' ∧ e_ = .returned (errV 8) := by
  obtain ⟨hlt, he_, -⟩ := getD_drop hdr
  have hlt' : k < (⟨L.toArray⟩ : ByteArray).size := hlt
  have hcc : (⟨L.toArray⟩ : ByteArray)[k]'hlt' = c := by rw [ba_idx]; exact he_
  have t1 : ((((⟨L.toArray⟩ : ByteArray)[k]'hlt').toNat : Int) == 40) = false := by rw [hcc, hc]; decide
  have t2 : ((((⟨L.toArray⟩ : ByteArray)[k]'hlt').toNat : Int) == 91) = true := by rw [hcc, hc]; decide
  have t3 : ((((⟨L.toArray⟩ : ByteArray)[k]'hlt').toNat : Int) == 35) = false := by rw [hcc, hc]; decide
  clear hc
  have H := Lib.hid hC
  clear hdr he_ hcc hC
  go_enter Try.func33, Try.ntmps33
  go_wp2_with fail
  refine (H.out _).mono ?_
  rintro e1 w1 ⟨hb, rfl⟩
  simp only [errV, okV]
  have hB1 : Below w.heap.size w w1 := (((Below.refl w.heap.size w).alloc (Nat.le_refl _) _).alloc (by simp) _).trans (hb.mono (by simp; omega))
  have HC6 := Lib.hid (B3.below ((B3.new w (.int .i64 0) (.int .i64 0) (.int .i64 0)).alloc (.cells #[.int .i64 0, .int .i64 0, .int .i64 0] 66)) hb)
  have HC8 := Lib.hid (B3.below (B3.new (w.alloc (.cells #[.int .i64 0, .int .i64 0, .int .i64 0] 66)) (.int .i64 0) (.int .i64 0) (.int .i64 0)) hb)
  have hse : (w.alloc (.cells #[.int .i64 0, .int .i64 0, .int .i64 0] 66)).heap.size = w.heap.size + 1 := by simp
  rw [hse] at HC8
  obtain ⟨q0, q1, q2, f0, f1, f2, hz6⟩ := HC6.out.old
  obtain ⟨p0, p1, p2, g0, g1, g2, hz8⟩ := HC8.out.old
  clear hb hse
  go_wp2_with fail
  exact bodyPost_ret (v := errV 8) (res_cell Try.results33 rfl rfl (B3.set3 (((HC6.out.far (Nat.ne_of_lt (Nat.lt_succ_self _)) 0 _).far (Nat.ne_of_lt (Nat.lt_succ_self _)) 1 _).far (Nat.ne_of_lt (Nat.lt_succ_self _)) 2 _) _ _ _)) rfl ⟨(((((hB1.setCell (p := ⟨w.heap.size + 1, 0, none⟩) (Nat.le_succ _) _).setCell (p := ⟨w.heap.size + 1, 1, none⟩) (Nat.le_succ _) _).setCell (p := ⟨w.heap.size + 1, 2, none⟩) (Nat.le_succ _) _).setCell (Nat.le_refl _) _).setCell (Nat.le_refl _) _).setCell (Nat.le_refl _) _, rfl⟩
set_option maxHeartbeats 800000 in
theorem rterm_seal__ok (L : List UInt8) (hL : L.length ≤ 1000000) (left : Int) (h0 : 0 ≤ left) (h1 : left ≤ 1000000) (k : Nat) (c : UInt8) (s : List UInt8) (hdr : L.drop k = c :: s) (hc : c.toNat = 91) (w : World) (n : Nat) (z d : Int) (z0 : 0 ≤ z) (z1 : z ≤ 1000000) (d0 : 0 ≤ d) (d1 : d ≤ 1000000) (hz : z ≤ 200) (hd : d ≤ 40) (hC : CallB 37 #[.string ⟨L.toArray⟩, .int .i64 k, .int .u8 93, .int .i64 left] (okV n z d)) :
    Calls Try.prog 33 #[.string ⟨L.toArray⟩, .int .i64 k, .int .i64 left] w fun e_ w' => Below w.heap.size w w' ∧ e_ = .returned (okV n (z) (d)) := by
  obtain ⟨hlt, he_, -⟩ := getD_drop hdr
  have hlt' : k < (⟨L.toArray⟩ : ByteArray).size := hlt
  have hcc : (⟨L.toArray⟩ : ByteArray)[k]'hlt' = c := by rw [ba_idx]; exact he_
  have t1 : ((((⟨L.toArray⟩ : ByteArray)[k]'hlt').toNat : Int) == 40) = false := by rw [hcc, hc]; decide
  have t2 : ((((⟨L.toArray⟩ : ByteArray)[k]'hlt').toNat : Int) == 91) = true := by rw [hcc, hc]; decide
  have t3 : ((((⟨L.toArray⟩ : ByteArray)[k]'hlt').toNat : Int) == 35) = false := by rw [hcc, hc]; decide
  clear hc
  have H := Lib.hid hC
  clear hdr he_ hcc hC
  go_enter Try.func33, Try.ntmps33
  go_wp2_with fail
  refine (H.out _).mono ?_
  rintro e1 w1 ⟨hb, rfl⟩
  simp only [errV, okV]
  have hB1 : Below w.heap.size w w1 := (((Below.refl w.heap.size w).alloc (Nat.le_refl _) _).alloc (by simp) _).trans (hb.mono (by simp; omega))
  have HC6 := Lib.hid (B3.below ((B3.new w (.int .i64 0) (.int .i64 0) (.int .i64 0)).alloc (.cells #[.int .i64 0, .int .i64 0, .int .i64 0] 66)) hb)
  have HC8 := Lib.hid (B3.below (B3.new (w.alloc (.cells #[.int .i64 0, .int .i64 0, .int .i64 0] 66)) (.int .i64 0) (.int .i64 0) (.int .i64 0)) hb)
  have hse : (w.alloc (.cells #[.int .i64 0, .int .i64 0, .int .i64 0] 66)).heap.size = w.heap.size + 1 := by simp
  rw [hse] at HC8
  obtain ⟨q0, q1, q2, f0, f1, f2, hz6⟩ := HC6.out.old
  obtain ⟨p0, p1, p2, g0, g1, g2, hz8⟩ := HC8.out.old
  clear hb hse
  go_wp2_with fail
  exact bodyPost_ret (v := okV n (z) (d)) (res_cell Try.results33 rfl rfl (B3.set3 (((HC6.out.far (Nat.ne_of_lt (Nat.lt_succ_self _)) 0 _).far (Nat.ne_of_lt (Nat.lt_succ_self _)) 1 _).far (Nat.ne_of_lt (Nat.lt_succ_self _)) 2 _) _ _ _)) rfl ⟨(((((hB1.setCell (p := ⟨w.heap.size + 1, 0, none⟩) (Nat.le_succ _) _).setCell (p := ⟨w.heap.size + 1, 1, none⟩) (Nat.le_succ _) _).setCell (p := ⟨w.heap.size + 1, 2, none⟩) (Nat.le_succ _) _).setCell (Nat.le_refl _) _).setCell (Nat.le_refl _) _).setCell (Nat.le_refl _) _, rfl⟩
set_option maxHeartbeats 800000 in
theorem rterm_hash_err (L : List UInt8) (hL : L.length ≤ 1000000) (left : Int) (h0 : 0 ≤ left) (h1 : left ≤ 1000000) (k : Nat) (c : UInt8) (s : List UInt8) (hdr : L.drop k = c :: s) (hc : c.toNat = 35) (w : World) (e : Int) (he : (e != 0) = true) (he2 : (e == 0) = false) (hC : CallB 33 #[.string ⟨L.toArray⟩, .int .i64 ((k : Int) + 1), .int .i64 (left - 1)] (errV e)) :
    Calls Try.prog 33 #[.string ⟨L.toArray⟩, .int .i64 k, .int .i64 left] w fun e_ w' => Below w.heap.size w w' ∧ e_ = .returned (errV e) := by
  obtain ⟨hlt, he_, -⟩ := getD_drop hdr
  have hlt' : k < (⟨L.toArray⟩ : ByteArray).size := hlt
  have hcc : (⟨L.toArray⟩ : ByteArray)[k]'hlt' = c := by rw [ba_idx]; exact he_
  have t1 : ((((⟨L.toArray⟩ : ByteArray)[k]'hlt').toNat : Int) == 40) = false := by rw [hcc, hc]; decide
  have t2 : ((((⟨L.toArray⟩ : ByteArray)[k]'hlt').toNat : Int) == 91) = false := by rw [hcc, hc]; decide
  have t3 : ((((⟨L.toArray⟩ : ByteArray)[k]'hlt').toNat : Int) == 35) = true := by rw [hcc, hc]; decide
  clear hc
  have H := Lib.hid hC
  clear hdr he_ hcc hC
  go_enter Try.func33, Try.ntmps33
  go_wp2_with fail
  refine (H.out _).mono ?_
  rintro e1 w1 ⟨hb, rfl⟩
  simp only [errV, okV]
  have hB1 : Below w.heap.size w w1 := (((Below.refl w.heap.size w).alloc (Nat.le_refl _) _).alloc (by simp) _).trans (hb.mono (by simp; omega))
  have HC6 := Lib.hid (B3.below ((B3.new w (.int .i64 0) (.int .i64 0) (.int .i64 0)).alloc (.cells #[.int .i64 0, .int .i64 0, .int .i64 0] 66)) hb)
  have HC8 := Lib.hid (B3.below (B3.new (w.alloc (.cells #[.int .i64 0, .int .i64 0, .int .i64 0] 66)) (.int .i64 0) (.int .i64 0) (.int .i64 0)) hb)
  have hse : (w.alloc (.cells #[.int .i64 0, .int .i64 0, .int .i64 0] 66)).heap.size = w.heap.size + 1 := by simp
  rw [hse] at HC8
  obtain ⟨q0, q1, q2, f0, f1, f2, hz6⟩ := HC6.out.old
  obtain ⟨p0, p1, p2, g0, g1, g2, hz8⟩ := HC8.out.old
  clear hb hse
  go_upto_region 13 with (fail)
  have HD8 := Lib.hid (B3.set3 HC8.out (.int .i64 0) (.int .i64 0) (.int .i64 0))
  have HD6 := Lib.hid (((HC6.out.far (Nat.ne_of_lt (Nat.lt_succ_self _)) 0 (.int .i64 0)).far (Nat.ne_of_lt (Nat.lt_succ_self _)) 1 (.int .i64 0)).far (Nat.ne_of_lt (Nat.lt_succ_self _)) 2 (.int .i64 0))
  have hD := ((hB1.setCell (p := ⟨w.heap.size + 1, 0, none⟩) (Nat.le_succ _) (.int .i64 0)).setCell (p := ⟨w.heap.size + 1, 1, none⟩) (Nat.le_succ _) (.int .i64 0)).setCell (p := ⟨w.heap.size + 1, 2, none⟩) (Nat.le_succ _) (.int .i64 0)
  generalize ((w1.setCell ⟨w.heap.size + 1, 0, none⟩ (.int .i64 0)).setCell ⟨w.heap.size + 1, 1, none⟩ (.int .i64 0)).setCell ⟨w.heap.size + 1, 2, none⟩ (.int .i64 0) = w2 at *
  clear q0 q1 q2 f0 f1 f2 hz6 p0 p1 p2 g0 g1 g2 hz8
  obtain ⟨q0, q1, q2, f0, f1, f2, hz6⟩ := HD6.out.old
  obtain ⟨p0, p1, p2, g0, g1, g2, hz8⟩ := HD8.out.old
  go_wp2_with fail
  exact bodyPost_ret (v := errV e) (res_cell Try.results33 rfl rfl (B3.set3 ((HD6.out.far (Nat.ne_of_lt (Nat.lt_succ_self _)) 1 _).far (Nat.ne_of_lt (Nat.lt_succ_self _)) 2 _) _ _ _)) rfl ⟨((((hD.setCell (p := ⟨w.heap.size + 1, 1, none⟩) (Nat.le_succ _) _).setCell (p := ⟨w.heap.size + 1, 2, none⟩) (Nat.le_succ _) _).setCell (Nat.le_refl _) _).setCell (Nat.le_refl _) _).setCell (Nat.le_refl _) _, rfl⟩
set_option maxHeartbeats 800000 in
theorem rterm_hash_big1 (L : List UInt8) (hL : L.length ≤ 1000000) (left : Int) (h0 : 0 ≤ left) (h1 : left ≤ 1000000) (k : Nat) (c : UInt8) (s : List UInt8) (hdr : L.drop k = c :: s) (hc : c.toNat = 35) (w : World) (n : Nat) (z d : Int) (z0 : 0 ≤ z) (z1 : z ≤ 1000000) (d0 : 0 ≤ d) (d1 : d ≤ 1000000) (hz : 200 < z + 1) (hC : CallB 33 #[.string ⟨L.toArray⟩, .int .i64 ((k : Int) + 1), .int .i64 (left - 1)] (okV n z d)) :
    Calls Try.prog 33 #[.string ⟨L.toArray⟩, .int .i64 k, .int .i64 left] w fun e_ w' => Below w.heap.size w w' ∧ e_ = .returned (errV 8) := by
  obtain ⟨hlt, he_, -⟩ := getD_drop hdr
  have hlt' : k < (⟨L.toArray⟩ : ByteArray).size := hlt
  have hcc : (⟨L.toArray⟩ : ByteArray)[k]'hlt' = c := by rw [ba_idx]; exact he_
  have t1 : ((((⟨L.toArray⟩ : ByteArray)[k]'hlt').toNat : Int) == 40) = false := by rw [hcc, hc]; decide
  have t2 : ((((⟨L.toArray⟩ : ByteArray)[k]'hlt').toNat : Int) == 91) = false := by rw [hcc, hc]; decide
  have t3 : ((((⟨L.toArray⟩ : ByteArray)[k]'hlt').toNat : Int) == 35) = true := by rw [hcc, hc]; decide
  clear hc
  have H := Lib.hid hC
  clear hdr he_ hcc hC
  go_enter Try.func33, Try.ntmps33
  go_wp2_with fail
  refine (H.out _).mono ?_
  rintro e1 w1 ⟨hb, rfl⟩
  simp only [errV, okV]
  have hB1 : Below w.heap.size w w1 := (((Below.refl w.heap.size w).alloc (Nat.le_refl _) _).alloc (by simp) _).trans (hb.mono (by simp; omega))
  have HC6 := Lib.hid (B3.below ((B3.new w (.int .i64 0) (.int .i64 0) (.int .i64 0)).alloc (.cells #[.int .i64 0, .int .i64 0, .int .i64 0] 66)) hb)
  have HC8 := Lib.hid (B3.below (B3.new (w.alloc (.cells #[.int .i64 0, .int .i64 0, .int .i64 0] 66)) (.int .i64 0) (.int .i64 0) (.int .i64 0)) hb)
  have hse : (w.alloc (.cells #[.int .i64 0, .int .i64 0, .int .i64 0] 66)).heap.size = w.heap.size + 1 := by simp
  rw [hse] at HC8
  obtain ⟨q0, q1, q2, f0, f1, f2, hz6⟩ := HC6.out.old
  obtain ⟨p0, p1, p2, g0, g1, g2, hz8⟩ := HC8.out.old
  clear hb hse
  go_upto_region 13 with (fail)
  have HD8 := Lib.hid (B3.set3 HC8.out (.int .i64 n) (.int .i64 z) (.int .i64 d))
  have HD6 := Lib.hid (((HC6.out.far (Nat.ne_of_lt (Nat.lt_succ_self _)) 0 (.int .i64 n)).far (Nat.ne_of_lt (Nat.lt_succ_self _)) 1 (.int .i64 z)).far (Nat.ne_of_lt (Nat.lt_succ_self _)) 2 (.int .i64 d))
  have hD := ((hB1.setCell (p := ⟨w.heap.size + 1, 0, none⟩) (Nat.le_succ _) (.int .i64 n)).setCell (p := ⟨w.heap.size + 1, 1, none⟩) (Nat.le_succ _) (.int .i64 z)).setCell (p := ⟨w.heap.size + 1, 2, none⟩) (Nat.le_succ _) (.int .i64 d)
  generalize ((w1.setCell ⟨w.heap.size + 1, 0, none⟩ (.int .i64 n)).setCell ⟨w.heap.size + 1, 1, none⟩ (.int .i64 z)).setCell ⟨w.heap.size + 1, 2, none⟩ (.int .i64 d) = w2 at *
  clear q0 q1 q2 f0 f1 f2 hz6 p0 p1 p2 g0 g1 g2 hz8
  obtain ⟨q0, q1, q2, f0, f1, f2, hz6⟩ := HD6.out.old
  obtain ⟨p0, p1, p2, g0, g1, g2, hz8⟩ := HD8.out.old
  go_wp2_with fail
  exact bodyPost_ret (v := errV 8) (res_cell Try.results33 rfl rfl (B3.set3 ((HD6.out.far (Nat.ne_of_lt (Nat.lt_succ_self _)) 1 _).far (Nat.ne_of_lt (Nat.lt_succ_self _)) 2 _) _ _ _)) rfl ⟨((((hD.setCell (p := ⟨w.heap.size + 1, 1, none⟩) (Nat.le_succ _) _).setCell (p := ⟨w.heap.size + 1, 2, none⟩) (Nat.le_succ _) _).setCell (Nat.le_refl _) _).setCell (Nat.le_refl _) _).setCell (Nat.le_refl _) _, rfl⟩
set_option maxHeartbeats 800000 in
theorem rterm_hash_big2 (L : List UInt8) (hL : L.length ≤ 1000000) (left : Int) (h0 : 0 ≤ left) (h1 : left ≤ 1000000) (k : Nat) (c : UInt8) (s : List UInt8) (hdr : L.drop k = c :: s) (hc : c.toNat = 35) (w : World) (n : Nat) (z d : Int) (z0 : 0 ≤ z) (z1 : z ≤ 1000000) (d0 : 0 ≤ d) (d1 : d ≤ 1000000) (hz : z + 1 ≤ 200) (hd : 40 < d + 1) (hC : CallB 33 #[.string ⟨L.toArray⟩, .int .i64 ((k : Int) + 1), .int .i64 (left - 1)] (okV n z d)) :
    Calls Try.prog 33 #[.string ⟨L.toArray⟩, .int .i64 k, .int .i64 left] w fun e_ w' => Below w.heap.size w w' ∧ e_ = .returned (errV 8) := by
  obtain ⟨hlt, he_, -⟩ := getD_drop hdr
  have hlt' : k < (⟨L.toArray⟩ : ByteArray).size := hlt
  have hcc : (⟨L.toArray⟩ : ByteArray)[k]'hlt' = c := by rw [ba_idx]; exact he_
  have t1 : ((((⟨L.toArray⟩ : ByteArray)[k]'hlt').toNat : Int) == 40) = false := by rw [hcc, hc]; decide
  have t2 : ((((⟨L.toArray⟩ : ByteArray)[k]'hlt').toNat : Int) == 91) = false := by rw [hcc, hc]; decide
  have t3 : ((((⟨L.toArray⟩ : ByteArray)[k]'hlt').toNat : Int) == 35) = true := by rw [hcc, hc]; decide
  clear hc
  have H := Lib.hid hC
  clear hdr he_ hcc hC
  go_enter Try.func33, Try.ntmps33
  go_wp2_with fail
  refine (H.out _).mono ?_
  rintro e1 w1 ⟨hb, rfl⟩
  simp only [errV, okV]
  have hB1 : Below w.heap.size w w1 := (((Below.refl w.heap.size w).alloc (Nat.le_refl _) _).alloc (by simp) _).trans (hb.mono (by simp; omega))
  have HC6 := Lib.hid (B3.below ((B3.new w (.int .i64 0) (.int .i64 0) (.int .i64 0)).alloc (.cells #[.int .i64 0, .int .i64 0, .int .i64 0] 66)) hb)
  have HC8 := Lib.hid (B3.below (B3.new (w.alloc (.cells #[.int .i64 0, .int .i64 0, .int .i64 0] 66)) (.int .i64 0) (.int .i64 0) (.int .i64 0)) hb)
  have hse : (w.alloc (.cells #[.int .i64 0, .int .i64 0, .int .i64 0] 66)).heap.size = w.heap.size + 1 := by simp
  rw [hse] at HC8
  obtain ⟨q0, q1, q2, f0, f1, f2, hz6⟩ := HC6.out.old
  obtain ⟨p0, p1, p2, g0, g1, g2, hz8⟩ := HC8.out.old
  clear hb hse
  go_upto_region 13 with (fail)
  have HD8 := Lib.hid (B3.set3 HC8.out (.int .i64 n) (.int .i64 z) (.int .i64 d))
  have HD6 := Lib.hid (((HC6.out.far (Nat.ne_of_lt (Nat.lt_succ_self _)) 0 (.int .i64 n)).far (Nat.ne_of_lt (Nat.lt_succ_self _)) 1 (.int .i64 z)).far (Nat.ne_of_lt (Nat.lt_succ_self _)) 2 (.int .i64 d))
  have hD := ((hB1.setCell (p := ⟨w.heap.size + 1, 0, none⟩) (Nat.le_succ _) (.int .i64 n)).setCell (p := ⟨w.heap.size + 1, 1, none⟩) (Nat.le_succ _) (.int .i64 z)).setCell (p := ⟨w.heap.size + 1, 2, none⟩) (Nat.le_succ _) (.int .i64 d)
  generalize ((w1.setCell ⟨w.heap.size + 1, 0, none⟩ (.int .i64 n)).setCell ⟨w.heap.size + 1, 1, none⟩ (.int .i64 z)).setCell ⟨w.heap.size + 1, 2, none⟩ (.int .i64 d) = w2 at *
  clear q0 q1 q2 f0 f1 f2 hz6 p0 p1 p2 g0 g1 g2 hz8
  obtain ⟨q0, q1, q2, f0, f1, f2, hz6⟩ := HD6.out.old
  obtain ⟨p0, p1, p2, g0, g1, g2, hz8⟩ := HD8.out.old
  go_wp2_with fail
  exact bodyPost_ret (v := errV 8) (res_cell Try.results33 rfl rfl (B3.set3 ((HD6.out.far (Nat.ne_of_lt (Nat.lt_succ_self _)) 1 _).far (Nat.ne_of_lt (Nat.lt_succ_self _)) 2 _) _ _ _)) rfl ⟨((((hD.setCell (p := ⟨w.heap.size + 1, 1, none⟩) (Nat.le_succ _) _).setCell (p := ⟨w.heap.size + 1, 2, none⟩) (Nat.le_succ _) _).setCell (Nat.le_refl _) _).setCell (Nat.le_refl _) _).setCell (Nat.le_refl _) _, rfl⟩
set_option maxHeartbeats 800000 in
theorem rterm_hash_ok (L : List UInt8) (hL : L.length ≤ 1000000) (left : Int) (h0 : 0 ≤ left) (h1 : left ≤ 1000000) (k : Nat) (c : UInt8) (s : List UInt8) (hdr : L.drop k = c :: s) (hc : c.toNat = 35) (w : World) (n : Nat) (z d : Int) (z0 : 0 ≤ z) (z1 : z ≤ 1000000) (d0 : 0 ≤ d) (d1 : d ≤ 1000000) (hz : z + 1 ≤ 200) (hd : d + 1 ≤ 40) (hC : CallB 33 #[.string ⟨L.toArray⟩, .int .i64 ((k : Int) + 1), .int .i64 (left - 1)] (okV n z d)) :
    Calls Try.prog 33 #[.string ⟨L.toArray⟩, .int .i64 k, .int .i64 left] w fun e_ w' => Below w.heap.size w w' ∧ e_ = .returned (okV n (z + 1) (d + 1)) := by
  obtain ⟨hlt, he_, -⟩ := getD_drop hdr
  have hlt' : k < (⟨L.toArray⟩ : ByteArray).size := hlt
  have hcc : (⟨L.toArray⟩ : ByteArray)[k]'hlt' = c := by rw [ba_idx]; exact he_
  have t1 : ((((⟨L.toArray⟩ : ByteArray)[k]'hlt').toNat : Int) == 40) = false := by rw [hcc, hc]; decide
  have t2 : ((((⟨L.toArray⟩ : ByteArray)[k]'hlt').toNat : Int) == 91) = false := by rw [hcc, hc]; decide
  have t3 : ((((⟨L.toArray⟩ : ByteArray)[k]'hlt').toNat : Int) == 35) = true := by rw [hcc, hc]; decide
  clear hc
  have H := Lib.hid hC
  clear hdr he_ hcc hC
  go_enter Try.func33, Try.ntmps33
  go_wp2_with fail
  refine (H.out _).mono ?_
  rintro e1 w1 ⟨hb, rfl⟩
  simp only [errV, okV]
  have hB1 : Below w.heap.size w w1 := (((Below.refl w.heap.size w).alloc (Nat.le_refl _) _).alloc (by simp) _).trans (hb.mono (by simp; omega))
  have HC6 := Lib.hid (B3.below ((B3.new w (.int .i64 0) (.int .i64 0) (.int .i64 0)).alloc (.cells #[.int .i64 0, .int .i64 0, .int .i64 0] 66)) hb)
  have HC8 := Lib.hid (B3.below (B3.new (w.alloc (.cells #[.int .i64 0, .int .i64 0, .int .i64 0] 66)) (.int .i64 0) (.int .i64 0) (.int .i64 0)) hb)
  have hse : (w.alloc (.cells #[.int .i64 0, .int .i64 0, .int .i64 0] 66)).heap.size = w.heap.size + 1 := by simp
  rw [hse] at HC8
  obtain ⟨q0, q1, q2, f0, f1, f2, hz6⟩ := HC6.out.old
  obtain ⟨p0, p1, p2, g0, g1, g2, hz8⟩ := HC8.out.old
  clear hb hse
  go_upto_region 13 with (fail)
  have HD8 := Lib.hid (B3.set3 HC8.out (.int .i64 n) (.int .i64 z) (.int .i64 d))
  have HD6 := Lib.hid (((HC6.out.far (Nat.ne_of_lt (Nat.lt_succ_self _)) 0 (.int .i64 n)).far (Nat.ne_of_lt (Nat.lt_succ_self _)) 1 (.int .i64 z)).far (Nat.ne_of_lt (Nat.lt_succ_self _)) 2 (.int .i64 d))
  have hD := ((hB1.setCell (p := ⟨w.heap.size + 1, 0, none⟩) (Nat.le_succ _) (.int .i64 n)).setCell (p := ⟨w.heap.size + 1, 1, none⟩) (Nat.le_succ _) (.int .i64 z)).setCell (p := ⟨w.heap.size + 1, 2, none⟩) (Nat.le_succ _) (.int .i64 d)
  generalize ((w1.setCell ⟨w.heap.size + 1, 0, none⟩ (.int .i64 n)).setCell ⟨w.heap.size + 1, 1, none⟩ (.int .i64 z)).setCell ⟨w.heap.size + 1, 2, none⟩ (.int .i64 d) = w2 at *
  clear q0 q1 q2 f0 f1 f2 hz6 p0 p1 p2 g0 g1 g2 hz8
  obtain ⟨q0, q1, q2, f0, f1, f2, hz6⟩ := HD6.out.old
  obtain ⟨p0, p1, p2, g0, g1, g2, hz8⟩ := HD8.out.old
  go_wp2_with fail
  exact bodyPost_ret (v := okV n (z + 1) (d + 1)) (res_cell Try.results33 rfl rfl (B3.set3 ((HD6.out.far (Nat.ne_of_lt (Nat.lt_succ_self _)) 1 _).far (Nat.ne_of_lt (Nat.lt_succ_self _)) 2 _) _ _ _)) rfl ⟨((((hD.setCell (p := ⟨w.heap.size + 1, 1, none⟩) (Nat.le_succ _) _).setCell (p := ⟨w.heap.size + 1, 2, none⟩) (Nat.le_succ _) _).setCell (Nat.le_refl _) _).setCell (Nat.le_refl _) _).setCell (Nat.le_refl _) _, rfl⟩
set_option maxHeartbeats 800000 in
theorem rterm_atom_err (L : List UInt8) (hL : L.length ≤ 1000000) (left : Int) (h0 : 0 ≤ left) (h1 : left ≤ 1000000) (k : Nat) (c : UInt8) (s : List UInt8) (hdr : L.drop k = c :: s) (n1 : ((c.toNat : Int) == 40) = false) (n2 : ((c.toNat : Int) == 91) = false) (n3 : ((c.toNat : Int) == 35) = false) (w : World) (e : Int) (he : (e != 0) = true) (he2 : (e == 0) = false) (hC : CallB 38 #[.string ⟨L.toArray⟩, .int .i64 k] (errV e)) :
    Calls Try.prog 33 #[.string ⟨L.toArray⟩, .int .i64 k, .int .i64 left] w fun e_ w' => Below w.heap.size w w' ∧ e_ = .returned (errV e) := by
  obtain ⟨hlt, he_, -⟩ := getD_drop hdr
  have hlt' : k < (⟨L.toArray⟩ : ByteArray).size := hlt
  have hcc : (⟨L.toArray⟩ : ByteArray)[k]'hlt' = c := by rw [ba_idx]; exact he_
  have t1 : ((((⟨L.toArray⟩ : ByteArray)[k]'hlt').toNat : Int) == 40) = false := by rw [hcc]; exact n1
  have t2 : ((((⟨L.toArray⟩ : ByteArray)[k]'hlt').toNat : Int) == 91) = false := by rw [hcc]; exact n2
  have t3 : ((((⟨L.toArray⟩ : ByteArray)[k]'hlt').toNat : Int) == 35) = false := by rw [hcc]; exact n3
  clear n1 n2 n3
  have H := Lib.hid hC
  clear hdr he_ hcc hC
  go_enter Try.func33, Try.ntmps33
  go_wp2_with fail
  refine (H.out _).mono ?_
  rintro e1 w1 ⟨hb, rfl⟩
  simp only [errV, okV]
  have hB1 : Below w.heap.size w w1 := (((Below.refl w.heap.size w).alloc (Nat.le_refl _) _).alloc (by simp) _).trans (hb.mono (by simp; omega))
  have HC6 := Lib.hid (B3.below ((B3.new w (.int .i64 0) (.int .i64 0) (.int .i64 0)).alloc (.cells #[.int .i64 0, .int .i64 0, .int .i64 0] 66)) hb)
  have HC8 := Lib.hid (B3.below (B3.new (w.alloc (.cells #[.int .i64 0, .int .i64 0, .int .i64 0] 66)) (.int .i64 0) (.int .i64 0) (.int .i64 0)) hb)
  have hse : (w.alloc (.cells #[.int .i64 0, .int .i64 0, .int .i64 0] 66)).heap.size = w.heap.size + 1 := by simp
  rw [hse] at HC8
  obtain ⟨q0, q1, q2, f0, f1, f2, hz6⟩ := HC6.out.old
  obtain ⟨p0, p1, p2, g0, g1, g2, hz8⟩ := HC8.out.old
  clear hb hse
  go_wp2_with fail
  exact bodyPost_ret (v := errV e) (res_cell Try.results33 rfl rfl (B3.set3 (((HC6.out.far (Nat.ne_of_lt (Nat.lt_succ_self _)) 0 _).far (Nat.ne_of_lt (Nat.lt_succ_self _)) 1 _).far (Nat.ne_of_lt (Nat.lt_succ_self _)) 2 _) _ _ _)) rfl ⟨(((((hB1.setCell (p := ⟨w.heap.size + 1, 0, none⟩) (Nat.le_succ _) _).setCell (p := ⟨w.heap.size + 1, 1, none⟩) (Nat.le_succ _) _).setCell (p := ⟨w.heap.size + 1, 2, none⟩) (Nat.le_succ _) _).setCell (Nat.le_refl _) _).setCell (Nat.le_refl _) _).setCell (Nat.le_refl _) _, rfl⟩
set_option maxHeartbeats 800000 in
theorem rterm_atom_ok (L : List UInt8) (hL : L.length ≤ 1000000) (left : Int) (h0 : 0 ≤ left) (h1 : left ≤ 1000000) (k : Nat) (c : UInt8) (s : List UInt8) (hdr : L.drop k = c :: s) (n1 : ((c.toNat : Int) == 40) = false) (n2 : ((c.toNat : Int) == 91) = false) (n3 : ((c.toNat : Int) == 35) = false) (w : World) (n : Nat) (z d : Int) (z0 : 0 ≤ z) (z1 : z ≤ 1000000) (d0 : 0 ≤ d) (d1 : d ≤ 1000000) (hz : z ≤ 200) (hd : d ≤ 40) (hC : CallB 38 #[.string ⟨L.toArray⟩, .int .i64 k] (okV n z d)) :
    Calls Try.prog 33 #[.string ⟨L.toArray⟩, .int .i64 k, .int .i64 left] w fun e_ w' => Below w.heap.size w w' ∧ e_ = .returned (okV n (z) (d)) := by
  obtain ⟨hlt, he_, -⟩ := getD_drop hdr
  have hlt' : k < (⟨L.toArray⟩ : ByteArray).size := hlt
  have hcc : (⟨L.toArray⟩ : ByteArray)[k]'hlt' = c := by rw [ba_idx]; exact he_
  have t1 : ((((⟨L.toArray⟩ : ByteArray)[k]'hlt').toNat : Int) == 40) = false := by rw [hcc]; exact n1
  have t2 : ((((⟨L.toArray⟩ : ByteArray)[k]'hlt').toNat : Int) == 91) = false := by rw [hcc]; exact n2
  have t3 : ((((⟨L.toArray⟩ : ByteArray)[k]'hlt').toNat : Int) == 35) = false := by rw [hcc]; exact n3
  clear n1 n2 n3
  have H := Lib.hid hC
  clear hdr he_ hcc hC
  go_enter Try.func33, Try.ntmps33
  go_wp2_with fail
  refine (H.out _).mono ?_
  rintro e1 w1 ⟨hb, rfl⟩
  simp only [errV, okV]
  have hB1 : Below w.heap.size w w1 := (((Below.refl w.heap.size w).alloc (Nat.le_refl _) _).alloc (by simp) _).trans (hb.mono (by simp; omega))
  have HC6 := Lib.hid (B3.below ((B3.new w (.int .i64 0) (.int .i64 0) (.int .i64 0)).alloc (.cells #[.int .i64 0, .int .i64 0, .int .i64 0] 66)) hb)
  have HC8 := Lib.hid (B3.below (B3.new (w.alloc (.cells #[.int .i64 0, .int .i64 0, .int .i64 0] 66)) (.int .i64 0) (.int .i64 0) (.int .i64 0)) hb)
  have hse : (w.alloc (.cells #[.int .i64 0, .int .i64 0, .int .i64 0] 66)).heap.size = w.heap.size + 1 := by simp
  rw [hse] at HC8
  obtain ⟨q0, q1, q2, f0, f1, f2, hz6⟩ := HC6.out.old
  obtain ⟨p0, p1, p2, g0, g1, g2, hz8⟩ := HC8.out.old
  clear hb hse
  go_wp2_with fail
  exact bodyPost_ret (v := okV n (z) (d)) (res_cell Try.results33 rfl rfl (B3.set3 (((HC6.out.far (Nat.ne_of_lt (Nat.lt_succ_self _)) 0 _).far (Nat.ne_of_lt (Nat.lt_succ_self _)) 1 _).far (Nat.ne_of_lt (Nat.lt_succ_self _)) 2 _) _ _ _)) rfl ⟨(((((hB1.setCell (p := ⟨w.heap.size + 1, 0, none⟩) (Nat.le_succ _) _).setCell (p := ⟨w.heap.size + 1, 1, none⟩) (Nat.le_succ _) _).setCell (p := ⟨w.heap.size + 1, 2, none⟩) (Nat.le_succ _) _).setCell (Nat.le_refl _) _).setCell (Nat.le_refl _) _).setCell (Nat.le_refl _) _, rfl⟩
theorem rterm_end1 (L : List UInt8) (k : Nat) (kk left : Int) (hkk : kk = k) (w : World) (hd : L.drop k = []) (h1 : L.length ≤ 1000000) (hk : k ≤ L.length) :
    Calls Try.prog 33 #[.string ⟨L.toArray⟩, .int .i64 kk, .int .i64 left] w fun e_ w' => Below w.heap.size w w' ∧ e_ = .returned (errV 4) := by
  subst hkk
  have hge : L.length ≤ k := by simpa using hd
  clear hd
  go_enter Try.func33, Try.ntmps33
  go_wp2_with fail
  exact bodyPost_ret (v := errV 4) (res_cell Try.results33 rfl rfl (B3.new w _ _ _)) rfl ⟨(Below.refl _ _).alloc (Nat.le_refl _) _, rfl⟩
theorem rterm_end2 (L : List UInt8) (k : Nat) (kk : Int) (hkk : kk = k) (w : World) (h1 : L.length ≤ 1000000) (hk : k < L.length) :
    Calls Try.prog 33 #[.string ⟨L.toArray⟩, .int .i64 kk, .int .i64 (-1)] w fun e_ w' => Below w.heap.size w w' ∧ e_ = .returned (errV 4) := by
  subst hkk
  go_enter Try.func33, Try.ntmps33
  go_wp2_with fail
  exact bodyPost_ret (v := errV 4) (res_cell Try.results33 rfl rfl (B3.new w _ _ _)) rfl ⟨(Below.refl _ _).alloc (Nat.le_refl _) _, rfl⟩
end Go.Proofs.Ytfbagojhnifajaa
