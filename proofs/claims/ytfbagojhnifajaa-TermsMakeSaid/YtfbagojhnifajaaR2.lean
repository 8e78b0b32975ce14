/- The reference's atom. -/
import Derived.Test.YtfbagojhnifajaaR1
namespace Go.Proofs.Ytfbagojhnifajaa
open Go.RowKit
set_option maxRecDepth 100000
set_option linter.unusedVariables false
set_option linter.unusedSimpArgs false
def RV (L : List UInt8) : PR → Value
  | (some t, _, r) => .tuple #[.agg #[.int .i64 ((L.length - r.length : Nat) : Int), .int .i64 t.size, .int .i64 t.depth], .int .i64 0]
  | (none, e, _) => .tuple #[.agg #[.int .i64 0, .int .i64 0, .int .i64 0], .int .i64 e]
theorem nm_take (f : Bool) (l : List UInt8) : nm f (l.take (nm f l)) = nm f l := by
  induction l generalizing f with
  | nil => simp [nm]
  | cons c l ih =>
    by_cases h : (isLet (c.toNat : Int) || (!f && isDig (c.toNat : Int))) = true
    · have e : nm f (c :: l) = 1 + nm false l := by simp only [nm, h, if_true]
      rw [e, Nat.add_comm, List.take_succ_cons]
      simp only [nm, h, if_true, ih]
      omega
    · have e : nm f (c :: l) = 0 := by simp only [nm, h]; rfl
      rw [e]; rfl
theorem atomOk_iff (l : List UInt8) : atomOk (l.take (nm true l)) = decide (1 ≤ nm true l ∧ nm true l ≤ 8) := by
  have h := nm_le true l
  have h2 : (l.take (nm true l)).length = nm true l := by rw [List.length_take]; omega
  simp only [atomOk, nm_take, h2]
  by_cases h0 : nm true l = 0
  · simp [h0]
  · have : l.take (nm true l) ≠ [] := by intro e; rw [e] at h2; simp at h2; omega
    simp [this]
    omega
theorem RV_no (L l : List UInt8) (h : ¬ (1 ≤ nm true l ∧ nm true l ≤ 8)) : RV L (atomEnd l (nm true l)) = .tuple #[.agg #[.int .i64 0, .int .i64 0, .int .i64 0], .int .i64 3] := by
  unfold atomEnd; rw [atomOk_iff]; simp only [h]; rfl
theorem RV_yes (L l : List UInt8) (k : Nat) (hk : nm true l = k) (h1 : 1 ≤ k) (h8 : k ≤ 8) : RV L (atomEnd l (nm true l)) = .tuple #[.agg #[.int .i64 ((L.length - (l.drop k).length : Nat) : Int), .int .i64 1, .int .i64 1], .int .i64 0] := by
  unfold atomEnd; rw [atomOk_iff, hk]; simp only [h1, h8]; rfl
theorem nm_let {c : UInt8} {s : List UInt8} (h : isLet (c.toNat : Int) = true) : nm true (c :: s) = 1 + nm false s := by simp [nm, h]
theorem nm_nolet {c : UInt8} {s : List UInt8} (h : isLet (c.toNat : Int) = false) : nm true (c :: s) = 0 := by simp [nm, h]
theorem nmf_let {c : UInt8} {s : List UInt8} (h : isLet (c.toNat : Int) = true) : nm false (c :: s) = 1 + nm false s := by simp [nm, h]
theorem nmf_dig {c : UInt8} {s : List UInt8} (h : isDig (c.toNat : Int) = true) : nm false (c :: s) = 1 + nm false s := by simp [nm, h]
theorem nmf_no {c : UInt8} {s : List UInt8} (h : isLet (c.toNat : Int) = false) (h2 : isDig (c.toNat : Int) = false) : nm false (c :: s) = 0 := by simp [nm, h, h2]
set_option maxHeartbeats 800000 in
theorem ratom_1 (L : List UInt8) (k : Nat) (c : UInt8) (s : List UInt8) (hd : L.drop k = c :: s) (w : World) (hl : L.length ≤ 1000000) (hc : isLet (c.toNat : Int) = false) :
    Calls Try.prog 38 #[.string ⟨L.toArray⟩, .int .i64 k] w fun e w' => Below w.heap.size w w' ∧ e = .returned (RV L (atomEnd (L.drop k) (nm true (L.drop k)))) := by
  obtain ⟨hlt, he, -⟩ := getD_drop hd
  have hlt' : k < (⟨L.toArray⟩ : ByteArray).size := hlt
  have hcc : isLet ((((⟨L.toArray⟩ : ByteArray)[k]'hlt').toNat : Int)) = false := by rw [ba_idx, he]; exact hc
  have hf := Lib.hid (RV_no L (L.drop k) (by rw [hd, nm_nolet hc]; omega))
  clear hd he hc
  go_enter Try.func38, Try.ntmps38
  go_wp2_with (go_at_call 22; refine (rletter_any _ _).mono ?_; rintro e w' ⟨rfl, rfl⟩)
  exact bodyPost_ret (v := .tuple #[.agg #[.int .i64 0, .int .i64 0, .int .i64 0], .int .i64 3]) (by simp [results, Try.results38, go_sem]) rfl ⟨(Below.refl _ _).alloc (Nat.le_refl _) _, by rw [hf.out]⟩
set_option maxHeartbeats 800000 in
theorem ratom_2 (L : List UInt8) (k : Nat) (c : UInt8) (s : List UInt8) (hd : L.drop k = c :: s) (w : World) (hl : L.length ≤ 1000000) (hc : isLet (c.toNat : Int) = true) :
    Calls Try.prog 38 #[.string ⟨L.toArray⟩, .int .i64 k] w fun e w' => Below w.heap.size w w' ∧ e = .returned (RV L (atomEnd (L.drop k) (nm true (L.drop k)))) := by
  obtain ⟨hlt, he, hds⟩ := getD_drop hd
  have hlt' : k < (⟨L.toArray⟩ : ByteArray).size := hlt
  have hcc : isLet ((((⟨L.toArray⟩ : ByteArray)[k]'hlt').toNat : Int)) = true := by rw [ba_idx, he]; exact hc
  have hm : nm true (L.drop k) = 1 + nm false (L.drop (k + 1)) := by rw [hd, nm_let hc, hds]
  have hY := Lib.hid (RV_yes L (L.drop k))
  have hN := Lib.hid (RV_no L (L.drop k))
  generalize nm true (L.drop k) = M at *
  clear hd he hc hds
  have HM := Lib.hid hm
  clear hm
  go_enter Try.func38, Try.ntmps38
  go_wp2_with (go_at_call 22; refine (rletter_any _ _).mono ?_; rintro e w' ⟨rfl, rfl⟩)
  go_loop [6] (fun i => ∃ n : Nat, 1 ≤ n ∧ n ≤ 8 ∧ k + n ≤ L.length ∧ i = .int .i64 n ∧ Hid (M = n + nm false (L.drop (k + n)))) (fun i => L.length - (intOf i).toNat)
  case atStart => exact ⟨1, Nat.le_refl _, by omega, by omega, rfl, HM.out⟩
  case round =>
    obtain ⟨n, h1, h8, hkn, rfl, hn⟩ := hrel
    by_cases hlt2 : k + n < L.length
    · have hlt3 : k + n < (⟨L.toArray⟩ : ByteArray).size := hlt2
      have hdd : L.drop (k + n) = L[k + n] :: L.drop (k + n + 1) := List.drop_eq_getElem_cons hlt2
      by_cases hL : isLet ((((⟨L.toArray⟩ : ByteArray)[k + n]'hlt3).toNat : Int)) = true
      · have hy : isLet (L[k + n].toNat : Int) = true := by rw [ba_idx] at hL; exact hL
        have HC : Hid (M = (n + 1) + nm false (L.drop (k + (n + 1)))) := by
          show M = _
          rw [hn, hdd, nmf_let hy, show k + (n + 1) = k + n + 1 from by omega]; omega
        clear hdd hn
        by_cases h9 : n = 8
        · subst h9
          have hf := Lib.hid (hN.out (by rw [HC.out]; omega))
          go_wp2_with (first | (go_at_call 22; refine (rletter_any _ _).mono ?_; rintro e w' ⟨rfl, rfl⟩) | (go_at_call 23; refine (rdigit_any _ _).mono ?_; rintro e w' ⟨rfl, rfl⟩))
          exact bodyPost_ret (v := .tuple #[.agg #[.int .i64 0, .int .i64 0, .int .i64 0], .int .i64 3]) (by simp [results, Try.results38, go_sem]) rfl ⟨(Below.refl _ _).alloc (Nat.le_refl _) _, by rw [hf.out]⟩
        · have h9' : n < 8 := by omega
          go_wp2_with (first | (go_at_call 22; refine (rletter_any _ _).mono ?_; rintro e w' ⟨rfl, rfl⟩) | (go_at_call 23; refine (rdigit_any _ _).mono ?_; rintro e w' ⟨rfl, rfl⟩))
          go_round
          case rel => exact ⟨n + 1, by omega, by omega, by omega, by go_num, HC.out⟩
          case measure => simp [intOf]; omega
      · have hL' : isLet ((((⟨L.toArray⟩ : ByteArray)[k + n]'hlt3).toNat : Int)) = false := by simpa using hL
        have hy : isLet (L[k + n].toNat : Int) = false := by rw [ba_idx] at hL'; exact hL'
        by_cases hD : isDig ((((⟨L.toArray⟩ : ByteArray)[k + n]'hlt3).toNat : Int)) = true
        · have hz : isDig (L[k + n].toNat : Int) = true := by rw [ba_idx] at hD; exact hD
          have HC : Hid (M = (n + 1) + nm false (L.drop (k + (n + 1)))) := by
            show M = _
            rw [hn, hdd, nmf_dig hz, show k + (n + 1) = k + n + 1 from by omega]; omega
          clear hdd hn
          by_cases h9 : n = 8
          · subst h9
            have hf := Lib.hid (hN.out (by rw [HC.out]; omega))
            go_wp2_with (first | (go_at_call 22; refine (rletter_any _ _).mono ?_; rintro e w' ⟨rfl, rfl⟩) | (go_at_call 23; refine (rdigit_any _ _).mono ?_; rintro e w' ⟨rfl, rfl⟩))
            exact bodyPost_ret (v := .tuple #[.agg #[.int .i64 0, .int .i64 0, .int .i64 0], .int .i64 3]) (by simp [results, Try.results38, go_sem]) rfl ⟨(Below.refl _ _).alloc (Nat.le_refl _) _, by rw [hf.out]⟩
          · have h9' : n < 8 := by omega
            go_wp2_with (first | (go_at_call 22; refine (rletter_any _ _).mono ?_; rintro e w' ⟨rfl, rfl⟩) | (go_at_call 23; refine (rdigit_any _ _).mono ?_; rintro e w' ⟨rfl, rfl⟩))
            go_round
            case rel => exact ⟨n + 1, by omega, by omega, by omega, by go_num, HC.out⟩
            case measure => simp [intOf]; omega
        · have hD' : isDig ((((⟨L.toArray⟩ : ByteArray)[k + n]'hlt3).toNat : Int)) = false := by simpa using hD
          have hz : isDig (L[k + n].toNat : Int) = false := by rw [ba_idx] at hD'; exact hD'
          have hM : M = n := by rw [hn, hdd, nmf_no hy hz]; rfl
          have hf := Lib.hid (hY.out n hM h1 h8)
          have hlen : L.length - (List.drop n (List.drop k L)).length = k + n := by simp; omega
          have HLen := Lib.hid hlen
          clear hdd hn hM hlen
          go_wp2_with (first | (go_at_call 22; refine (rletter_any _ _).mono ?_; rintro e w' ⟨rfl, rfl⟩) | (go_at_call 23; refine (rdigit_any _ _).mono ?_; rintro e w' ⟨rfl, rfl⟩))
          exact bodyPost_ret (v := .tuple #[.agg #[.int .i64 (k + n), .int .i64 1, .int .i64 1], .int .i64 0]) (by simp [results, Try.results38, go_sem]) rfl ⟨(Below.refl _ _).alloc (Nat.le_refl _) _, by rw [hf.out, HLen.out]; rfl⟩
    · have hd0 : L.drop (k + n) = [] := List.drop_of_length_le (by omega)
      have hM : M = n := by rw [hn, hd0]; rfl
      have hf := Lib.hid (hY.out n hM h1 h8)
      have hlen : L.length - (List.drop n (List.drop k L)).length = k + n := by simp; omega
      have HLen := Lib.hid hlen
      have hge : L.length ≤ k + n := by omega
      clear hd0 hn hM hlen
      go_wp2_with (first | (go_at_call 22; refine (rletter_any _ _).mono ?_; rintro e w' ⟨rfl, rfl⟩) | (go_at_call 23; refine (rdigit_any _ _).mono ?_; rintro e w' ⟨rfl, rfl⟩))
      exact bodyPost_ret (v := .tuple #[.agg #[.int .i64 (k + n), .int .i64 1, .int .i64 1], .int .i64 0]) (by simp [results, Try.results38, go_sem]) rfl ⟨(Below.refl _ _).alloc (Nat.le_refl _) _, by rw [hf.out, HLen.out]; rfl⟩
theorem ratom_any (L : List UInt8) (k : Nat) (c : UInt8) (s : List UInt8) (hd : L.drop k = c :: s) (w : World) (hl : L.length ≤ 1000000) :
    Calls Try.prog 38 #[.string ⟨L.toArray⟩, .int .i64 k] w fun e w' => Below w.heap.size w w' ∧ e = .returned (RV L (atomEnd (L.drop k) (nm true (L.drop k)))) := by
  cases h : isLet (c.toNat : Int)
  · exact ratom_1 L k c s hd w hl h
  · exact ratom_2 L k c s hd w hl h
end Go.Proofs.Ytfbagojhnifajaa
