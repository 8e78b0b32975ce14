/- The reference's Atom. -/
import Derived.Test.YtfbagojhnifajaaR8
namespace Go.Proofs.Ytfbagojhnifajaa
open Go.RowKit
set_option maxRecDepth 100000
set_option linter.unusedVariables false
set_option linter.unusedSimpArgs false
theorem atomOk_lt (l : List UInt8) (h : nm true l < l.length) : atomOk l = false := by
  simp only [atomOk]
  have : decide (nm true l = l.length) = false := by simp; omega
  rw [this, Bool.and_false]
theorem atomOk_eq (l : List UInt8) (h : nm true l = l.length) : atomOk l = (decide (1 ≤ (l.length : Int)) && decide ((l.length : Int) ≤ 8)) := by
  simp only [atomOk, h]
  cases l with
  | nil => simp
  | cons c s => rw [Bool.eq_iff_iff]; simp only [Bool.and_eq_true, decide_eq_true_eq, ne_eq, reduceCtorEq, not_false_eq_true, true_and, and_true, List.length_cons]; omega
set_option maxHeartbeats 800000 in
theorem rAtom_any (l : List UInt8) (w : World) (hl : l.length ≤ 1000000) :
    Calls Try.prog 7 #[.string ⟨l.toArray⟩] w fun e w' => w = w' ∧ e = .returned (.bool (atomOk l)) := by
  have HA := Lib.hid (atomOk_lt l)
  have HE := Lib.hid (atomOk_eq l)
  go_enter Try.func7, Try.ntmps7
  go_wp2_with fail
  go_loop [3] (fun i => ∃ k : Nat, k ≤ l.length ∧ i = .int .i64 k ∧ nm true l = k + nm (fst k) (l.drop k)) (fun i => l.length - (intOf i).toNat)
  case atStart => exact ⟨0, Nat.zero_le _, rfl, by simp [fst]⟩
  case round =>
    obtain ⟨k, hk, rfl, hn⟩ := hrel
    by_cases hlt : k < l.length
    · have hb : k < (⟨l.toArray⟩ : ByteArray).size := hlt
      have hd : l.drop k = l[k] :: l.drop (k + 1) := List.drop_eq_getElem_cons hlt
      by_cases hL : isLet (((⟨l.toArray⟩ : ByteArray)[k].toNat : Int)) = true
      · have hy : isLet (l[k].toNat : Int) = true := by rw [ba_idx] at hL; exact hL
        have HF : Hid (nm true l = (k + 1) + nm (fst (k + 1)) (l.drop (k + 1))) := Lib.hid (by rw [hn, hd]; simp [nm, hy, fst]; omega)
        clear hn hd hy
        go_wp2_with (go_at_call 22; refine (rletter_any _ _).mono ?_; rintro e w' ⟨rfl, rfl⟩)
        go_round
        case rel => exact ⟨k + 1, by omega, by go_num, HF.out⟩
        case measure => simp [intOf]; omega
      · have hL' : isLet (((⟨l.toArray⟩ : ByteArray)[k].toNat : Int)) = false := by simpa using hL
        have hy : isLet (l[k].toNat : Int) = false := by rw [ba_idx] at hL'; exact hL'
        by_cases h0 : k = 0
        · subst h0
          have HF := Lib.hid (HA.out (by rw [hn, hd]; simp [nm, hy, fst]; exact hlt))
          clear hn hd hy
          go_wp2_with (go_at_call 22; refine (rletter_any _ _).mono ?_; rintro e w' ⟨rfl, rfl⟩)
          go_ret
          exact ⟨rfl, by rw [HF.out]; rfl⟩
        · have hk0 : 0 < k := by omega
          by_cases hD : isDig (((⟨l.toArray⟩ : ByteArray)[k].toNat : Int)) = true
          · have hz : isDig (l[k].toNat : Int) = true := by rw [ba_idx] at hD; exact hD
            have HF : Hid (nm true l = (k + 1) + nm (fst (k + 1)) (l.drop (k + 1))) := Lib.hid (by rw [hn, hd]; simp [nm, hy, hz, fst, h0]; omega)
            clear hn hd hy hz
            go_wp2_with (first | (go_at_call 22; refine (rletter_any _ _).mono ?_; rintro e w' ⟨rfl, rfl⟩) | (go_at_call 23; refine (rdigit_any _ _).mono ?_; rintro e w' ⟨rfl, rfl⟩))
            go_round
            case rel => exact ⟨k + 1, by omega, by go_num, HF.out⟩
            case measure => simp [intOf]; omega
          · have hD' : isDig (((⟨l.toArray⟩ : ByteArray)[k].toNat : Int)) = false := by simpa using hD
            have hz : isDig (l[k].toNat : Int) = false := by rw [ba_idx] at hD'; exact hD'
            have HF := Lib.hid (HA.out (by rw [hn, hd]; simp [nm, hy, hz, fst, h0]; exact hlt))
            clear hn hd hy hz
            go_wp2_with (first | (go_at_call 22; refine (rletter_any _ _).mono ?_; rintro e w' ⟨rfl, rfl⟩) | (go_at_call 23; refine (rdigit_any _ _).mono ?_; rintro e w' ⟨rfl, rfl⟩))
            go_ret
            exact ⟨rfl, by rw [HF.out]; rfl⟩
    · have hke : k = l.length := by omega
      have HF := Lib.hid (HE.out (by rw [hn, hke]; simp [nm]))
      clear hn hke
      by_cases h1 : 1 ≤ (l.length : Int)
      · go_wp2_with fail
        go_ret
        exact ⟨rfl, by rw [HF.out]; simp [h1]⟩
      · have h1' : decide (1 ≤ (l.length : Int)) = false := by simpa using h1
        go_wp2_with fail
        go_ret
        exact ⟨rfl, by rw [HF.out, h1']; rfl⟩
end Go.Proofs.Ytfbagojhnifajaa
