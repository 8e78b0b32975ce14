/- name and Atom. -/
import Derived.Test.YtfbagojhnifajaaT2
namespace Go.Proofs.Ytfbagojhnifajaa
open Go.RowKit
set_option maxRecDepth 100000
set_option linter.unusedVariables false
set_option linter.unusedSimpArgs false
def nm : Bool → List UInt8 → Nat
  | _, [] => 0
  | f, c :: l => if isLet (c.toNat : Int) || (!f && isDig (c.toNat : Int)) then 1 + nm false l else 0
theorem nm_le (f : Bool) (l : List UInt8) : nm f l ≤ l.length := by
  induction l generalizing f with
  | nil => simp [nm]
  | cons c l ih => simp only [nm]; split <;> simp <;> have := ih false <;> omega
def fst (k : Nat) : Bool := decide (k = 0)
set_option maxHeartbeats 400000 in
theorem name_any (l : List UInt8) (w : World) (hl : l.length ≤ 1000000) :
    Calls Try.prog 21 #[.string ⟨l.toArray⟩] w fun e w' => w = w' ∧ e = .returned (.int .i64 (nm true l)) := by
  go_enter Try.func21, Try.ntmps21
  go_wp2_with fail
  go_loop [3] (fun i => ∃ k : Nat, k ≤ l.length ∧ i = .int .i64 k ∧ nm true l = k + nm (fst k) (l.drop k)) (fun i => l.length - (intOf i).toNat)
  case atStart => exact ⟨0, Nat.zero_le _, rfl, by simp [fst]⟩
  case round =>
    obtain ⟨k, hk, rfl, hn⟩ := hrel
    by_cases hlt : k < l.length
    · have hb : k < (⟨l.toArray⟩ : ByteArray).size := hlt
      have hd : l.drop k = (⟨l.toArray⟩ : ByteArray)[k] :: l.drop (k + 1) := List.drop_eq_getElem_cons hlt
      by_cases hL : isLet (((⟨l.toArray⟩ : ByteArray)[k].toNat : Int)) = true
      · have HF : Hid (nm true l = (k + 1) + nm (fst (k + 1)) (l.drop (k + 1))) := Lib.hid (by rw [hn, hd]; simp [nm, hL, fst]; omega)
        clear hn hd
        go_wp2_with (go_at_call 31; refine (isLetter_any _ _).mono ?_; rintro e w' ⟨rfl, rfl⟩)
        go_round
        case rel => exact ⟨k + 1, by omega, by go_num, HF.out⟩
        case measure => simp [intOf]; omega
      · have hL' : isLet (((⟨l.toArray⟩ : ByteArray)[k].toNat : Int)) = false := by simpa using hL
        by_cases h0 : k = 0
        · subst h0
          have HF : Hid (nm true l = 0) := Lib.hid (by rw [hn, hd]; simp [nm, hL', fst])
          clear hn hd
          go_wp2_with (go_at_call 31; refine (isLetter_any _ _).mono ?_; rintro e w' ⟨rfl, rfl⟩)
          go_ret
          exact ⟨rfl, by rw [HF.out]; rfl⟩
        · have hk0 : 0 < k := by omega
          by_cases hD : isDig (((⟨l.toArray⟩ : ByteArray)[k].toNat : Int)) = true
          · have HF : Hid (nm true l = (k + 1) + nm (fst (k + 1)) (l.drop (k + 1))) := Lib.hid (by rw [hn, hd]; simp [nm, hL', hD, fst, h0]; omega)
            clear hn hd
            go_wp2_with (first | (go_at_call 31; refine (isLetter_any _ _).mono ?_; rintro e w' ⟨rfl, rfl⟩) | (go_at_call 32; refine (isDigit_any _ _).mono ?_; rintro e w' ⟨rfl, rfl⟩))
            go_round
            case rel => exact ⟨k + 1, by omega, by go_num, HF.out⟩
            case measure => simp [intOf]; omega
          · have hD' : isDig (((⟨l.toArray⟩ : ByteArray)[k].toNat : Int)) = false := by simpa using hD
            have HF : Hid (nm true l = k) := Lib.hid (by rw [hn, hd]; simp [nm, hL', hD', fst, h0])
            clear hn hd
            go_wp2_with (first | (go_at_call 31; refine (isLetter_any _ _).mono ?_; rintro e w' ⟨rfl, rfl⟩) | (go_at_call 32; refine (isDigit_any _ _).mono ?_; rintro e w' ⟨rfl, rfl⟩))
            go_ret
            exact ⟨rfl, by rw [HF.out]; rfl⟩
    · have hke : k = l.length := by omega
      have HF : Hid (nm true l = l.length) := Lib.hid (by rw [hn, hke]; simp [nm])
      clear hn
      go_wp2_with fail
      go_ret
      exact ⟨rfl, by rw [HF.out]; rfl⟩

def atomOk (l : List UInt8) : Bool := decide (l ≠ []) && decide (l.length ≤ 8) && decide (nm true l = l.length)
set_option maxHeartbeats 400000 in
theorem atom_yes (l : List UInt8) (w : World) (h : atomOk l = true) :
    Calls Try.prog 6 #[.string ⟨l.toArray⟩] w fun e w' => w = w' ∧ e = .returned (.tuple #[.iface 42 (.string ⟨l.toArray⟩), .int .i64 0]) := by
  simp only [atomOk, Bool.and_eq_true, decide_eq_true_eq] at h
  obtain ⟨⟨h1, h2⟩, h3⟩ := h
  have h1' : (l == []) = false := by simpa using h1
  have h1'' : l.isEmpty = false := by simpa using h1
  have HN := Lib.hid h3
  have c6 := name_any l w (by omega)
  rw [h3] at c6
  clear h3 h1
  go_enter Try.func6, Try.ntmps6
  go_wp2_with (go_at_call 21; refine c6.mono ?_; rintro e w' ⟨rfl, rfl⟩)
  go_ret2
  exact ⟨rfl, rfl⟩

set_option maxHeartbeats 400000 in
theorem atom_no (l : List UInt8) (w : World) (h : atomOk l = false) (hl : l.length ≤ 1000000) :
    Calls Try.prog 6 #[.string ⟨l.toArray⟩] w fun e w' => w = w' ∧ e = .returned (.tuple #[.nilIface, .int .i64 3]) := by
  by_cases h1 : l = []
  · subst h1
    clear h
    go_enter Try.func6, Try.ntmps6
    go_wp2_with fail
    go_ret2
    exact ⟨rfl, rfl⟩
  · have h1' : (l == []) = false := by simpa using h1
    have h1'' : l.isEmpty = false := by simpa using h1
    by_cases h2 : l.length ≤ 8
    · have h3 : nm true l ≠ l.length := by
        intro h3
        simp [atomOk, h1, h2, h3] at h
      have hle := nm_le true l
      have h3' : ((nm true l : Int) != (l.length : Int)) = true := by rw [bne_iff_ne]; omega
      have c6 := name_any l w (by omega)
      clear h h1 h3 hle
      go_enter Try.func6, Try.ntmps6
      go_wp2_with (go_at_call 21; refine c6.mono ?_; rintro e w' ⟨rfl, rfl⟩)
      all_goals first | omega | skip
      go_ret2
      exact ⟨rfl, rfl⟩
    · have h2' : 8 < l.length := by omega
      clear h h1
      go_enter Try.func6, Try.ntmps6
      go_wp2_with fail
      go_ret2
      exact ⟨rfl, rfl⟩
end Go.Proofs.Ytfbagojhnifajaa
