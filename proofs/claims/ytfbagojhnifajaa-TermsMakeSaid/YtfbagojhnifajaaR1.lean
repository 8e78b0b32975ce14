/- The reference's small functions: letter, digit, must, atom. -/
import Derived.Test.YtfbagojhnifajaaTv
namespace Go.Proofs.Ytfbagojhnifajaa
open Go.RowKit
set_option maxRecDepth 100000
set_option linter.unusedVariables false
set_option linter.unusedSimpArgs false
set_option maxHeartbeats 400000 in
theorem rletter_any (c : Int) (w : World) :
    Calls Try.prog 22 #[.int .u8 c] w fun e w' => w = w' ∧ e = .returned (.bool (isLet c)) := by
  by_cases h1 : 97 ≤ c
  · go_enter Try.func22, Try.ntmps22
    go_wp2
    go_ret
    exact ⟨rfl, by simp [isLet, h1]⟩
  · have h1' : decide (97 ≤ c) = false := by simpa using h1
    go_enter Try.func22, Try.ntmps22
    go_wp2
    go_ret
    exact ⟨rfl, by simp [isLet]; omega⟩
set_option maxHeartbeats 400000 in
theorem rdigit_any (c : Int) (w : World) :
    Calls Try.prog 23 #[.int .u8 c] w fun e w' => w = w' ∧ e = .returned (.bool (isDig c)) := by
  by_cases h1 : 48 ≤ c
  · go_enter Try.func23, Try.ntmps23
    go_wp2
    go_ret
    exact ⟨rfl, by simp [isDig, h1]⟩
  · have h1' : decide (48 ≤ c) = false := by simpa using h1
    go_enter Try.func23, Try.ntmps23
    go_wp2
    go_ret
    exact ⟨rfl, by simp [isDig]; omega⟩
theorem getD_drop {L : List UInt8} {k : Nat} {c : UInt8} {s : List UInt8} (h : L.drop k = c :: s) : ∃ hk : k < L.length, L[k] = c ∧ L.drop (k + 1) = s := by
  have hk : k < L.length := by
    rcases Nat.lt_or_ge k L.length with h' | h'
    · exact h'
    · rw [List.drop_of_length_le h'] at h; cases h
  rw [List.drop_eq_getElem_cons hk] at h
  injection h with h1 h2
  exact ⟨hk, h1, h2⟩
theorem ba_idx (L : List UInt8) (k : Nat) (h : k < (⟨L.toArray⟩ : ByteArray).size) : (⟨L.toArray⟩ : ByteArray)[k]'h = L[k]'h := rfl
def rmust (c : UInt8) (s : List UInt8) : Int := match mustR c s with | some _ => 0 | none => mustE s
set_option maxHeartbeats 400000 in
theorem rmust_any (L : List UInt8) (k : Nat) (c : UInt8) (v : Int) (hv : v = c.toNat) (w : World) (hk : k ≤ L.length) (hl : L.length ≤ 1000000) :
    Calls Try.prog 51 #[.string ⟨L.toArray⟩, .int .i64 k, .int .u8 v] w fun e w' => w = w' ∧ e = .returned (.int .i64 (rmust c (L.drop k))) := by
  subst hv
  cases hd : L.drop k with
  | nil =>
    have hge : L.length ≤ k := by simpa using hd
    clear hd
    go_enter Try.func51, Try.ntmps51
    go_wp2_with fail
    go_ret
    exact ⟨rfl, rfl⟩
  | cons d s =>
    obtain ⟨hlt, he, -⟩ := getD_drop hd
    have hlt' : k < (⟨L.toArray⟩ : ByteArray).size := hlt
    have hi : ((⟨L.toArray⟩ : ByteArray)[k]'hlt') = d := he
    by_cases hc : d = c
    · subst hc
      have hf : Hid (rmust d (d :: s) = 0) := by simp [rmust, mustR, Hid]
      have hb : (((⟨L.toArray⟩ : ByteArray)[k].toNat : Int) != (d.toNat : Int)) = false := by rw [hi]; simp
      clear hd he hi
      go_enter Try.func51, Try.ntmps51
      go_wp2_with fail
      go_ret
      exact ⟨rfl, by rw [hf.out]; rfl⟩
    · have hf : Hid (rmust c (d :: s) = 3) := by simp [rmust, mustR, hc, mustE, Hid]
      have hb : (((⟨L.toArray⟩ : ByteArray)[k].toNat : Int) != (c.toNat : Int)) = true := by rw [hi]; exact u8_ne hc
      clear hd he hi
      go_enter Try.func51, Try.ntmps51
      go_wp2_with fail
      go_ret
      exact ⟨rfl, by rw [hf.out]; rfl⟩
end Go.Proofs.Ytfbagojhnifajaa
