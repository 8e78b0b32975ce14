/- The reader: must. -/
import Derived.Test.YtfbagojhnifajaaT6
namespace Go.Proofs.Ytfbagojhnifajaa
open Go.RowKit
set_option maxRecDepth 100000
set_option linter.unusedVariables false
set_option linter.unusedSimpArgs false
theorem ba_zero (d : UInt8) (s : List UInt8) (h : 0 < (⟨(d :: s).toArray⟩ : ByteArray).size) : ((⟨(d :: s).toArray⟩ : ByteArray)[0]'h) = d := rfl
attribute [go_sem] ba_zero
theorem ba_ext (l : List UInt8) (a b : Nat) : (⟨l.toArray⟩ : ByteArray).extract a b = ⟨((l.drop a).take (b - a)).toArray⟩ := by
  apply ByteArray.ext
  rw [ByteArray.data_extract]
  simp [List.extract_eq_take_drop]
def Rdr (w : World) (g : Nat) (s : List UInt8) : Prop := w.heap[g]? = some (.cells #[.string ⟨s.toArray⟩] 49 (0, 0))
theorem Rdr.cell {w : World} {g : Nat} {s : List UInt8} (h : Rdr w g s) : w.cell? ⟨g, 0, none⟩ = some (.string ⟨s.toArray⟩) := by unfold Rdr at h; simp [World.cell?, h]
theorem Rdr.free {w : World} {g : Nat} {s : List UInt8} (h : Rdr w g s) : w.frozen? ⟨g, 0, none⟩ = false := by unfold Rdr at h; simp [World.frozen?, h]
theorem Rdr.set {w : World} {g : Nat} {s : List UInt8} (h : Rdr w g s) (r : List UInt8) : Rdr (w.setCell ⟨g, 0, none⟩ (.string ⟨r.toArray⟩)) g r := by
  unfold Rdr at *
  simp [World.setCell, Array.getElem?_modify, h]
set_option maxHeartbeats 400000 in
theorem must_end (w : World) (g : Nat) (c : UInt8) (h : Rdr w g []) :
    Calls Try.prog 39 #[.pointer (some ⟨g, 0, none⟩), .int .u8 c.toNat] w fun e w' => w = w' ∧ e = .returned (.int .i64 4) := by
  have hc := h.cell
  clear h
  go_enter Try.func39, Try.ntmps39
  go_wp2_with fail
  go_ret
  exact ⟨rfl, rfl⟩
theorem u8_ne {c d : UInt8} (h : d ≠ c) : ((d.toNat : Int) != (c.toNat : Int)) = true := by
  rw [bne_iff_ne]
  intro e
  exact h (UInt8.toNat_inj.1 (by omega))
set_option maxHeartbeats 400000 in
theorem must_no (w : World) (g : Nat) (c d : UInt8) (s : List UInt8) (h : Rdr w g (d :: s)) (hne : d ≠ c) :
    Calls Try.prog 39 #[.pointer (some ⟨g, 0, none⟩), .int .u8 c.toNat] w fun e w' => w = w' ∧ e = .returned (.int .i64 3) := by
  have hc := h.cell
  have hd := u8_ne hne
  clear h hne
  go_enter Try.func39, Try.ntmps39
  go_wp2_with fail
  go_ret
  exact ⟨rfl, rfl⟩
set_option maxHeartbeats 400000 in
theorem must_yes (w : World) (g : Nat) (c : UInt8) (s : List UInt8) (h : Rdr w g (c :: s)) (hl : s.length ≤ 1000000) :
    Calls Try.prog 39 #[.pointer (some ⟨g, 0, none⟩), .int .u8 c.toNat] w fun e w' => w' = w.setCell ⟨g, 0, none⟩ (.string ⟨s.toArray⟩) ∧ e = .returned (.int .i64 0) := by
  have hc := h.cell
  have hf := h.free
  clear h
  go_enter Try.func39, Try.ntmps39
  go_wp2_with fail
  go_ret
  exact ⟨by rw [ba_ext]; simp, rfl⟩

abbrev PR := Option T × Int × List UInt8
def mustR (c : UInt8) : List UInt8 → Option (List UInt8)
  | [] => none
  | d :: s => if d = c then some s else none
def mustE : List UInt8 → Int
  | [] => 4
  | _ :: _ => 3
def twoEnd (mk : T → T → T) (a b : T) (r : List UInt8) : PR := if roomBad [a, b] then (none, 8, r) else (some (mk a b), 0, r)
def pTwo (p : List UInt8 → PR) (en : UInt8) (mk : T → T → T) (s : List UInt8) : PR :=
  match p s with
  | (none, e, r) => (none, e, r)
  | (some a, _, r) =>
    match mustR 32 r with
    | none => (none, mustE r, r)
    | some r1 =>
      match p r1 with
      | (none, e, r2) => (none, e, r2)
      | (some b, _, r2) =>
        match mustR en r2 with
        | none => (none, mustE r2, r2)
        | some r3 => twoEnd mk a b r3
def pTerm : Nat → List UInt8 → PR
  | 0, s => (none, 4, s)
  | _ + 1, [] => (none, 4, [])
  | n + 1, c :: s =>
    if c = 40 then pTwo (pTerm n) 41 .pair s
    else if c = 91 then pTwo (pTerm n) 93 .seal_ s
    else if c = 35 then
      match pTerm n s with
      | (none, e, r) => (none, e, r)
      | (some a, _, r) => if roomBad [a] then (none, 8, r) else (some (.hash a), 0, r)
    else
      let k := nm true (c :: s)
      if atomOk ((c :: s).take k) then (some (.atom ⟨((c :: s).take k).toArray⟩), 0, (c :: s).drop k) else (none, 3, (c :: s).drop k)
/-- what a parse is good for -/
structure Good (s : List UInt8) (x : PR) : Prop where
  len : x.2.2.length ≤ s.length
  ok : ∀ t, x.1 = some t → t.size ≤ 200
  er : x.1 = none → x.2.1 = 3 ∨ x.2.1 = 4 ∨ x.2.1 = 8
theorem mustR_len {c : UInt8} {s r : List UInt8} (h : mustR c s = some r) : s = c :: r := by
  cases s with
  | nil => simp [mustR] at h
  | cons d s => simp only [mustR] at h; split at h <;> simp_all
theorem mustE_or (s : List UInt8) : mustE s = 3 ∨ mustE s = 4 := by cases s <;> simp [mustE]
theorem good_two {p : List UInt8 → PR} (hp : ∀ s, Good s (p s)) (en : UInt8) (mk : T → T → T) (hm : ∀ a b, roomBad [a, b] = false → (mk a b).size ≤ 200) (s : List UInt8) : Good s (pTwo p en mk s) := by
  unfold pTwo
  have h1 := hp s
  rcases hq : p s with ⟨o, e, r⟩
  rw [hq] at h1
  cases o with
  | none => exact ⟨h1.len, by simp, fun _ => h1.er rfl⟩
  | some a =>
    dsimp only
    have hlen := h1.len
    dsimp only at hlen
    cases hm1 : mustR 32 r with
    | none => exact ⟨h1.len, by simp, fun _ => by rcases mustE_or r with h | h <;> simp [h]⟩
    | some r1 =>
      have := mustR_len hm1
      subst this
      dsimp only
      have h2 := hp r1
      rcases hq2 : p r1 with ⟨o2, e2, r2⟩
      rw [hq2] at h2
      have hlen2 := h2.len
      dsimp only at hlen2
      simp only [List.length_cons] at hlen
      cases o2 with
      | none => exact ⟨by dsimp only; omega, by simp, fun _ => h2.er rfl⟩
      | some b =>
        dsimp only
        cases hm2 : mustR en r2 with
        | none => exact ⟨by dsimp only; omega, by simp, fun _ => by rcases mustE_or r2 with h | h <;> simp [h]⟩
        | some r3 =>
          have := mustR_len hm2
          subst this
          simp only [List.length_cons] at hlen2
          dsimp only [twoEnd]
          split
          · exact ⟨by dsimp only; omega, by simp, fun _ => by simp⟩
          · rename_i hb
            exact ⟨by dsimp only; omega, by intro t ht; simp only [Option.some.injEq] at ht; subst ht; exact hm a b (by simpa using hb), by simp⟩
theorem roomBad_size2 (a b : T) (h : roomBad [a, b] = false) : 1 + a.size + b.size ≤ 200 := by
  simp only [roomBad, Bool.or_eq_false_iff, decide_eq_false_iff_not] at h
  have h1 := h.1
  simp only [ssum, List.foldl_cons, List.foldl_nil] at h1
  omega
theorem roomBad_size1 (a : T) (h : roomBad [a] = false) : 1 + a.size ≤ 200 := by
  simp only [roomBad, Bool.or_eq_false_iff, decide_eq_false_iff_not] at h
  have h1 := h.1
  simp only [ssum, List.foldl_cons, List.foldl_nil] at h1
  omega
theorem good_term (n : Nat) : ∀ s, Good s (pTerm n s) := by
  induction n with
  | zero => intro s; exact ⟨by simp [pTerm], by simp [pTerm], by simp [pTerm]⟩
  | succ n ih =>
    intro s
    cases s with
    | nil => exact ⟨by simp [pTerm], by simp [pTerm], by simp [pTerm]⟩
    | cons c s =>
      simp only [pTerm]
      split
      · have := good_two ih 41 .pair (fun a b h => roomBad_size2 a b h) s
        exact ⟨by have := this.len; simp; omega, this.ok, this.er⟩
      split
      · have := good_two ih 93 .seal_ (fun a b h => roomBad_size2 a b h) s
        exact ⟨by have := this.len; simp; omega, this.ok, this.er⟩
      split
      · have h1 := ih s
        rcases hq : pTerm n s with ⟨o, e, r⟩
        rw [hq] at h1
        have hlen := h1.len
        dsimp only at hlen
        cases o with
        | none => exact ⟨by simp; omega, by simp, fun _ => h1.er rfl⟩
        | some a =>
          dsimp only
          split
          · exact ⟨by simp; omega, by simp, by simp⟩
          · rename_i hb
            exact ⟨by simp; omega, by intro t ht; simp only [Option.some.injEq] at ht; subst ht; exact roomBad_size1 a (by simpa using hb), by simp⟩
      · split
        · exact ⟨by simp, by intro t ht; simp only [Option.some.injEq] at ht; subst ht; simp [T.size], by simp⟩
        · exact ⟨by simp, by simp, by simp⟩
end Go.Proofs.Ytfbagojhnifajaa
