/- Plain laws of texts: what is parsed is the text of the term; the text of a right term is parsed. -/
import Derived.Test.YtfbagojhnifajaaR6
namespace Go.Proofs.Ytfbagojhnifajaa
open Go.RowKit
set_option maxRecDepth 100000
set_option linter.unusedVariables false
set_option linter.unusedSimpArgs false
def Valid : T → Prop
  | .atom s => atomOk s.data.toList = true
  | .pair a b => Valid a ∧ Valid b ∧ roomBad [a, b] = false
  | .hash a => Valid a ∧ roomBad [a] = false
  | .seal_ a b => Valid a ∧ Valid b ∧ roomBad [a, b] = false
theorem ba_app (a b : ByteArray) : (a ++ b).data.toList = a.data.toList ++ b.data.toList := by simp
theorem tl_pair (a b : T) : (T.pair a b).tl = 40 :: (a.tl ++ 32 :: (b.tl ++ [41])) := by
  simp only [T.tl, T.text, ba_app]
  simp
theorem tl_seal (a b : T) : (T.seal_ a b).tl = 91 :: (a.tl ++ 32 :: (b.tl ++ [93])) := by
  simp only [T.tl, T.text, ba_app]
  simp
theorem tl_hash (a : T) : (T.hash a).tl = 35 :: a.tl := by
  simp only [T.tl, T.text, ba_app]
  simp
theorem tl_atom (s : ByteArray) : (T.atom s).tl = s.data.toList := rfl
theorem text_tl (t : T) : t.text = ⟨t.tl.toArray⟩ := by simp [T.tl]
structure Fine (l : List UInt8) (t : T) (e : Int) (r : List UInt8) : Prop where
  valid : Valid t
  text : l = t.tl ++ r
  zero : e = 0
def FineX (p : List UInt8 → PR) : Prop := ∀ l t e r, p l = (some t, e, r) → Fine l t e r
theorem fine_two {p : List UInt8 → PR} (hp : FineX p) (en : UInt8) (mk : T → T → T) (l : List UInt8) (t : T) (e : Int) (r : List UInt8) (h : pTwo p en mk l = (some t, e, r)) :
    ∃ a b, t = mk a b ∧ Valid a ∧ Valid b ∧ roomBad [a, b] = false ∧ l = a.tl ++ 32 :: (b.tl ++ en :: r) ∧ e = 0 := by
  unfold pTwo at h
  rcases hx : p l with ⟨o, e1, r1⟩
  rw [hx] at h
  cases o with
  | none => simp at h
  | some a =>
    have f1 := hp _ _ _ _ hx
    dsimp only at h
    cases hm : mustR 32 r1 with
    | none => rw [hm] at h; simp at h
    | some r2 =>
      have m1 := mustR_len hm
      rw [hm] at h
      dsimp only at h
      rcases hx2 : p r2 with ⟨o2, e2, r3⟩
      rw [hx2] at h
      cases o2 with
      | none => simp at h
      | some b =>
        have f2 := hp _ _ _ _ hx2
        dsimp only at h
        cases h4 : mustR en r3 with
        | none => rw [h4] at h; simp at h
        | some r4 =>
          have m2 := mustR_len h4
          rw [h4] at h
          dsimp only [twoEnd] at h
          cases hb : roomBad [a, b] with
          | true => rw [hb] at h; simp at h
          | false =>
            rw [hb] at h
            simp only [Bool.false_eq_true, if_false, Prod.mk.injEq, Option.some.injEq] at h
            obtain ⟨rfl, rfl, rfl⟩ := h
            exact ⟨a, b, rfl, f1.valid, f2.valid, hb, by rw [f1.text, m1, f2.text, m2], rfl⟩
theorem fine_term (n : Nat) : FineX (pTerm n) := by
  induction n with
  | zero => intro l t e r h; simp [pTerm] at h
  | succ n ih =>
    intro l t e r h
    cases l with
    | nil => simp [pTerm] at h
    | cons c s =>
      rw [pTerm] at h
      by_cases h1 : c = 40
      · subst h1
        rw [if_pos rfl] at h
        obtain ⟨a, b, rfl, va, vb, hb, he, rfl⟩ := fine_two ih _ _ _ _ _ _ h
        exact ⟨⟨va, vb, hb⟩, by rw [tl_pair, he]; simp, rfl⟩
      rw [if_neg h1] at h
      by_cases h2 : c = 91
      · subst h2
        rw [if_pos rfl] at h
        obtain ⟨a, b, rfl, va, vb, hb, he, rfl⟩ := fine_two ih _ _ _ _ _ _ h
        exact ⟨⟨va, vb, hb⟩, by rw [tl_seal, he]; simp, rfl⟩
      rw [if_neg h2] at h
      by_cases h3 : c = 35
      · subst h3
        rw [if_pos rfl] at h
        rcases hx : pTerm n s with ⟨o, e1, r1⟩
        rw [hx] at h
        cases o with
        | none => simp at h
        | some a =>
          have f1 := ih _ _ _ _ hx
          dsimp only at h
          cases hb : roomBad [a] with
          | true => rw [hb] at h; simp at h
          | false =>
            rw [hb] at h
            simp only [Bool.false_eq_true, if_false, Prod.mk.injEq, Option.some.injEq] at h
            obtain ⟨rfl, rfl, rfl⟩ := h
            exact ⟨⟨f1.valid, hb⟩, by rw [tl_hash, f1.text]; rfl, rfl⟩
      rw [if_neg h3] at h
      dsimp only at h
      split at h
      · rename_i hA
        simp only [Prod.mk.injEq, Option.some.injEq] at h
        obtain ⟨rfl, rfl, rfl⟩ := h
        exact ⟨by simpa [Valid] using hA, by rw [tl_atom]; simp, rfl⟩
      · simp at h
/-- what may follow a term -/
def delim : List UInt8 → Bool
  | [] => true
  | c :: _ => !isLet (c.toNat : Int) && !isDig (c.toNat : Int)
theorem nm_app (f : Bool) (l r : List UInt8) (h : nm f l = l.length) (hd : delim r = true) : nm f (l ++ r) = l.length := by
  induction l generalizing f with
  | nil =>
    cases r with
    | nil => simp [nm]
    | cons c r =>
      simp only [delim, Bool.and_eq_true, Bool.not_eq_true'] at hd
      simp [nm, hd.1, hd.2]
  | cons c l ih =>
    by_cases hc : (isLet (c.toNat : Int) || (!f && isDig (c.toNat : Int))) = true
    · have e1 : nm f (c :: l) = 1 + nm false l := by simp only [nm, hc, if_true]
      have e2 : nm f (c :: l ++ r) = 1 + nm false (l ++ r) := by simp only [List.cons_append, nm, hc, if_true]
      rw [e1] at h
      rw [e2, ih false (by simp at h; omega)]
      simp; omega
    · have e1 : nm f (c :: l) = 0 := by simp only [nm, hc]; rfl
      rw [e1] at h
      simp at h
theorem atom_head {l : List UInt8} (h : atomOk l = true) : ∃ c s, l = c :: s ∧ isLet (c.toNat : Int) = true := by
  simp only [atomOk, Bool.and_eq_true, decide_eq_true_eq] at h
  obtain ⟨⟨h1, h2⟩, h3⟩ := h
  cases l with
  | nil => exact absurd rfl h1
  | cons c s =>
    refine ⟨c, s, rfl, ?_⟩
    cases hc : isLet (c.toNat : Int) with
    | true => rfl
    | false => rw [nm_nolet hc] at h3; simp at h3
theorem let_ne {c : UInt8} (h : isLet (c.toNat : Int) = true) : c ≠ 40 ∧ c ≠ 91 ∧ c ≠ 35 ∧ delim [c] = false := by
  refine ⟨?_, ?_, ?_, by simp [delim, h]⟩ <;> (rintro rfl; revert h; decide)
theorem parse_text : ∀ (t : T) (n : Nat) (r : List UInt8), Valid t → t.tl.length < n → delim r = true → pTerm n (t.tl ++ r) = (some t, 0, r) := by
  intro t
  induction t with
  | atom s =>
    intro n r hv hn hd
    obtain ⟨n, rfl⟩ : ∃ m, n = m + 1 := ⟨n - 1, by omega⟩
    rw [tl_atom] at *
    simp only [Valid] at hv
    obtain ⟨c, s', hs, hc⟩ := atom_head hv
    obtain ⟨n1, n2, n3, -⟩ := let_ne hc
    have hnm : nm true s.data.toList = s.data.toList.length := by
      simp only [atomOk, Bool.and_eq_true, decide_eq_true_eq] at hv
      exact hv.2
    have h1 := nm_app true _ r hnm hd
    rw [hs] at h1 ⊢
    rw [List.cons_append, pTerm, if_neg n1, if_neg n2, if_neg n3]
    rw [List.cons_append] at h1
    dsimp only
    rw [h1]
    have e1 : (c :: (s' ++ r)).take (c :: s').length = c :: s' := by rw [← List.cons_append]; exact List.take_left
    have e2 : (c :: (s' ++ r)).drop (c :: s').length = r := by rw [← List.cons_append]; exact List.drop_left
    rw [e1, e2, ← hs, hv]
    simp
  | pair a b iha ihb =>
    intro n r hv hn hd
    obtain ⟨n, rfl⟩ : ∃ m, n = m + 1 := ⟨n - 1, by omega⟩
    obtain ⟨va, vb, hb⟩ := hv
    rw [tl_pair] at hn ⊢
    simp only [List.length_cons, List.length_append] at hn
    rw [List.cons_append, pTerm, if_pos rfl]
    simp only [List.append_assoc, List.cons_append]
    unfold pTwo
    rw [iha n _ va (by omega) (by rfl)]
    dsimp only [mustR]
    rw [if_pos rfl]
    dsimp only
    rw [ihb n _ vb (by omega) (by rfl)]
    dsimp only [mustR, List.nil_append]
    rw [if_pos rfl]
    dsimp only [twoEnd]
    rw [hb]
    rfl
  | hash a iha =>
    intro n r hv hn hd
    obtain ⟨n, rfl⟩ : ∃ m, n = m + 1 := ⟨n - 1, by omega⟩
    obtain ⟨va, hb⟩ := hv
    rw [tl_hash] at hn ⊢
    simp only [List.length_cons] at hn
    rw [List.cons_append, pTerm, if_neg (by decide), if_neg (by decide), if_pos rfl]
    rw [iha n _ va (by omega) hd]
    dsimp only
    rw [hb]
    rfl
  | seal_ a b iha ihb =>
    intro n r hv hn hd
    obtain ⟨n, rfl⟩ : ∃ m, n = m + 1 := ⟨n - 1, by omega⟩
    obtain ⟨va, vb, hb⟩ := hv
    rw [tl_seal] at hn ⊢
    simp only [List.length_cons, List.length_append] at hn
    rw [List.cons_append, pTerm, if_neg (by decide), if_pos rfl]
    simp only [List.append_assoc, List.cons_append]
    unfold pTwo
    rw [iha n _ va (by omega) (by rfl)]
    dsimp only [mustR]
    rw [if_pos rfl]
    dsimp only
    rw [ihb n _ vb (by omega) (by rfl)]
    dsimp only [mustR, List.nil_append]
    rw [if_pos rfl]
    dsimp only [twoEnd]
    rw [hb]
    rfl
end Go.Proofs.Ytfbagojhnifajaa
