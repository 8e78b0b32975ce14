/- The reference's term, Parse, Kind: the contracts. -/
import Derived.Test.YtfbagojhnifajaaR4
namespace Go.Proofs.Ytfbagojhnifajaa
open Go.RowKit
set_option maxRecDepth 100000
set_option linter.unusedVariables false
set_option linter.unusedSimpArgs false
theorem mx0 {a : Int} (h : 0 ≤ a) : mx 0 a = a := by unfold mx; split <;> omega
theorem bad2 (a b : T) : roomBad [a, b] = decide (200 < 1 + a.size + b.size ∨ 40 < 1 + mx a.depth b.depth) := by
  have := a.depth_size; have := b.depth_size
  rw [Bool.eq_iff_iff]
  simp only [roomBad, Bool.or_eq_true, decide_eq_true_eq]
  simp [ssum]
  unfold mx
  split <;> omega
theorem bad1 (a : T) : roomBad [a] = decide (200 < a.size + 1 ∨ 40 < a.depth + 1) := by
  rw [Bool.eq_iff_iff]
  simp only [roomBad, Bool.or_eq_true, decide_eq_true_eq]
  simp [ssum]
  omega
def Rel (v r : Value) : Prop := (∃ e : Int, (e != 0) = true ∧ v = errV e ∧ r = errV e) ∨
  ∃ (n : Nat) (z d : Int), 0 ≤ z ∧ z ≤ 1000 ∧ 0 ≤ d ∧ d ≤ 1000 ∧ v = okV n z d ∧ r = if 200 < z ∨ 40 < d then errV 8 else okV n z d
theorem two_rel (L : List UInt8) (p : List UInt8 → PR) (hG : ∀ s, Good s (p s)) (en : UInt8) (mk : T → T → T) (h1 : ∀ a b, (mk a b).size = 1 + a.size + b.size) (h2 : ∀ a b, (mk a b).depth = mx (mx 0 a.depth) b.depth + 1) (s : List UInt8) :
    Rel (twoV L p en s) (RV L (pTwo p en mk s)) := by
  unfold twoV pTwo
  have g1 := hG s
  rcases hx : p s with ⟨o, e, r⟩
  rw [hx] at g1
  cases o with
  | none => exact .inl ⟨e, er_ne g1 rfl, rfl, rfl⟩
  | some a =>
    dsimp only
    cases hm : mustR 32 r with
    | none => exact .inl ⟨mustE r, mustE_ne r, rfl, rfl⟩
    | some r1 =>
      dsimp only
      have g2 := hG r1
      rcases hx2 : p r1 with ⟨o2, e2, r2⟩
      rw [hx2] at g2
      cases o2 with
      | none => exact .inl ⟨e2, er_ne g2 rfl, rfl, rfl⟩
      | some b =>
        dsimp only
        cases h4 : mustR en r2 with
        | none => exact .inl ⟨mustE r2, mustE_ne r2, rfl, rfl⟩
        | some r3 =>
          have a1 := g1.ok a rfl; have b1 := g2.ok b rfl
          have a2 := a.depth_size; have b2 := b.depth_size; have a3 := a.size_pos; have b3 := b.size_pos
          have hm := mx_bd (a := a.depth) (b := b.depth) (c := 200) (by omega) (by omega) (by omega)
          refine .inr ⟨_, _, _, by omega, by omega, by omega, by omega, rfl, ?_⟩
          unfold twoEnd
          rw [bad2]
          by_cases hb : 200 < 1 + a.size + b.size ∨ 40 < 1 + mx a.depth b.depth
          · rw [if_pos hb]; simp only [hb]; rfl
          · rw [if_neg hb]; simp only [hb]
            show okV _ _ _ = _
            rw [h1, h2, mx0 (by omega), Int.add_comm (mx a.depth b.depth) 1]
theorem size_pair (a b : T) : (T.pair a b).size = 1 + a.size + b.size := rfl
theorem size_seal (a b : T) : (T.seal_ a b).size = 1 + a.size + b.size := rfl
theorem depth_pair (a b : T) : (T.pair a b).depth = mx (mx 0 a.depth) b.depth + 1 := rfl
theorem depth_seal (a b : T) : (T.seal_ a b).depth = mx (mx 0 a.depth) b.depth + 1 := rfl
theorem e2_of {e : Int} (h : (e != 0) = true) : (e == 0) = false := by rw [bne_iff_ne] at h; rw [beq_eq_false_iff_ne]; exact h
theorem rterm_any (L : List UInt8) (hL : L.length ≤ 1000000) (n : Nat) (hn : n ≤ 1000000) : RTermC L ((n : Int) - 1) (pTerm n) := by
  induction n with
  | zero =>
    intro k kk w hkk hk
    by_cases hlt : k < L.length
    · exact rterm_end2 L k kk hkk w hL hlt
    · exact rterm_end1 L k kk _ hkk w (List.drop_of_length_le (by omega)) hL hk
  | succ n ih =>
    intro k kk w hkk hk
    have ih' := ih (by omega)
    have hG := good_term n
    have hS := suf_term n
    rw [show ((n + 1 : Nat) : Int) - 1 = (n : Int) from by omega]
    cases hd : L.drop k with
    | nil => exact rterm_end1 L k kk _ hkk w hd hL hk
    | cons c s =>
      obtain ⟨hlt, he, hs⟩ := getD_drop hd
      subst hkk
      have key : ∀ en ev, ev = (en.toNat : Int) → CallB 37 #[.string ⟨L.toArray⟩, .int .i64 k, .int .u8 ev, .int .i64 n] (twoV L (pTerm n) en s) := by
        intro en ev hev w'
        have h := rtwo_any L hL ((n : Int) - 1) (by omega) (by omega) (pTerm n) ih' hG hS en ev hev k hlt w'
        rw [show (n : Int) - 1 + 1 = n from by omega, hs] at h
        exact h
      rw [pTerm]
      by_cases h1 : c = 40
      · subst h1
        rw [if_pos rfl]
        have hc := key 41 41 rfl
        rcases two_rel L (pTerm n) hG 41 .pair size_pair depth_pair s with ⟨e, he, e1, e2⟩ | ⟨m, z, d, z0, z1, d0, d1, e1, e2⟩
        · rw [e1] at hc; unfold RPost; rw [e2]; exact rterm_pair_err L hL n (by omega) (by omega) k 40 s hd rfl w e he (e2_of he) hc
        · rw [e1] at hc; unfold RPost; rw [e2]
          by_cases hz : 200 < z
          · rw [if_pos (.inl hz)]; exact rterm_pair_big1 L hL n (by omega) (by omega) k 40 s hd rfl w m z d z0 (by omega) d0 (by omega) hz hc
          · by_cases hdd : 40 < d
            · rw [if_pos (.inr hdd)]; exact rterm_pair_big2 L hL n (by omega) (by omega) k 40 s hd rfl w m z d z0 (by omega) d0 (by omega) (by omega) hdd hc
            · rw [if_neg (by omega)]; exact rterm_pair_ok L hL n (by omega) (by omega) k 40 s hd rfl w m z d z0 (by omega) d0 (by omega) (by omega) (by omega) hc
      rw [if_neg h1]
      by_cases h2 : c = 91
      · subst h2
        rw [if_pos rfl]
        have hc := key 93 93 rfl
        rcases two_rel L (pTerm n) hG 93 .seal_ size_seal depth_seal s with ⟨e, he, e1, e2⟩ | ⟨m, z, d, z0, z1, d0, d1, e1, e2⟩
        · rw [e1] at hc; unfold RPost; rw [e2]; exact rterm_seal__err L hL n (by omega) (by omega) k 91 s hd rfl w e he (e2_of he) hc
        · rw [e1] at hc; unfold RPost; rw [e2]
          by_cases hz : 200 < z
          · rw [if_pos (.inl hz)]; exact rterm_seal__big1 L hL n (by omega) (by omega) k 91 s hd rfl w m z d z0 (by omega) d0 (by omega) hz hc
          · by_cases hdd : 40 < d
            · rw [if_pos (.inr hdd)]; exact rterm_seal__big2 L hL n (by omega) (by omega) k 91 s hd rfl w m z d z0 (by omega) d0 (by omega) (by omega) hdd hc
            · rw [if_neg (by omega)]; exact rterm_seal__ok L hL n (by omega) (by omega) k 91 s hd rfl w m z d z0 (by omega) d0 (by omega) (by omega) (by omega) hc
      rw [if_neg h2]
      by_cases h3 : c = 35
      · subst h3
        rw [if_pos rfl]
        have hc : CallB 33 #[.string ⟨L.toArray⟩, .int .i64 ((k : Int) + 1), .int .i64 ((n : Int) - 1)] (RV L (pTerm n s)) := by
          intro w'
          have h := ih' (k + 1) ((k : Int) + 1) w' (by omega) (by omega)
          rw [hs] at h
          exact h
        have g1 := hG s
        unfold RPost
        rcases hx : pTerm n s with ⟨o, e, r⟩
        rw [hx] at g1 hc
        cases o with
        | none => exact rterm_hash_err L hL n (by omega) (by omega) k 35 s hd rfl w e (er_ne g1 rfl) (e2_of (er_ne g1 rfl)) hc
        | some a =>
          have a1 := g1.ok a rfl
          have a2 := a.depth_size; have a3 := a.size_pos
          dsimp only
          rw [bad1]
          by_cases hz : 200 < a.size + 1
          · simp only [hz, true_or, decide_true, if_true]
            exact rterm_hash_big1 L hL n (by omega) (by omega) k 35 s hd rfl w _ a.size a.depth (by omega) (by omega) (by omega) (by omega) hz hc
          · by_cases hdd : 40 < a.depth + 1
            · simp only [hdd, or_true, decide_true, if_true]
              exact rterm_hash_big2 L hL n (by omega) (by omega) k 35 s hd rfl w _ a.size a.depth (by omega) (by omega) (by omega) (by omega) (by omega) hdd hc
            · simp only [hz, hdd, or_self, decide_false, Bool.false_eq_true, if_false]
              have h := rterm_hash_ok L hL n (by omega) (by omega) k 35 s hd rfl w _ a.size a.depth (by omega) (by omega) (by omega) (by omega) (by omega) (by omega) hc
              have e1 : (T.hash a).size = a.size + 1 := Int.add_comm 1 a.size
              have e2 : (T.hash a).depth = a.depth + 1 := by show mx 0 a.depth + 1 = _; rw [mx0 (by omega)]
              show Calls _ _ _ _ fun e_ w' => Below w.heap.size w w' ∧ e_ = .returned (okV (L.length - r.length) (T.hash a).size (T.hash a).depth)
              rw [e1, e2]
              exact h
      rw [if_neg h3]
      have hc : CallB 38 #[.string ⟨L.toArray⟩, .int .i64 k] (RV L (atomEnd (c :: s) (nm true (c :: s)))) := by
        intro w'
        have h := ratom_any L k c s hd w' hL
        rw [hd] at h
        exact h
      have n1 := u8_ne' (c := c) (n := 40) h1 (by omega)
      have n2 := u8_ne' (c := c) (n := 91) h2 (by omega)
      have n3 := u8_ne' (c := c) (n := 35) h3 (by omega)
      unfold RPost
      show Calls _ _ _ _ fun e_ w' => Below w.heap.size w w' ∧ e_ = .returned (RV L (atomEnd (c :: s) (nm true (c :: s))))
      by_cases hm : 1 ≤ nm true (c :: s) ∧ nm true (c :: s) ≤ 8
      · rw [RV_yes L (c :: s) _ rfl hm.1 hm.2] at hc ⊢
        exact rterm_atom_ok L hL n (by omega) (by omega) k c s hd n1 n2 n3 w _ 1 1 (by omega) (by omega) (by omega) (by omega) (by omega) (by omega) hc
      · rw [RV_no L (c :: s) hm] at hc ⊢
        exact rterm_atom_err L hL n (by omega) (by omega) k c s hd n1 n2 n3 w 3 (by decide) (by decide) hc
end Go.Proofs.Ytfbagojhnifajaa
