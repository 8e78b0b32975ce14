/- The reference's Kind and Parts. -/
import Derived.Test.YtfbagojhnifajaaR7
namespace Go.Proofs.Ytfbagojhnifajaa
open Go.RowKit
set_option maxRecDepth 100000
set_option linter.unusedVariables false
set_option linter.unusedSimpArgs false
set_option maxHeartbeats 400000 in
theorem rkind_2 (s : List UInt8) (w : World) (hs : s.length ≤ 1000000) : Calls Try.prog 25 #[.string ⟨(40 :: s).toArray⟩] w fun e w' => w = w' ∧ e = .returned (.int .i64 2) := by
  go_enter Try.func25, Try.ntmps25
  go_wp2_with fail
  go_ret
  exact ⟨rfl, rfl⟩
set_option maxHeartbeats 400000 in
theorem rkind_3 (s : List UInt8) (w : World) (hs : s.length ≤ 1000000) : Calls Try.prog 25 #[.string ⟨(35 :: s).toArray⟩] w fun e w' => w = w' ∧ e = .returned (.int .i64 3) := by
  go_enter Try.func25, Try.ntmps25
  go_wp2_with fail
  go_ret
  exact ⟨rfl, rfl⟩
set_option maxHeartbeats 400000 in
theorem rkind_4 (s : List UInt8) (w : World) (hs : s.length ≤ 1000000) : Calls Try.prog 25 #[.string ⟨(91 :: s).toArray⟩] w fun e w' => w = w' ∧ e = .returned (.int .i64 4) := by
  go_enter Try.func25, Try.ntmps25
  go_wp2_with fail
  go_ret
  exact ⟨rfl, rfl⟩
set_option maxHeartbeats 400000 in
theorem rkind_1 (c : UInt8) (s : List UInt8) (w : World) (hs : s.length ≤ 1000000) (n1 : ((c.toNat : Int) == 40) = false) (n2 : ((c.toNat : Int) == 91) = false) (n3 : ((c.toNat : Int) == 35) = false) :
    Calls Try.prog 25 #[.string ⟨(c :: s).toArray⟩] w fun e w' => w = w' ∧ e = .returned (.int .i64 1) := by
  go_enter Try.func25, Try.ntmps25
  go_wp2_with fail
  go_ret
  exact ⟨rfl, rfl⟩
theorem rkind_any (t : T) (hv : Valid t) (hl : t.tl.length ≤ 1000000) (w : World) : Calls Try.prog 25 #[.string t.text] w fun e w' => w = w' ∧ e = .returned (.int .i64 t.kind) := by
  rw [text_tl]
  cases t with
  | atom s =>
    obtain ⟨c, s', hs, hc⟩ := atom_head hv
    obtain ⟨n1, n2, n3, -⟩ := let_ne hc
    rw [tl_atom, hs] at hl ⊢
    exact rkind_1 c s' w (by simp only [List.length_cons] at hl; omega) (u8_ne' (n := 40) n1 (by omega)) (u8_ne' (n := 91) n2 (by omega)) (u8_ne' (n := 35) n3 (by omega))
  | pair a b => rw [tl_pair] at *; exact rkind_2 _ w (by simp only [List.length_cons] at hl; omega)
  | hash a => rw [tl_hash] at *; exact rkind_3 _ w (by simp only [List.length_cons] at hl; omega)
  | seal_ a b => rw [tl_seal] at *; exact rkind_4 _ w (by simp only [List.length_cons] at hl; omega)
def SlS (w' : World) (ss : List ByteArray) (v : Value) : Prop := ∃ A, v = .slice A ss.length ss.length ∧ ∀ (k : Nat) s, ss[k]? = some s → ∃ g, A = some ⟨g, 0, none⟩ ∧ w'.cell? ⟨g, k, none⟩ = some (.string s) ∧ g < w'.heap.size
def RParts (w : World) (ss : List ByteArray) (e : Ending) (w' : World) : Prop := Below w.heap.size w w' ∧ ∃ v, e = .returned v ∧ SlS w' ss v
set_option maxHeartbeats 400000 in
theorem rparts_atom (s : ByteArray) (hv : Valid (.atom s)) (hl : s.data.toList.length ≤ 1000000) (w : World) : Calls Try.prog 26 #[.string (T.atom s).text] w (RParts w []) := by
  have H := Lib.hid (rkind_any (.atom s) hv hl w)
  clear hv
  go_enter Try.func26, Try.ntmps26
  go_wp2_with fail
  refine (H.out).mono ?_
  rintro e1 w1 ⟨rfl, rfl⟩
  simp only [T.kind]
  go_wp2_with fail
  go_ret
  exact ⟨Below.refl _ _, _, rfl, none, rfl, fun k s h => by simp at h⟩
set_option maxHeartbeats 400000 in
theorem rparts_hash (a : T) (hv : Valid (.hash a)) (hl : a.tl.length ≤ 999999) (w : World) : Calls Try.prog 26 #[.string (T.hash a).text] w (RParts w [a.text]) := by
  have H := Lib.hid (rkind_any (.hash a) hv (by rw [tl_hash]; simp; omega) w)
  have ht : (T.hash a).text = ⟨(35 :: a.tl).toArray⟩ := by rw [text_tl, tl_hash]
  have he := Lib.hid (text_tl a)
  rw [ht] at H ⊢
  clear hv ht
  go_enter Try.func26, Try.ntmps26
  go_wp2_with fail
  refine (H.out).mono ?_
  rintro e1 w1 ⟨rfl, rfl⟩
  simp only [T.kind]
  go_wp2_with fail
  go_ret
  refine ⟨(Below.refl _ _).alloc (Nat.le_refl _) _, _, rfl, _, rfl, fun k s h => ?_⟩
  have hk : k = 0 := by
    rcases k with _ | k
    · rfl
    · simp at h
  subst hk
  simp only [List.getElem?_cons_zero, Option.some.injEq] at h
  subst h
  exact ⟨_, rfl, by rw [he.out]; simp, by simp⟩
theorem cell_blk {w : World} {g : Nat} {cs : Array Value} {t : TypeId} (h : w.heap[g]? = some (Obj.cells cs t (0, 0))) (k : Nat) : w.drew.cell? ⟨g, k, none⟩ = cs[k]? := by
  show w.cell? ⟨g, k, none⟩ = cs[k]?
  simp [World.cell?, h]
set_option maxHeartbeats 1000000 in
theorem rparts_pair (a b : T) (hv : Valid (T.pair a b)) (hl : (T.pair a b).tl.length ≤ 2000) (w : World) : Calls Try.prog 26 #[.string (T.pair a b).text] w (RParts w [a.text, b.text]) := by
  have H := Lib.hid (rkind_any (T.pair a b) hv (by omega) w)
  have ht : (T.pair a b).text = ⟨(40 :: (a.tl ++ 32 :: (b.tl ++ [41]))).toArray⟩ := by rw [text_tl, tl_pair]
  rw [tl_pair] at hl
  rw [ht] at H ⊢
  obtain ⟨va, vb, -⟩ := hv
  have hla : a.tl.length ≤ 2000 := by simp only [List.length_cons, List.length_append] at hl; omega
  have hlb : b.tl.length ≤ 2000 := by simp only [List.length_cons, List.length_append] at hl; omega
  have R1 := fun w => rterm_any (40 :: (a.tl ++ 32 :: (b.tl ++ [41]))) (by omega) 2002 (by omega) 1 1 w rfl (by simp)
  have d1 : (40 :: (a.tl ++ 32 :: (b.tl ++ [41]))).drop 1 = a.tl ++ 32 :: (b.tl ++ [41]) := rfl
  rw [d1, parse_text a 2002 _ va (by omega) (by rfl)] at R1
  have R2 := fun w => rterm_any (40 :: (a.tl ++ 32 :: (b.tl ++ [41]))) (by omega) 2002 (by omega) (a.tl.length + 2) ((a.tl.length : Int) + 1 + 1) w (by omega) (by simp)
  have d2 : (40 :: (a.tl ++ 32 :: (b.tl ++ [41]))).drop (a.tl.length + 2) = b.tl ++ [41] := by
    rw [List.drop_succ_cons, show a.tl.length + 1 = a.tl.length + 1 from rfl, List.drop_append]
    simp
  rw [d2, parse_text b 2002 _ vb (by omega) (by rfl)] at R2
  have ea : (40 :: (a.tl ++ 32 :: (b.tl ++ [41]))).length - (32 :: (b.tl ++ [41])).length = a.tl.length + 1 := by simp; omega
  have eb : (40 :: (a.tl ++ 32 :: (b.tl ++ [41]))).length - [(41 : UInt8)].length = a.tl.length + b.tl.length + 2 := by simp; omega
  have EA := Lib.hid ea
  have EB := Lib.hid eb
  have sa : Hid ((⟨(40 :: (a.tl ++ 32 :: (b.tl ++ [41]))).toArray⟩ : ByteArray).extract 1 (a.tl.length + 1) = a.text) := by
    rw [ba_ext, text_tl, d1]
    simp [Hid]
  have sb : Hid ((⟨(40 :: (a.tl ++ 32 :: (b.tl ++ [41]))).toArray⟩ : ByteArray).extract (a.tl.length + 2) (a.tl.length + b.tl.length + 2) = b.text) := by
    rw [ba_ext, text_tl, d2, show a.tl.length + b.tl.length + 2 - (a.tl.length + 2) = b.tl.length from by omega]
    simp [Hid]
  have hLen : Hid ((40 :: (a.tl ++ 32 :: (b.tl ++ [41]))).length = a.tl.length + b.tl.length + 3) := by show _ = _; simp; omega
  have RR1 := Lib.hid R1
  have RR2 := Lib.hid R2
  clear ht R1 R2 d1 d2 ea eb hl va vb
  generalize (40 :: (a.tl ++ 32 :: (b.tl ++ [41])) : List UInt8) = L at *
  generalize a.tl.length = na at *
  generalize b.tl.length = nb at *
  have hL1 : L.length ≤ 4003 := by rw [hLen.out]; omega
  have hL2 : na + nb + 2 ≤ L.length := by rw [hLen.out]; omega
  go_enter Try.func26, Try.ntmps26
  go_wp2_with fail
  refine (H.out).mono ?_
  rintro e1 w1 ⟨rfl, rfl⟩
  simp only [T.kind]
  go_wp2_with fail
  refine (RR1.out _).mono ?_
  rintro e1 w1 ⟨hb1, rfl⟩
  simp only [RV]
  rw [EA.out]
  have HB3 := Lib.hid (B3.new w1 (.int .i64 ((na + 1 : Nat) : Int)) (.int .i64 a.size) (.int .i64 a.depth))
  have HW1 := Lib.hid (hb1.alloc hb1.size (.cells #[.int .i64 ((na + 1 : Nat) : Int), .int .i64 a.size, .int .i64 a.depth] 66))
  go_wp2_with fail
  refine (RR2.out _).mono ?_
  rintro e2 w2 ⟨hb2, rfl⟩
  simp only [RV]
  rw [EB.out]
  have hB2 := HW1.out.trans (hb2.mono HW1.out.size)
  have HD := Lib.hid (B3.below HB3.out hb2)
  obtain ⟨q0, q1, q2, f0, f1, f2, hz⟩ := HD.out.old
  clear hb2 HB3
  go_wp2_with fail
  go_region
  go_wp2_with fail
  go_ret
  refine ⟨((hB2.alloc hB2.size _).alloc (by simpa using Nat.le_succ_of_le hB2.size) _).drew, _, rfl, _, rfl, fun k s h => ?_⟩
  refine ⟨w2.heap.size + 1, rfl, ?_, by simp⟩
  have hbk := heap_alloc_new (w2.alloc (.cells #[.int .i64 ((na : Int) + (nb : Int) + 2), .int .i64 b.size, .int .i64 b.depth] 66)) (.cells #[.string ((⟨L.toArray⟩ : ByteArray).extract 1 (na + 1)), .string ((⟨L.toArray⟩ : ByteArray).extract (na + 1 + 1) (na + nb + 2))] 9)
  rw [show (w2.alloc (.cells #[.int .i64 ((na : Int) + (nb : Int) + 2), .int .i64 b.size, .int .i64 b.depth] 66)).heap.size = w2.heap.size + 1 from by simp] at hbk
  rw [sa.out, show na + 1 + 1 = na + 2 from rfl, sb.out] at hbk ⊢
  rcases k with _ | _ | k
  · simp only [List.getElem?_cons_zero, Option.some.injEq] at h
    subst h
    exact (cell_blk hbk 0).trans rfl
  · simp only [List.getElem?_cons_succ, List.getElem?_cons_zero, Option.some.injEq, Nat.zero_add] at h
    subst h
    exact (cell_blk hbk 1).trans rfl
  · simp at h
set_option maxHeartbeats 1000000 in
theorem rparts_seal (a b : T) (hv : Valid (T.seal_ a b)) (hl : (T.seal_ a b).tl.length ≤ 2000) (w : World) : Calls Try.prog 26 #[.string (T.seal_ a b).text] w (RParts w [a.text, b.text]) := by
  have H := Lib.hid (rkind_any (T.seal_ a b) hv (by omega) w)
  have ht : (T.seal_ a b).text = ⟨(91 :: (a.tl ++ 32 :: (b.tl ++ [93]))).toArray⟩ := by rw [text_tl, tl_seal]
  rw [tl_seal] at hl
  rw [ht] at H ⊢
  obtain ⟨va, vb, -⟩ := hv
  have hla : a.tl.length ≤ 2000 := by simp only [List.length_cons, List.length_append] at hl; omega
  have hlb : b.tl.length ≤ 2000 := by simp only [List.length_cons, List.length_append] at hl; omega
  have R1 := fun w => rterm_any (91 :: (a.tl ++ 32 :: (b.tl ++ [93]))) (by omega) 2002 (by omega) 1 1 w rfl (by simp)
  have d1 : (91 :: (a.tl ++ 32 :: (b.tl ++ [93]))).drop 1 = a.tl ++ 32 :: (b.tl ++ [93]) := rfl
  rw [d1, parse_text a 2002 _ va (by omega) (by rfl)] at R1
  have R2 := fun w => rterm_any (91 :: (a.tl ++ 32 :: (b.tl ++ [93]))) (by omega) 2002 (by omega) (a.tl.length + 2) ((a.tl.length : Int) + 1 + 1) w (by omega) (by simp)
  have d2 : (91 :: (a.tl ++ 32 :: (b.tl ++ [93]))).drop (a.tl.length + 2) = b.tl ++ [93] := by
    rw [List.drop_succ_cons, show a.tl.length + 1 = a.tl.length + 1 from rfl, List.drop_append]
    simp
  rw [d2, parse_text b 2002 _ vb (by omega) (by rfl)] at R2
  have ea : (91 :: (a.tl ++ 32 :: (b.tl ++ [93]))).length - (32 :: (b.tl ++ [93])).length = a.tl.length + 1 := by simp; omega
  have eb : (91 :: (a.tl ++ 32 :: (b.tl ++ [93]))).length - [(93 : UInt8)].length = a.tl.length + b.tl.length + 2 := by simp; omega
  have EA := Lib.hid ea
  have EB := Lib.hid eb
  have sa : Hid ((⟨(91 :: (a.tl ++ 32 :: (b.tl ++ [93]))).toArray⟩ : ByteArray).extract 1 (a.tl.length + 1) = a.text) := by
    rw [ba_ext, text_tl, d1]
    simp [Hid]
  have sb : Hid ((⟨(91 :: (a.tl ++ 32 :: (b.tl ++ [93]))).toArray⟩ : ByteArray).extract (a.tl.length + 2) (a.tl.length + b.tl.length + 2) = b.text) := by
    rw [ba_ext, text_tl, d2, show a.tl.length + b.tl.length + 2 - (a.tl.length + 2) = b.tl.length from by omega]
    simp [Hid]
  have hLen : Hid ((91 :: (a.tl ++ 32 :: (b.tl ++ [93]))).length = a.tl.length + b.tl.length + 3) := by show _ = _; simp; omega
  have RR1 := Lib.hid R1
  have RR2 := Lib.hid R2
  clear ht R1 R2 d1 d2 ea eb hl va vb
  generalize (91 :: (a.tl ++ 32 :: (b.tl ++ [93])) : List UInt8) = L at *
  generalize a.tl.length = na at *
  generalize b.tl.length = nb at *
  have hL1 : L.length ≤ 4003 := by rw [hLen.out]; omega
  have hL2 : na + nb + 2 ≤ L.length := by rw [hLen.out]; omega
  go_enter Try.func26, Try.ntmps26
  go_wp2_with fail
  refine (H.out).mono ?_
  rintro e1 w1 ⟨rfl, rfl⟩
  simp only [T.kind]
  go_wp2_with fail
  refine (RR1.out _).mono ?_
  rintro e1 w1 ⟨hb1, rfl⟩
  simp only [RV]
  rw [EA.out]
  have HB3 := Lib.hid (B3.new w1 (.int .i64 ((na + 1 : Nat) : Int)) (.int .i64 a.size) (.int .i64 a.depth))
  have HW1 := Lib.hid (hb1.alloc hb1.size (.cells #[.int .i64 ((na + 1 : Nat) : Int), .int .i64 a.size, .int .i64 a.depth] 66))
  go_wp2_with fail
  refine (RR2.out _).mono ?_
  rintro e2 w2 ⟨hb2, rfl⟩
  simp only [RV]
  rw [EB.out]
  have hB2 := HW1.out.trans (hb2.mono HW1.out.size)
  have HD := Lib.hid (B3.below HB3.out hb2)
  obtain ⟨q0, q1, q2, f0, f1, f2, hz⟩ := HD.out.old
  clear hb2 HB3
  go_wp2_with fail
  go_region
  go_wp2_with fail
  go_ret
  refine ⟨((hB2.alloc hB2.size _).alloc (by simpa using Nat.le_succ_of_le hB2.size) _).drew, _, rfl, _, rfl, fun k s h => ?_⟩
  refine ⟨w2.heap.size + 1, rfl, ?_, by simp⟩
  have hbk := heap_alloc_new (w2.alloc (.cells #[.int .i64 ((na : Int) + (nb : Int) + 2), .int .i64 b.size, .int .i64 b.depth] 66)) (.cells #[.string ((⟨L.toArray⟩ : ByteArray).extract 1 (na + 1)), .string ((⟨L.toArray⟩ : ByteArray).extract (na + 1 + 1) (na + nb + 2))] 9)
  rw [show (w2.alloc (.cells #[.int .i64 ((na : Int) + (nb : Int) + 2), .int .i64 b.size, .int .i64 b.depth] 66)).heap.size = w2.heap.size + 1 from by simp] at hbk
  rw [sa.out, show na + 1 + 1 = na + 2 from rfl, sb.out] at hbk ⊢
  rcases k with _ | _ | k
  · simp only [List.getElem?_cons_zero, Option.some.injEq] at h
    subst h
    exact (cell_blk hbk 0).trans rfl
  · simp only [List.getElem?_cons_succ, List.getElem?_cons_zero, Option.some.injEq, Nat.zero_add] at h
    subst h
    exact (cell_blk hbk 1).trans rfl
  · simp at h
theorem rparts_any (t : T) (hv : Valid t) (hl : t.tl.length ≤ 2000) (w : World) : Calls Try.prog 26 #[.string t.text] w (RParts w (t.parts.map T.text)) := by
  cases t with
  | atom s => exact rparts_atom s hv (by rw [tl_atom] at hl; omega) w
  | pair a b => exact rparts_pair a b hv hl w
  | hash a => exact rparts_hash a hv (by rw [tl_hash] at hl; simp only [List.length_cons] at hl; omega) w
  | seal_ a b => exact rparts_seal a b hv hl w
end Go.Proofs.Ytfbagojhnifajaa
