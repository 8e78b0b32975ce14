/- Within. -/
import Derived.Test.YtfbagojhnifajaaTb
import Derived.Test.YtfbagojhnifajaaShelf
import Derived.Sort.OwnSorted
namespace Go.Proofs.Ytfbagojhnifajaa
open Go.RowKit Go.Sort
set_option maxRecDepth 100000
set_option linter.unusedVariables false
set_option linter.unusedSimpArgs false
def T.tl (t : T) : List UInt8 := t.text.data.toList
def le8 (x y : List UInt8) : Bool := decide (x ≤ y)
def wl : T → List (List UInt8)
  | .atom s => Lib.compact ([(T.atom s).tl].mergeSort le8)
  | .pair a b => Lib.compact (((T.pair a b).tl :: (wl a ++ wl b)).mergeSort le8)
  | .hash a => Lib.compact (((T.hash a).tl :: wl a).mergeSort le8)
  | .seal_ a b => Lib.compact (((T.seal_ a b).tl :: (wl a ++ wl b)).mergeSort le8)
def wpre (t : T) (k : Nat) : List (List UInt8) := t.tl :: (t.parts.take k).flatMap wl
theorem wl_eq (t : T) : wl t = Lib.compact ((wpre t t.parts.length).mergeSort le8) := by
  cases t <;> simp [wl, wpre, T.parts]
theorem wpre_succ (t : T) (k : Nat) (h : k < t.parts.length) : wpre t (k + 1) = wpre t k ++ wl t.parts[k] := by
  unfold wpre
  rw [List.take_succ_eq_append_getElem h, List.flatMap_append]
  simp
theorem compact_len (zs : List (List UInt8)) : (Lib.compact zs).length ≤ zs.length := by
  unfold Lib.compact Lib.compactUpTo
  rw [List.length_map]
  exact Nat.le_trans (List.length_filter_le _ _) (by simp)
theorem wl_len (t : T) : ((wl t).length : Int) ≤ t.size := by
  induction t with
  | atom s => have := compact_len ([(T.atom s).tl].mergeSort le8); simp only [List.length_mergeSort, List.length_cons, List.length_nil] at this; simp only [wl, T.size]; omega
  | pair a b iha ihb => have := compact_len (((T.pair a b).tl :: (wl a ++ wl b)).mergeSort le8); simp only [List.length_mergeSort, List.length_cons, List.length_append] at this; simp only [wl, T.size]; omega
  | hash a iha => have := compact_len (((T.hash a).tl :: wl a).mergeSort le8); simp only [List.length_mergeSort, List.length_cons] at this; simp only [wl, T.size]; omega
  | seal_ a b iha ihb => have := compact_len (((T.seal_ a b).tl :: (wl a ++ wl b)).mergeSort le8); simp only [List.length_mergeSort, List.length_cons, List.length_append] at this; simp only [wl, T.size]; omega
def OwnS (w : World) (base : Nat) (v : Value) (l : List (List UInt8)) : Prop := w.ownsRow base 9 1 v l.length (l.map encStr)
theorem info9 : (Try.prog.info? 9).map (fun i => (i.zero, i.size, i.bytes)) = some (some (.string ⟨#[]⟩), 1, 16) := by kernel_rfl
theorem compact_pos (zs : List (List UInt8)) (h : 0 < zs.length) : 0 < (Lib.compact zs).length := by
  unfold Lib.compact Lib.compactUpTo
  rw [List.length_map]
  exact List.length_pos_of_mem (a := 0) (List.mem_filter.2 ⟨List.mem_range.2 h, Lib.keeps_lt_one _ 0 (by omega)⟩)
theorem wl_pos (t : T) : 0 < (wl t).length := by
  rw [wl_eq]
  exact compact_pos _ (by simp [wpre])
theorem OwnS.form {w : World} {base : Nat} {v : Value} {l : List (List UInt8)} (h : OwnS w base v l) (hl : 0 < l.length) :
    ∃ g cap cur, v = .slice (some ⟨g, 0, none⟩) l.length cap ∧ base ≤ g ∧ w.heap[g]? = some (.cells cur 9 (0, 0)) ∧ l.length ≤ cap ∧ cap ≤ maxLen ∧ cur.size = cap ∧ cur.toList.take l.length = l.map encStr := by
  obtain ⟨h1, ⟨rfl, h0⟩ | ⟨g, cap, cur, h2, h3, h4, h5, h6, h7, h8⟩⟩ := h
  · omega
  · exact ⟨g, cap, cur, h2, h3, h4, h5, h6, by omega, by simpa using h8⟩
theorem OwnS.below {w w' : World} {base : Nat} {v : Value} {l : List (List UInt8)} (h : OwnS w base v l) (hb : Below w.heap.size w w') : OwnS w' base v l :=
  World.ownsRow.kept (row := none) h (only_below hb none) (by
    obtain ⟨h1, ⟨rfl, h0⟩ | ⟨g, cap, cur, rfl, h3, h4, h5, h6, h7, h8⟩⟩ := h <;> simp [Value.ownBlock])
theorem below_dN {B : Nat} {a w : World} (h : Below B a w) (n : Nat) : Below B a (w.drewN n) := ⟨h.os, h.tape, h.output, h.size, h.block⟩
theorem IsT.keep9 {w w' : World} (h : ∀ (i : Nat) (cs : Array Value) (t : TypeId), w.heap[i]? = some (Obj.cells cs t (0, 0)) → t ≠ 9 → w'.heap[i]? = some (Obj.cells cs t (0, 0))) : ∀ {t : T} {v : Value}, IsT w t v → IsT w' t v
  | .atom _, _, h1 => h1
  | .pair _ _, _, ⟨g, va, vb, e, hb, h1, h2⟩ => ⟨g, va, vb, e, h _ _ _ hb (by decide), IsT.keep9 h h1, IsT.keep9 h h2⟩
  | .hash _, _, ⟨g, va, e, hb, h1⟩ => ⟨g, va, e, h _ _ _ hb (by decide), IsT.keep9 h h1⟩
  | .seal_ _ _, _, ⟨g, va, vb, e, hb, h1, h2⟩ => ⟨g, va, vb, e, h _ _ _ hb (by decide), IsT.keep9 h h1, IsT.keep9 h h2⟩
def Keep9 (w w' : World) : Prop := ∀ (i : Nat) (cs : Array Value) (t : TypeId), w.heap[i]? = some (Obj.cells cs t (0, 0)) → t ≠ 9 → w'.heap[i]? = some (Obj.cells cs t (0, 0))
theorem Keep9.refl (w : World) : Keep9 w w := fun _ _ _ h _ => h
theorem Keep9.trans {a b c : World} (h : Keep9 a b) (k : Keep9 b c) : Keep9 a c := fun i cs t h1 h2 => k i cs t (h i cs t h1 h2) h2
theorem Keep9.below {w w' : World} (h : Below w.heap.size w w') : Keep9 w w' := fun i cs t h1 _ => (h.block i (lt_of_some h1)).trans h1
theorem Keep9.grown {w w' : World} {base : Nat} {v : Value} {l : List (List UInt8)} (ho : OwnS w base v l) (h : w.grownBy w' v.ownBlock) : Keep9 w w' := fun i cs t h1 h2 =>
  (h.block i (lt_of_some h1) (by
    obtain ⟨_, ⟨rfl, h0⟩ | ⟨g, cap, cur, rfl, h3, h4, _⟩⟩ := ho
    · simp [Value.ownBlock]
    · intro e
      simp only [Value.ownBlock, Option.some.injEq] at e
      subst e
      rw [h4] at h1
      injection h1 with h1
      injection h1 with _ h5
      exact h2 h5.symm)).trans h1
theorem OwnS.base_le {w : World} {base : Nat} {v : Value} {l : List (List UInt8)} (ho : OwnS w base v l) : ∀ k, v.ownBlock = some k → base ≤ k := by
  obtain ⟨_, ⟨rfl, h0⟩ | ⟨g, cap, cur, rfl, h3, h4, _⟩⟩ := ho
  · simp [Value.ownBlock]
  · intro k e
    simp only [Value.ownBlock, Option.some.injEq] at e
    omega
theorem cells_of {w : World} {g : Nat} {cur : Array Value} {l : List (List UInt8)} (hb : w.heap[g]? = some (Obj.cells cur 9 (0, 0))) (ht : cur.toList.take l.length = l.map encStr) :
    ∀ (j : Nat) (u : Value), (l.map encStr)[j]? = some u → w.cell? ((⟨g, 0, none⟩ : Addr).add j) = some u := by
  intro j u hu
  have hj : j < l.length := by
    rcases Nat.lt_or_ge j l.length with h | h
    · exact h
    · rw [List.getElem?_eq_none (by simpa using h)] at hu; cases hu
  have e : ((⟨g, 0, none⟩ : Addr).add j) = ⟨g, j, none⟩ := by
    unfold Addr.add
    by_cases h0 : j = 0 <;> simp [h0]
  rw [e]
  rw [← ht, List.getElem?_take_of_lt hj] at hu
  simp only [World.cell?, hb]
  simpa using hu
theorem oneCells (l : List (List UInt8)) : ∀ u ∈ l.map encStr, u.oneCell' = true := by
  intro u hu
  obtain ⟨x, _, rfl⟩ := List.mem_map.1 hu
  rfl
theorem wpre_len (t : T) (hs : t.size ≤ 1000) (k : Nat) : (wpre t k).length ≤ 1000 := by
  have h : ((wpre t k).length : Int) ≤ t.size := by
    cases t with
    | atom s => simp [wpre, T.parts, T.size]
    | pair a b =>
      have := wl_len a; have := wl_len b; have := a.size_pos; have := b.size_pos
      rcases k with _ | _ | k <;> simp [wpre, T.parts, T.size] <;> omega
    | hash a =>
      have := wl_len a; have := a.size_pos
      rcases k with _ | k <;> simp [wpre, T.parts, T.size] <;> omega
    | seal_ a b =>
      have := wl_len a; have := wl_len b; have := a.size_pos; have := b.size_pos
      rcases k with _ | _ | k <;> simp [wpre, T.parts, T.size] <;> omega
  omega
/-- the contract of Within -/
def WPost (w : World) (t : T) (e : Ending) (w' : World) : Prop := Below w.heap.size w w' ∧ ∃ r, e = .returned r ∧ OwnS w' w.heap.size r (wl t)
def WC (t : T) : Prop := ∀ (w : World) (v : Value), IsT w t v → Calls Try.prog 17 #[v] w (WPost w t)
def oneS (t : T) (w : World) : World := w.alloc (.cells #[.string t.text] 9)
set_option maxHeartbeats 1000000 in
theorem within_step (t : T) (hs : t.size ≤ 1000) (hts : t.text.size ≤ 1000000) (ih : ∀ p ∈ t.parts, WC p) : WC t := by
  intro w v h
  have H20 := Lib.hid (text_any t w v h hts)
  obtain ⟨ty, x, rfl⟩ := h.form
  have H16 := Lib.hid (fun n => parts_any ((w.drewN n).alloc (.cells #[.string t.text] 9)) t _ ((h.drewN n).alloc _))
  have IH := Lib.hid ih
  have HI := Lib.hid h
  clear h ih
  obtain ⟨i9, hi9, hz9, hs9, hb9⟩ := info_parts info9
  have I1 := Lib.hid hi9
  have I2 := Lib.hid hz9
  have I3 := Lib.hid hs9
  have I4 := Lib.hid hb9
  clear hi9 hz9 hs9 hb9
  go_enter Try.func17, Try.ntmps17
  go_wp2_with fail
  refine (H20.out).mono ?_
  rintro e0 w0 ⟨rfl, n0, rfl⟩
  go_wp2_with fail
  refine (H16.out n0).mono ?_
  rintro e w1 ⟨hb1, sl, vs, rfl, hsl, hil⟩
  obtain ⟨A, rfl, hc⟩ := hsl.reads
  replace hil := hil.keep (fun h => IsT.below hb1 h)
  have HL := Lib.hid hil.length
  have hv2 : vs.length ≤ 2 := by rw [hil.length]; exact parts_len t
  have Hc := Lib.hid hc
  have hB1 : Below w.heap.size w w1 := ((below_dN (Below.refl w.heap.size w) n0).alloc (Nat.le_refl _) _).trans (hb1.mono (by simp))
  have hO1 : OwnS w1 w.heap.size (.slice (some ⟨w.heap.size, 0, none⟩) 1 1) (wpre t 0) := by
    refine OwnS.below (w := (w.drewN n0).alloc (.cells #[.string t.text] 9)) ⟨by simp [wpre], .inr ⟨w.heap.size, 1, _, rfl, Nat.le_refl _, heap_alloc_new (w.drewN n0) _, Nat.le_refl _, by simp [maxLen], rfl, ?_⟩⟩ hb1
    exact rfl
  have hT : A = none ∨ ∃ g cs, A = some ⟨g, 0, none⟩ ∧ w1.heap[g]? = some (Obj.cells cs 24 (0, 0)) := by
    rcases hsl with ⟨_, h, _⟩ | ⟨_, g, h, hb, _⟩
    · injection h with h; exact .inl h
    · injection h with h; exact .inr ⟨g, _, h, hb⟩
  have HT := Lib.hid hT
  have HO1 := Lib.hid hO1
  clear hT hc hsl hO1 H16 H20
  go_wp2_with fail
  go_loopw [3, 14] (fun l i wr => ∃ k : Nat, k ≤ vs.length ∧ i = .int .i64 k ∧ Below w.heap.size w wr ∧ OwnS wr w.heap.size l (wpre t k) ∧ Keep9 w1 wr) (fun _ i _ => vs.length - (intOf i).toNat)
  case atStart => exact ⟨0, Nat.zero_le _, rfl, hB1, HO1.out, Keep9.refl _⟩
  case round =>
    obtain ⟨k, hk, rfl, hBr, hOr, hbl⟩ := hrel
    have HBL := Lib.hid hbl
    have HOR := Lib.hid hOr
    clear hbl hOr
    by_cases hlt : k < vs.length
    · have hkt : k < t.parts.length := by rw [← HL.out]; exact hlt
      obtain ⟨u, hu, hiu⟩ := hil.get k hkt
      obtain ⟨g, rfl, hcell, hg⟩ := Hc.out k u hu
      obtain ⟨ty', x', rfl⟩ := hiu.form
      obtain ⟨cs, hcs⟩ : ∃ cs, w1.heap[g]? = some (Obj.cells cs 24 (0, 0)) := by
        rcases HT.out with h | ⟨g', cs, h, hb⟩
        · cases h
        · injection h with h; injection h with h; subst h; exact ⟨cs, hb⟩
      have hcell' : wr.cell? ⟨g, k, none⟩ = some (.iface ty' x') := (World.cell?_of_block (a := ⟨g, k, none⟩) ((HBL.out g cs 24 hcs (by decide)).trans hcs.symm)).trans hcell
      have hIr : IsT wr t.parts[k] (.iface ty' x') := hiu.keep9 HBL.out
      have HC := Lib.hid (IH.out _ (List.getElem_mem hkt) wr _ hIr)
      have hwp := Lib.hid (wpre_succ t k hkt)
      clear hcell hu hiu hIr
      go_wp2_with fail
      refine (HC.out).mono ?_
      rintro e2 w2 ⟨hb2, r, rfl, hor⟩
      obtain ⟨g2, cap2, cur2, rfl, q1, q2, q3, q4, q5, q6⟩ := hor.form (wl_pos _)
      have hk9 := HBL.out.trans (Keep9.below hb2)
      have hO2 := HOR.out.below hb2
      have hbw : Below w.heap.size w w2 := hBr.trans (hb2.mono hBr.size)
      have HK := Lib.hid hk9
      have HO2 := Lib.hid hO2
      have HW := Lib.hid hbw
      have HQ3 := Lib.hid q3
      have HQ6 := Lib.hid q6
      have HQ := Lib.hid q2
      have hlen : (wpre t (k + 1)).length = (wpre t k).length + (wl t.parts[k]).length := by rw [hwp.out, List.length_append]
      have HLen := Lib.hid hlen
      have hbound := wpre_len t hs (k + 1)
      have C1 : Hid (((wl t.parts[k]).map encStr).length = (wl t.parts[k]).length * 1) := by exact (by simp : ((wl t.parts[k]).map encStr).length = (wl t.parts[k]).length * 1)
      have C2 := Lib.hid (cells_of q2 q6)
      have C3 := Lib.hid (oneCells (wl t.parts[k]))
      have C4 : Hid ((wpre t k).length + (wl t.parts[k]).length ≤ maxLen) := (by unfold maxLen; omega : (wpre t k).length + (wl t.parts[k]).length ≤ maxLen)
      have C5 : Hid (((wpre t k).length + (wl t.parts[k]).length) * 16 ≤ 140737488355328) := (by omega : ((wpre t k).length + (wl t.parts[k]).length) * 16 ≤ 140737488355328)
      have C6 := Lib.hid hbw.size
      clear hk9 hO2 hbw q3 q6 q2 hor hlen hbound
      go_wp2_with (at_builtin; refine wpList_append_own _ rfl _ _ 38 rfl w.heap.size 9 i9 (.string ⟨#[]⟩) 1 16 Try.underlying38 I1.out I2.out I3.out I4.out rfl (by decide) _ _ _ rfl HO2.out ⟨g2, 0, none⟩ (wl t.parts[k]).length cap2 ((wl t.parts[k]).map encStr) rfl C1.out C2.out C3.out C4.out C5.out C6.out ?_; intro v3 w3 hown3 hgr3 _; have HOwn3 := Lib.hid hown3; have HGr3 := Lib.hid hgr3; clear hown3 hgr3)
      go_roundw
      case rel =>
        refine ⟨k + 1, by omega, by go_num, HW.out.grown HGr3.out HW.out.size HO2.out.base_le, ?_, HK.out.trans (Keep9.grown HO2.out HGr3.out)⟩
        have h3 := HOwn3.out
        unfold OwnS
        rw [hwp.out, List.length_append, List.map_append]
        exact h3
      case measure => simp [intOf]; omega
    · have hke : k = t.parts.length := by rw [← HL.out]; omega
      have hwl := Lib.hid (wl_eq t)
      subst hke
      have hbound := wpre_len t hs t.parts.length
      have hpos : 0 < (wpre t t.parts.length).length := by simp [wpre]
      obtain ⟨gl, capl, curl, rfl, q1, q2, q3, q4, q5, q6⟩ := HOR.out.form hpos
      generalize wpre t t.parts.length = L at *
      have hsl : (L.mergeSort le8).length = L.length := List.length_mergeSort _
      have HS := Lib.hid (Try.slices_Sort_string gl 0 capl L wr (holds_of_block q2 q6) (lt_of_some q2) (by omega))
      have HQ2 := Lib.hid q2
      have HQ5 := Lib.hid q5
      have HQ1 := Lib.hid q1
      have HSL := Lib.hid hsl
      clear q2 q5 q6 q1 hsl hbound
      go_wp2_with fail
      refine (HS.out).mono ?_
      rintro e2 w2 ⟨rfl, nn, os, hw2⟩
      have hO2 := ownsRow_sorted (base := w.heap.size) (n := nn) (os := os) (ts := L.mergeSort le8) HSL.out HQ1.out HQ2.out q3 q4 (by rw [HQ5.out]; simp)
      have hg2 := grownBy_sorted (w := wr) (g := gl) (n := nn) (os := os) (L.mergeSort le8).toArray
      rw [show (fun x y : List UInt8 => decide (x ≤ y)) = le8 from rfl] at hw2
      rw [← hw2] at hO2 hg2
      clear hw2 HS
      rw [← HSL.out] at hO2
      have hO2' : OwnS w2 w.heap.size (.slice (some ⟨gl, 0, none⟩) (L.mergeSort le8).length capl) (L.mergeSort le8) := hO2
      clear hO2
      have hB2 : Below w.heap.size w w2 := hBr.grown hg2 hBr.size (by intro j hj; injection hj with hj; subst hj; exact HQ1.out)
      have HB2 := Lib.hid hB2
      obtain ⟨gl', capl', curl', hv, q1, q2, q3', q4', q5, q6⟩ := hO2'.form (by rw [HSL.out]; omega)
      injection hv with hv1 _ hv3
      injection hv1 with hv1
      injection hv1 with hv1
      subst hv1
      subst hv3
      have hcc := Try.slices_Compact_string gl 0 capl (L.mergeSort le8) w2 (holds_of_block q2 q6) (by rw [HSL.out]; unfold maxLen at q4; omega) q3'
      rw [HSL.out] at hcc
      have HCC := Lib.hid hcc
      have Q1 := Lib.hid q1
      have Q2 := Lib.hid q2
      have Q5 := Lib.hid q5
      have hcl : (Lib.compact (L.mergeSort le8)).length ≤ L.length := by have := compact_len (L.mergeSort le8); rw [HSL.out] at this; exact this
      clear q1 q2 q5 q6 hcc hg2 hO2' hB2
      go_wp2_with fail
      refine (HCC.out).mono ?_
      rintro e3 w3 ⟨rfl, qd, hw3⟩
      go_wp2_with fail
      go_ret
      refine ⟨?_, _, rfl, ?_⟩
      · exact HB2.out.grown (by have := grownBy_sorted (w := w2) (g := gl) (n := qd) (os := #[]) (Lib.compact (L.mergeSort le8) ++ List.replicate (L.length - (Lib.compact (L.mergeSort le8)).length) []).toArray; rw [grow_empty] at this; exact this) HB2.out.size (by intro j hj; injection hj with hj; subst hj; exact HQ1.out)
      · unfold OwnS
        rw [hwl.out]
        have hblk := heap_sorted (w := w2) (g := gl) (n := qd) (os := #[]) (Lib.compact (L.mergeSort le8) ++ List.replicate (L.length - (Lib.compact (L.mergeSort le8)).length) []).toArray Q2.out
        rw [grow_empty] at hblk
        refine ⟨by simp, .inr ⟨gl, capl, _, rfl, HQ1.out, hblk, by omega, q4, by simp [putCells, Q5.out], ?_⟩⟩
        have ht := take_putCells curl' (Lib.compact (L.mergeSort le8) ++ List.replicate (L.length - (Lib.compact (L.mergeSort le8)).length) []) (by rw [Q5.out]; simp; omega)
        rw [Nat.mul_one]
        have h2 := congrArg (List.take (Lib.compact (L.mergeSort le8)).length) ht
        rw [List.take_take, Nat.min_eq_left (by simp), List.map_append, List.take_left' (by simp)] at h2
        exact h2
theorem within_any : ∀ (t : T), t.size ≤ 1000 → t.text.size ≤ 1000000 → WC t := by
  intro t
  induction t with
  | atom s => intro hs ht; exact within_step _ hs ht (by simp [T.parts])
  | pair a b iha ihb =>
    intro hs ht
    have h0 := ht
    rw [text_size_pair] at h0
    have := a.size_pos; have := b.size_pos
    have h1 : 1 + a.size + b.size ≤ 1000 := hs
    exact within_step _ hs ht (by simp only [T.parts, List.mem_cons, List.not_mem_nil, or_false]; rintro p (rfl | rfl); exact iha (by omega) (by omega); exact ihb (by omega) (by omega))
  | hash a iha =>
    intro hs ht
    have h0 := ht
    rw [text_size_hash] at h0
    have h1 : 1 + a.size ≤ 1000 := hs
    exact within_step _ hs ht (by simp only [T.parts, List.mem_cons, List.not_mem_nil, or_false]; rintro p rfl; exact iha (by omega) (by omega))
  | seal_ a b iha ihb =>
    intro hs ht
    have h0 := ht
    rw [text_size_seal] at h0
    have := a.size_pos; have := b.size_pos
    have h1 : 1 + a.size + b.size ≤ 1000 := hs
    exact within_step _ hs ht (by simp only [T.parts, List.mem_cons, List.not_mem_nil, or_false]; rintro p (rfl | rfl); exact iha (by omega) (by omega); exact ihb (by omega) (by omega))
set_option maxHeartbeats 400000 in
theorem within_nil (w : World) : Calls Try.prog 17 #[.nilIface] w fun e w' => w = w' ∧ e = .returned (.slice none 0 0) := by
  go_enter Try.func17, Try.ntmps17
  go_wp2_with fail
  go_ret
  exact ⟨rfl, rfl⟩
set_option maxHeartbeats 400000 in
theorem text_nil (w : World) : Calls Try.prog 20 #[.nilIface] w fun e w' => w = w' ∧ e = .returned (.string ⟨#[]⟩) := by
  go_enter Try.func20, Try.ntmps20
  go_wp2_with fail
  go_ret
  exact ⟨rfl, rfl⟩
end Go.Proofs.Ytfbagojhnifajaa
