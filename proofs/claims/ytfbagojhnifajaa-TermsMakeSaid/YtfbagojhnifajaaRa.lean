/- as: a term is as its text says. -/
import Derived.Test.YtfbagojhnifajaaR9
namespace Go.Proofs.Ytfbagojhnifajaa
open Go.RowKit
set_option maxRecDepth 100000
set_option linter.unusedVariables false
set_option linter.unusedSimpArgs false
theorem ba_size (t : T) : t.text.size = t.tl.length := by rw [text_tl]; rfl
theorem valid_size {t : T} (hv : Valid t) : t.size ≤ 200 := by
  cases t with
  | atom s => simp [T.size]
  | pair a b => exact roomBad_size2 a b hv.2.2
  | hash a => exact roomBad_size1 a hv.2
  | seal_ a b => exact roomBad_size2 a b hv.2.2
theorem valid_part {t p : T} (hv : Valid t) (h : p ∈ t.parts) : Valid p ∧ p.tl.length ≤ t.tl.length := by
  cases t with
  | atom s => simp [T.parts] at h
  | pair a b =>
    simp only [T.parts, List.mem_cons, List.not_mem_nil, or_false] at h
    rw [tl_pair]
    simp only [List.length_cons, List.length_append]
    rcases h with rfl | rfl
    · exact ⟨hv.1, by omega⟩
    · exact ⟨hv.2.1, by omega⟩
  | hash a =>
    simp only [T.parts, List.mem_cons, List.not_mem_nil, or_false] at h
    rw [tl_hash]
    subst h
    exact ⟨hv.1, by simp⟩
  | seal_ a b =>
    simp only [T.parts, List.mem_cons, List.not_mem_nil, or_false] at h
    rw [tl_seal]
    simp only [List.length_cons, List.length_append]
    rcases h with rfl | rfl
    · exact ⟨hv.1, by omega⟩
    · exact ⟨hv.2.1, by omega⟩
theorem rpV_text (t : T) (hv : Valid t) (hl : t.tl.length ≤ 2000) : rpV t.tl = tup3 t.size t.depth 0 := by
  unfold rpV
  rw [if_neg (by omega)]
  have h := parse_text t 2002 [] hv (by omega) rfl
  rw [List.append_nil] at h
  rw [h]; rfl
theorem rparse_any (L : List UInt8) (w : World) : Calls Try.prog 24 #[.string ⟨L.toArray⟩] w fun e w' => Below w.heap.size w w' ∧ e = .returned (rpV L) := by
  unfold rpV
  split
  · exact rparse_big L w (by assumption)
  · exact rparse_small L w (by omega)
set_option maxHeartbeats 2000000 in
theorem as_any (t : T) (v : Value) (hv : Valid t) (hl : t.tl.length ≤ 2000) (w : World) (hI : IsT w t v) : Calls Try.prog 8 #[v, .string t.text] w (TrueP w) := by
  obtain ⟨ty, x, rfl⟩ := hI.form
  have H24 := rparse_any t.tl w
  rw [rpV_text t hv hl, ← text_tl] at H24
  have hsz := valid_size hv
  have hdp := t.depth_size
  have hts : t.text.size ≤ 1000000 := by rw [ba_size]; omega
  have C24 := Lib.hid H24
  have HI := Lib.hid hI
  have HV := Lib.hid hv
  clear H24 hI hv
  go_enter Try.func8, Try.ntmps8
  go_wp2_with fail
  refine (C24.out).mono ?_
  rintro e1 w1 ⟨hb1, rfl⟩
  simp only [tup3]
  have C20 := Lib.hid (text_any t w1 _ (HI.out.below hb1) hts)
  go_wp2_with fail
  refine (C20.out).mono ?_
  rintro e2 w2 ⟨rfl, n2, rfl⟩
  have HI2 := Lib.hid ((HI.out.below hb1).drewN n2)
  have C18 := Lib.hid (size_any _ t _ HI2.out)
  go_wp2_with fail
  refine (C18.out).mono ?_
  rintro e3 w3 ⟨rfl, rfl⟩
  have C19 := Lib.hid (depth_any t (by omega) _ _ HI2.out)
  go_wp2_with fail
  refine (C19.out).mono ?_
  rintro e4 w4 ⟨hb4, rfl⟩
  have HI4 := Lib.hid (HI2.out.below hb4)
  have C15 := Lib.hid (kind_any _ t _ HI4.out)
  go_wp2_with fail
  refine (C15.out).mono ?_
  rintro e5 w5 ⟨rfl, rfl⟩
  have C25 := Lib.hid (rkind_any t HV.out (by omega) w4)
  go_wp2_with fail
  refine (C25.out).mono ?_
  rintro e6 w6 ⟨rfl, rfl⟩
  have C16 := Lib.hid (parts_any w4 t _ HI4.out)
  go_wp2_with fail
  refine (C16.out).mono ?_
  rintro e7 w7 ⟨hb7, sl, vs, rfl, hsl, hil⟩
  obtain ⟨A, rfl, hc⟩ := hsl.reads
  replace hil := hil.keep (fun h => IsT.below hb7 h)
  have C26 := Lib.hid (rparts_any t HV.out hl w7)
  clear hsl
  go_wp2_with fail
  refine (C26.out).mono ?_
  rintro e8 w8 ⟨hb8, sl2, rfl, A2, rfl, hc2⟩
  replace hil := hil.keep (fun h => IsT.below hb8 h)
  have hB : Below w.heap.size w w8 := by
    have h2 : Below w.heap.size w (w1.drewN n2) := below_dN hb1 n2
    have h4 := h2.trans (hb4.mono h2.size)
    have h7 := h4.trans (hb7.mono h4.size)
    exact h7.trans (hb8.mono h7.size)
  have hvl : vs.length = t.parts.length := hil.length
  have hml : (t.parts.map T.text).length = t.parts.length := List.length_map _
  have hp2 := parts_len t
  have Hc := Lib.hid hc
  have Hc2 := Lib.hid hc2
  have HB := Lib.hid hB
  have HB8 := Lib.hid hb8
  rw [hml, hvl]
  have HVL := Lib.hid hvl
  have HML := Lib.hid hml
  clear hc hc2 hb8 hb7 hb4 hb1 hB hvl hml
  go_wp2_with fail
  go_loopw [59] (fun i wr => ∃ k : Nat, k ≤ t.parts.length ∧ i = .int .i64 k ∧ Below w8.heap.size w8 wr) (fun i _ => t.parts.length - (intOf i).toNat)
  case atStart => exact ⟨0, Nat.zero_le _, rfl, Below.refl _ _⟩
  case round =>
    obtain ⟨k, hk, rfl, hbr⟩ := hrel
    by_cases hlt : k < t.parts.length
    · obtain ⟨u, hu, hiu⟩ := hil.get k hlt
      obtain ⟨g, rfl, hcell, hg⟩ := Hc.out k u hu
      obtain ⟨ty', x', rfl⟩ := hiu.form
      obtain ⟨g2, rfl, hcell2, hg2⟩ := Hc2.out k (t.parts[k].text) (by rw [List.getElem?_map, List.getElem?_eq_getElem hlt]; rfl)
      have hcr : wr.cell? ⟨g, k, none⟩ = some (.iface ty' x') := (hbr.cell (p := ⟨g, k, none⟩) (Nat.lt_of_lt_of_le hg HB8.out.size)).trans ((HB8.out.cell (p := ⟨g, k, none⟩) hg).trans hcell)
      have hcr2 : wr.cell? ⟨g2, k, none⟩ = some (.string t.parts[k].text) := (hbr.cell (p := ⟨g2, k, none⟩) hg2).trans hcell2
      have hpv := valid_part HV.out (List.getElem_mem hlt)
      have HC := Lib.hid (fun n => text_any t.parts[k] (wr.drewN n) _ ((hiu.below hbr).drewN n) (by rw [ba_size]; omega))
      clear hcell hcell2 hu hiu hpv
      go_wp2_with fail
      go_quiet ((go_at_call 20; exact Calls.quiet_of (HC.out _)))
      go_wp2_with fail
      go_roundw
      case rel => exact ⟨k + 1, by omega, by go_num, below_dN hbr _⟩
      case measure => simp [intOf]; omega
    · have hke : t.parts.length ≤ k := by omega
      go_wp2_with fail
      go_ret
      exact ⟨HB.out.trans (hbr.mono HB.out.size), rfl⟩
end Go.Proofs.Ytfbagojhnifajaa
