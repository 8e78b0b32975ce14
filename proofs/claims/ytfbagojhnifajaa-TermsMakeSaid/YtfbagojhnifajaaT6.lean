/- room, Pair, Hash, Seal. -/
import Derived.Test.YtfbagojhnifajaaT5
namespace Go.Proofs.Ytfbagojhnifajaa
open Go.RowKit
set_option maxRecDepth 100000
set_option linter.unusedVariables false
set_option linter.unusedSimpArgs false
def ssum (ts : List T) : Int := ts.foldl (fun m t => m + t.size) 1
theorem ssum_take (ts : List T) (k : Nat) (h : k < ts.length) : ssum (ts.take (k + 1)) = ssum (ts.take k) + ts[k].size := by
  unfold ssum
  rw [List.take_succ_eq_append_getElem h, List.foldl_append]; rfl
theorem ssum_bd (ts : List T) (hs : ∀ t ∈ ts, t.size ≤ 1000000) (k : Nat) : 1 ≤ ssum (ts.take k) ∧ ssum (ts.take k) ≤ 1 + 1000000 * k := by
  induction k with
  | zero => simp [ssum]
  | succ k ih =>
    by_cases hk : k < ts.length
    · rw [ssum_take ts k hk]
      have := hs _ (List.getElem_mem hk)
      have := ts[k].size_pos
      omega
    · rw [List.take_of_length_le (show ts.length ≤ k + 1 by omega)]
      rw [List.take_of_length_le (show ts.length ≤ k by omega)] at ih
      omega
def roomBad (ts : List T) : Bool := decide (200 < ssum ts) || ts.any (fun t => decide (40 ≤ t.depth))
def roomV (ts : List T) : Value := if roomBad ts then .tuple #[.int .i64 0, .int .i64 8] else .tuple #[.int .i64 (ssum ts), .int .i64 0]
set_option maxHeartbeats 400000 in
theorem room_ok (ts : List T) (vs : List Value) (w : World) (g : Nat) (hn : 1 ≤ vs.length) (hn2 : vs.length ≤ 2) (hl : IsL w ts vs) (hs : ∀ t ∈ ts, t.size ≤ 1000000)
    (hb : w.heap[g]? = some (.cells vs.toArray 24 (0, 0))) :
    Calls Try.prog 28 #[.slice (some ⟨g, 0, none⟩) vs.length vs.length] w fun e w' => Below w.heap.size w w' ∧ e = .returned (roomV ts) := by
  have hg := lt_of_some hb
  have HL := Lib.hid hl.length
  have Hb := Lib.hid hb
  have Hs := Lib.hid hs
  have HB := Lib.hid (ssum_bd ts hs)
  clear hs hb
  go_enter Try.func28, Try.ntmps28
  go_wp2_with fail
  go_loop [4, 11] (fun d i => ∃ k : Nat, k ≤ vs.length ∧ i = .int .i64 k ∧ d = .int .i64 (ssum (ts.take k))) (fun _ i => vs.length - (intOf i).toNat)
  case atStart => exact ⟨0, Nat.zero_le _, rfl, rfl⟩
  case round =>
    obtain ⟨k, hk, rfl, rfl⟩ := hrel
    by_cases hlt : k < vs.length
    · have hkt : k < ts.length := by rw [← HL.out]; exact hlt
      obtain ⟨u, hu, hiu⟩ := hl.get k hkt
      obtain ⟨ty', x', rfl⟩ := hiu.form
      have hcell : w.cell? ⟨g, k, none⟩ = some (.iface ty' x') := by simp [World.cell?, Hb.out, hu]
      have HC := Lib.hid (size_any w _ _ hiu)
      obtain ⟨b1, b2⟩ := HB.out k
      obtain ⟨b3, b4⟩ := HB.out (k + 1)
      have hd := Lib.hid (ssum_take ts k hkt)
      have hz : ts[k].size ≤ 1000000 := Hs.out _ (List.getElem_mem hkt)
      have hz' := ts[k].size_pos
      clear hu hiu
      go_wp2_with (go_at_call 18; refine (HC.out).mono ?_; rintro e w2 ⟨rfl, rfl⟩)
      go_round
      case rel => exact ⟨k + 1, by omega, by go_num, by rw [hd.out]⟩
      case measure => simp [intOf]; omega
    · have hke : k = ts.length := by rw [← HL.out]; omega
      have hd : Hid (ssum (ts.take k) = ssum ts) := by rw [hke, List.take_length]; exact rfl
      obtain ⟨b1, b2⟩ := HB.out k
      clear hke
      go_wp2_with fail
      rw [hd.out] at *
      go_loopw [24] (fun i wr => ∃ j : Nat, j ≤ vs.length ∧ i = .int .i64 j ∧ Below w.heap.size w wr ∧ Hid ((0 < j → ssum ts ≤ 200) ∧ (∀ m (hm : m < ts.length), m < j → ts[m].depth < 40))) (fun i _ => vs.length - (intOf i).toNat)
      case atStart => exact ⟨0, Nat.zero_le _, rfl, Below.refl _ _, by intro h; omega, by intro m hm h; omega⟩
      case round =>
        obtain ⟨j, hj, rfl, hbr, hF⟩ := hrel
        by_cases hlt : j < vs.length
        · have hkt : j < ts.length := by rw [← HL.out]; exact hlt
          by_cases h200 : 200 < ssum ts
          · obtain ⟨u, hu, hiu⟩ := hl.get j hkt
            obtain ⟨ty', x', rfl⟩ := hiu.form
            have hcell : wr.cell? ⟨g, j, none⟩ = some (.iface ty' x') := (hbr.cell (p := ⟨g, j, none⟩) hg).trans (by simp [World.cell?, Hb.out, hu])
            have hfin : Hid (roomV ts = .tuple #[.int .i64 0, .int .i64 8]) := by unfold roomV roomBad; simp [h200, Hid]
            clear hu hiu
            go_wp2_with fail
            go_ret2
            exact ⟨hbr, by rw [hfin.out]; rfl⟩
          · obtain ⟨u, hu, hiu⟩ := hl.get j hkt
            obtain ⟨ty', x', rfl⟩ := hiu.form
            have hcell : wr.cell? ⟨g, j, none⟩ = some (.iface ty' x') := (hbr.cell (p := ⟨g, j, none⟩) hg).trans (by simp [World.cell?, Hb.out, hu])
            have HC := Lib.hid (depth_any _ (Hs.out _ (List.getElem_mem hkt)) wr _ (hiu.below hbr))
            have h200' : ssum ts ≤ 200 := by omega
            by_cases hd40 : 40 ≤ ts[j].depth
            · have hfin : Hid (roomV ts = .tuple #[.int .i64 0, .int .i64 8]) := by
                have : ts.any (fun t => decide (40 ≤ t.depth)) = true := List.any_eq_true.2 ⟨ts[j], List.getElem_mem hkt, by simpa using hd40⟩
                unfold roomV roomBad; simp [this, Hid]
              clear hu hiu
              go_wp2_with (go_at_call 19; refine (HC.out).mono ?_; rintro e w2 ⟨hb2, rfl⟩)
              go_ret2
              exact ⟨hbr.trans (hb2.mono hbr.size), by rw [hfin.out]; rfl⟩
            · have hd40' : ts[j].depth < 40 := by omega
              clear hu hiu hd40 h200
              go_wp2_with (go_at_call 19; refine (HC.out).mono ?_; rintro e w2 ⟨hb2, rfl⟩)
              go_roundw
              case rel =>
                refine ⟨j + 1, by omega, by go_num, hbr.trans (hb2.mono hbr.size), fun _ => h200', fun m hm hmj => ?_⟩
                by_cases e : m = j
                · subst e; exact hd40'
                · exact hF.out.2 m hm (by omega)
              case measure => simp [intOf]; omega
        · have hje : j = ts.length := by rw [← HL.out]; omega
          have hfin : Hid (roomV ts = .tuple #[.int .i64 (ssum ts), .int .i64 0]) := by
            have h1 := hF.out.1 (by omega)
            have h2 : ts.any (fun t => decide (40 ≤ t.depth)) = false := by
              rw [List.any_eq_false]
              intro t ht
              obtain ⟨m, hm, rfl⟩ := List.getElem_of_mem ht
              have := hF.out.2 m hm (by omega)
              simp only [decide_eq_true_eq]; omega
            have h3 : decide (200 < ssum ts) = false := by simp only [decide_eq_false_iff_not]; omega
            unfold roomV roomBad; rw [h2, h3]; exact rfl
          clear hje
          go_wp2_with fail
          go_ret2
          exact ⟨hbr, by rw [hfin.out]; rfl⟩
set_option maxHeartbeats 400000 in
theorem room_nil (ts : List T) (vs ps rs : List Value) (w : World) (g : Nat) (hv : vs = ps ++ .nilIface :: rs) (hn2 : vs.length ≤ 2) (hl : IsL w ts ps) (hs : ∀ t ∈ ts, t.size ≤ 1000000)
    (hb : w.heap[g]? = some (.cells vs.toArray 24 (0, 0))) :
    Calls Try.prog 28 #[.slice (some ⟨g, 0, none⟩) vs.length vs.length] w fun e w' => w = w' ∧ e = .returned (.tuple #[.int .i64 0, .int .i64 2]) := by
  have hg := lt_of_some hb
  have HL := Lib.hid hl.length
  have Hb := Lib.hid hb
  have Hs := Lib.hid hs
  have Hv := Lib.hid hv
  have HB := Lib.hid (ssum_bd ts hs)
  have hpl : ps.length < vs.length := by rw [hv]; simp
  clear hs hb hv
  go_enter Try.func28, Try.ntmps28
  go_wp2_with fail
  go_loop [4, 11] (fun d i => ∃ k : Nat, k ≤ ps.length ∧ i = .int .i64 k ∧ d = .int .i64 (ssum (ts.take k))) (fun _ i => vs.length - (intOf i).toNat)
  case atStart => exact ⟨0, Nat.zero_le _, rfl, rfl⟩
  case round =>
    obtain ⟨k, hk, rfl, rfl⟩ := hrel
    have hlt : k < vs.length := by omega
    by_cases hkp : k < ps.length
    · have hkt : k < ts.length := by rw [← HL.out]; exact hkp
      obtain ⟨u, hu, hiu⟩ := hl.get k hkt
      obtain ⟨ty', x', rfl⟩ := hiu.form
      have hu' : vs[k]? = some (.iface ty' x') := by rw [Hv.out, List.getElem?_append_left hkp]; exact hu
      have hcell : w.cell? ⟨g, k, none⟩ = some (.iface ty' x') := by simp [World.cell?, Hb.out, hu']
      have HC := Lib.hid (size_any w _ _ hiu)
      obtain ⟨b1, b2⟩ := HB.out k
      obtain ⟨b3, b4⟩ := HB.out (k + 1)
      have hd := Lib.hid (ssum_take ts k hkt)
      have hz : ts[k].size ≤ 1000000 := Hs.out _ (List.getElem_mem hkt)
      have hz' := ts[k].size_pos
      clear hu hiu hu'
      go_wp2_with (go_at_call 18; refine (HC.out).mono ?_; rintro e w2 ⟨rfl, rfl⟩)
      go_round
      case rel => exact ⟨k + 1, by omega, by go_num, by rw [hd.out]⟩
      case measure => simp [intOf]; omega
    · have hke : k = ps.length := by omega
      have hu' : vs[k]? = some .nilIface := by rw [Hv.out, hke]; simp
      have hcell : w.cell? ⟨g, k, none⟩ = some .nilIface := by simp [World.cell?, Hb.out, hu']
      clear hu' hke
      go_wp2_with fail
      go_ret2
      exact ⟨rfl, rfl⟩

def MadeT (w : World) (t : T) (bad : Bool) (e : Ending) (w' : World) : Prop :=
  Below w.heap.size w w' ∧ ((bad = true ∧ e = .returned (.tuple #[.nilIface, .int .i64 8])) ∨ (bad = false ∧ ∃ v, e = .returned (.tuple #[v, .int .i64 0]) ∧ IsT w' t v))
set_option maxHeartbeats 400000 in
theorem pair_bad (w : World) (a b : T) (va vb : Value) (h1 : IsT w a va) (h2 : IsT w b vb) (s1 : a.size ≤ 1000000) (s2 : b.size ≤ 1000000) (hbad : roomBad [a, b] = true) :
    Calls Try.prog 11 #[va, vb] w (MadeT w (.pair a b) (roomBad [a, b])) := by
  obtain ⟨ta, xa, rfl⟩ := h1.form
  obtain ⟨tb, xb, rfl⟩ := h2.form
  have HR := Lib.hid (room_ok [a, b] [.iface ta xa, .iface tb xb] (w.alloc (.cells #[.iface ta xa, .iface tb xb] 24)) w.heap.size (by simp) (by simp) (.cons (h1.alloc _) (.cons (h2.alloc _) .nil)) (by simp [s1, s2]) (heap_alloc_new w _))
  have HV : Hid (roomV [a, b] = .tuple #[.int .i64 0, .int .i64 8]) := by unfold roomV; rw [hbad]; exact rfl
  have HBad := Lib.hid hbad
  clear hbad h1 h2
  go_enter Try.func11, Try.ntmps11
  go_wp2_with (go_at_call 28; refine (HR.out).mono ?_; rintro e w2 ⟨hb2, rfl⟩; rw [HV.out])
  go_ret2
  exact ⟨((Below.refl _ _).alloc (Nat.le_refl _) _).trans (hb2.mono (by simp)), .inl ⟨HBad.out, rfl⟩⟩
set_option maxHeartbeats 400000 in
theorem pair_good (w : World) (a b : T) (va vb : Value) (h1 : IsT w a va) (h2 : IsT w b vb) (s1 : a.size ≤ 1000000) (s2 : b.size ≤ 1000000) (hbad : roomBad [a, b] = false) :
    Calls Try.prog 11 #[va, vb] w (MadeT w (.pair a b) (roomBad [a, b])) := by
  obtain ⟨ta, xa, rfl⟩ := h1.form
  obtain ⟨tb, xb, rfl⟩ := h2.form
  have HR := Lib.hid (room_ok [a, b] [.iface ta xa, .iface tb xb] (w.alloc (.cells #[.iface ta xa, .iface tb xb] 24)) w.heap.size (by simp) (by simp) (.cons (h1.alloc _) (.cons (h2.alloc _) .nil)) (by simp [s1, s2]) (heap_alloc_new w _))
  have HV : Hid (roomV [a, b] = .tuple #[.int .i64 (1 + a.size + b.size), .int .i64 0]) := by unfold roomV; rw [hbad]; exact rfl
  have HBad := Lib.hid hbad
  have H1 := Lib.hid h1
  have H2 := Lib.hid h2
  clear hbad h1 h2
  go_enter Try.func11, Try.ntmps11
  go_wp2_with (go_at_call 28; refine (HR.out).mono ?_; rintro e w2 ⟨hb2, rfl⟩; rw [HV.out])
  go_ret2
  have hB := ((Below.refl w.heap.size w).alloc (Nat.le_refl _) (.cells #[.iface ta xa, .iface tb xb] 24)).trans (hb2.mono (by simp))
  refine ⟨hB.alloc hB.size _, .inr ⟨HBad.out, _, rfl, ?_⟩⟩
  exact ⟨w2.heap.size, _, _, rfl, heap_alloc_new w2 _, (H1.out.below hB).alloc _, (H2.out.below hB).alloc _⟩
theorem pair_any (w : World) (a b : T) (va vb : Value) (h1 : IsT w a va) (h2 : IsT w b vb) (s1 : a.size ≤ 1000000) (s2 : b.size ≤ 1000000) :
    Calls Try.prog 11 #[va, vb] w (MadeT w (.pair a b) (roomBad [a, b])) := by
  cases h : roomBad [a, b]
  · rw [← h]; exact pair_good w a b va vb h1 h2 s1 s2 h
  · rw [← h]; exact pair_bad w a b va vb h1 h2 s1 s2 h
set_option maxHeartbeats 400000 in
theorem seal_bad (w : World) (a b : T) (va vb : Value) (h1 : IsT w a va) (h2 : IsT w b vb) (s1 : a.size ≤ 1000000) (s2 : b.size ≤ 1000000) (hbad : roomBad [a, b] = true) :
    Calls Try.prog 13 #[va, vb] w (MadeT w (.seal_ a b) (roomBad [a, b])) := by
  obtain ⟨ta, xa, rfl⟩ := h1.form
  obtain ⟨tb, xb, rfl⟩ := h2.form
  have HR := Lib.hid (room_ok [a, b] [.iface ta xa, .iface tb xb] (w.alloc (.cells #[.iface ta xa, .iface tb xb] 24)) w.heap.size (by simp) (by simp) (.cons (h1.alloc _) (.cons (h2.alloc _) .nil)) (by simp [s1, s2]) (heap_alloc_new w _))
  have HV : Hid (roomV [a, b] = .tuple #[.int .i64 0, .int .i64 8]) := by unfold roomV; rw [hbad]; exact rfl
  have HBad := Lib.hid hbad
  clear hbad h1 h2
  go_enter Try.func13, Try.ntmps13
  go_wp2_with (go_at_call 28; refine (HR.out).mono ?_; rintro e w2 ⟨hb2, rfl⟩; rw [HV.out])
  go_ret2
  exact ⟨((Below.refl _ _).alloc (Nat.le_refl _) _).trans (hb2.mono (by simp)), .inl ⟨HBad.out, rfl⟩⟩
set_option maxHeartbeats 400000 in
theorem seal_good (w : World) (a b : T) (va vb : Value) (h1 : IsT w a va) (h2 : IsT w b vb) (s1 : a.size ≤ 1000000) (s2 : b.size ≤ 1000000) (hbad : roomBad [a, b] = false) :
    Calls Try.prog 13 #[va, vb] w (MadeT w (.seal_ a b) (roomBad [a, b])) := by
  obtain ⟨ta, xa, rfl⟩ := h1.form
  obtain ⟨tb, xb, rfl⟩ := h2.form
  have HR := Lib.hid (room_ok [a, b] [.iface ta xa, .iface tb xb] (w.alloc (.cells #[.iface ta xa, .iface tb xb] 24)) w.heap.size (by simp) (by simp) (.cons (h1.alloc _) (.cons (h2.alloc _) .nil)) (by simp [s1, s2]) (heap_alloc_new w _))
  have HV : Hid (roomV [a, b] = .tuple #[.int .i64 (1 + a.size + b.size), .int .i64 0]) := by unfold roomV; rw [hbad]; exact rfl
  have HBad := Lib.hid hbad
  have H1 := Lib.hid h1
  have H2 := Lib.hid h2
  clear hbad h1 h2
  go_enter Try.func13, Try.ntmps13
  go_wp2_with (go_at_call 28; refine (HR.out).mono ?_; rintro e w2 ⟨hb2, rfl⟩; rw [HV.out])
  go_ret2
  have hB := ((Below.refl w.heap.size w).alloc (Nat.le_refl _) (.cells #[.iface ta xa, .iface tb xb] 24)).trans (hb2.mono (by simp))
  refine ⟨hB.alloc hB.size _, .inr ⟨HBad.out, _, rfl, ?_⟩⟩
  exact ⟨w2.heap.size, _, _, rfl, heap_alloc_new w2 _, (H1.out.below hB).alloc _, (H2.out.below hB).alloc _⟩
theorem seal_any (w : World) (a b : T) (va vb : Value) (h1 : IsT w a va) (h2 : IsT w b vb) (s1 : a.size ≤ 1000000) (s2 : b.size ≤ 1000000) :
    Calls Try.prog 13 #[va, vb] w (MadeT w (.seal_ a b) (roomBad [a, b])) := by
  cases h : roomBad [a, b]
  · rw [← h]; exact seal_good w a b va vb h1 h2 s1 s2 h
  · rw [← h]; exact seal_bad w a b va vb h1 h2 s1 s2 h
set_option maxHeartbeats 400000 in
theorem hash_bad (w : World) (a : T) (va : Value) (h1 : IsT w a va) (s1 : a.size ≤ 1000000) (hbad : roomBad [a] = true) :
    Calls Try.prog 12 #[va] w (MadeT w (.hash a) (roomBad [a])) := by
  obtain ⟨ta, xa, rfl⟩ := h1.form
  have HR := Lib.hid (room_ok [a] [.iface ta xa] (w.alloc (.cells #[.iface ta xa] 24)) w.heap.size (by simp) (by simp) (.cons (h1.alloc _) .nil) (by simp [s1]) (heap_alloc_new w _))
  have HV : Hid (roomV [a] = .tuple #[.int .i64 0, .int .i64 8]) := by unfold roomV; rw [hbad]; exact rfl
  have HBad := Lib.hid hbad
  clear hbad h1
  go_enter Try.func12, Try.ntmps12
  go_wp2_with (go_at_call 28; refine (HR.out).mono ?_; rintro e w2 ⟨hb2, rfl⟩; rw [HV.out])
  go_ret2
  exact ⟨((Below.refl _ _).alloc (Nat.le_refl _) _).trans (hb2.mono (by simp)), .inl ⟨HBad.out, rfl⟩⟩
set_option maxHeartbeats 400000 in
theorem hash_good (w : World) (a : T) (va : Value) (h1 : IsT w a va) (s1 : a.size ≤ 1000000) (hbad : roomBad [a] = false) :
    Calls Try.prog 12 #[va] w (MadeT w (.hash a) (roomBad [a])) := by
  obtain ⟨ta, xa, rfl⟩ := h1.form
  have HR := Lib.hid (room_ok [a] [.iface ta xa] (w.alloc (.cells #[.iface ta xa] 24)) w.heap.size (by simp) (by simp) (.cons (h1.alloc _) .nil) (by simp [s1]) (heap_alloc_new w _))
  have HV : Hid (roomV [a] = .tuple #[.int .i64 (1 + a.size), .int .i64 0]) := by unfold roomV; rw [hbad]; exact rfl
  have HBad := Lib.hid hbad
  have H1 := Lib.hid h1
  clear hbad h1
  go_enter Try.func12, Try.ntmps12
  go_wp2_with (go_at_call 28; refine (HR.out).mono ?_; rintro e w2 ⟨hb2, rfl⟩; rw [HV.out])
  go_ret2
  have hB := ((Below.refl w.heap.size w).alloc (Nat.le_refl _) (.cells #[.iface ta xa] 24)).trans (hb2.mono (by simp))
  refine ⟨hB.alloc hB.size _, .inr ⟨HBad.out, _, rfl, ?_⟩⟩
  exact ⟨w2.heap.size, _, rfl, heap_alloc_new w2 _, (H1.out.below hB).alloc _⟩
theorem hash_any (w : World) (a : T) (va : Value) (h1 : IsT w a va) (s1 : a.size ≤ 1000000) :
    Calls Try.prog 12 #[va] w (MadeT w (.hash a) (roomBad [a])) := by
  cases h : roomBad [a]
  · rw [← h]; exact hash_good w a va h1 s1 h
  · rw [← h]; exact hash_bad w a va h1 s1 h
set_option maxHeartbeats 400000 in
theorem pair_nil2 (w : World) (a : T) (va : Value) (h1 : IsT w a va) (s1 : a.size ≤ 1000000) :
    Calls Try.prog 11 #[va, .nilIface] w fun e w' => Below w.heap.size w w' ∧ e = .returned (.tuple #[.nilIface, .int .i64 2]) := by
  obtain ⟨ta, xa, rfl⟩ := h1.form
  have HR := Lib.hid (room_nil [a] [.iface ta xa, .nilIface] [.iface ta xa] [] (w.alloc (.cells #[.iface ta xa, .nilIface] 24)) w.heap.size rfl (by simp) (.cons (h1.alloc _) .nil) (by simp [s1]) (heap_alloc_new w _))
  clear h1
  go_enter Try.func11, Try.ntmps11
  go_wp2_with (go_at_call 28; refine (HR.out).mono ?_; rintro e w2 ⟨rfl, rfl⟩)
  go_ret2
  exact ⟨(Below.refl _ _).alloc (Nat.le_refl _) _, rfl⟩
set_option maxHeartbeats 400000 in
theorem pair_nil1 (w : World) (a : T) (va : Value) (h1 : IsT w a va) (s1 : a.size ≤ 1000000) :
    Calls Try.prog 11 #[.nilIface, va] w fun e w' => Below w.heap.size w w' ∧ e = .returned (.tuple #[.nilIface, .int .i64 2]) := by
  obtain ⟨ta, xa, rfl⟩ := h1.form
  have HR := Lib.hid (room_nil [] [.nilIface, .iface ta xa] [] [.iface ta xa] (w.alloc (.cells #[.nilIface, .iface ta xa] 24)) w.heap.size rfl (by simp) .nil (by simp) (heap_alloc_new w _))
  clear h1
  go_enter Try.func11, Try.ntmps11
  go_wp2_with (go_at_call 28; refine (HR.out).mono ?_; rintro e w2 ⟨rfl, rfl⟩)
  go_ret2
  exact ⟨(Below.refl _ _).alloc (Nat.le_refl _) _, rfl⟩
set_option maxHeartbeats 400000 in
theorem seal_nil2 (w : World) (a : T) (va : Value) (h1 : IsT w a va) (s1 : a.size ≤ 1000000) :
    Calls Try.prog 13 #[va, .nilIface] w fun e w' => Below w.heap.size w w' ∧ e = .returned (.tuple #[.nilIface, .int .i64 2]) := by
  obtain ⟨ta, xa, rfl⟩ := h1.form
  have HR := Lib.hid (room_nil [a] [.iface ta xa, .nilIface] [.iface ta xa] [] (w.alloc (.cells #[.iface ta xa, .nilIface] 24)) w.heap.size rfl (by simp) (.cons (h1.alloc _) .nil) (by simp [s1]) (heap_alloc_new w _))
  clear h1
  go_enter Try.func13, Try.ntmps13
  go_wp2_with (go_at_call 28; refine (HR.out).mono ?_; rintro e w2 ⟨rfl, rfl⟩)
  go_ret2
  exact ⟨(Below.refl _ _).alloc (Nat.le_refl _) _, rfl⟩
set_option maxHeartbeats 400000 in
theorem seal_nil1 (w : World) (a : T) (va : Value) (h1 : IsT w a va) (s1 : a.size ≤ 1000000) :
    Calls Try.prog 13 #[.nilIface, va] w fun e w' => Below w.heap.size w w' ∧ e = .returned (.tuple #[.nilIface, .int .i64 2]) := by
  obtain ⟨ta, xa, rfl⟩ := h1.form
  have HR := Lib.hid (room_nil [] [.nilIface, .iface ta xa] [] [.iface ta xa] (w.alloc (.cells #[.nilIface, .iface ta xa] 24)) w.heap.size rfl (by simp) .nil (by simp) (heap_alloc_new w _))
  clear h1
  go_enter Try.func13, Try.ntmps13
  go_wp2_with (go_at_call 28; refine (HR.out).mono ?_; rintro e w2 ⟨rfl, rfl⟩)
  go_ret2
  exact ⟨(Below.refl _ _).alloc (Nat.le_refl _) _, rfl⟩
set_option maxHeartbeats 400000 in
theorem hash_nil (w : World) :
    Calls Try.prog 12 #[.nilIface] w fun e w' => Below w.heap.size w w' ∧ e = .returned (.tuple #[.nilIface, .int .i64 2]) := by
  have HR := Lib.hid (room_nil [] [.nilIface] [] [] (w.alloc (.cells #[.nilIface] 24)) w.heap.size rfl (by simp) .nil (by simp) (heap_alloc_new w _))

  go_enter Try.func12, Try.ntmps12
  go_wp2_with (go_at_call 28; refine (HR.out).mono ?_; rintro e w2 ⟨rfl, rfl⟩)
  go_ret2
  exact ⟨(Below.refl _ _).alloc (Nat.le_refl _) _, rfl⟩
end Go.Proofs.Ytfbagojhnifajaa
