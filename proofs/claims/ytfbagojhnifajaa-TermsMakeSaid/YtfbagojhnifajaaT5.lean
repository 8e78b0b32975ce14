/- Depth. -/
import Derived.Test.YtfbagojhnifajaaT4
namespace Go.Proofs.Ytfbagojhnifajaa
open Go.RowKit
set_option maxRecDepth 100000
set_option linter.unusedVariables false
set_option linter.unusedSimpArgs false
def mx (a b : Int) : Int := if a < b then b else a
def T.depth : T → Int
  | .atom _ => 1
  | .pair a b => mx (mx 0 a.depth) b.depth + 1
  | .hash a => mx 0 a.depth + 1
  | .seal_ a b => mx (mx 0 a.depth) b.depth + 1
def dmax (ts : List T) : Int := ts.foldl (fun m t => mx m t.depth) 0
theorem T.depth_eq (t : T) : t.depth = dmax t.parts + 1 := by cases t <;> rfl
theorem T.size_pos (t : T) : 1 ≤ t.size := by induction t <;> simp only [T.size] <;> omega
theorem T.depth_size (t : T) : 1 ≤ t.depth ∧ t.depth ≤ t.size := by
  induction t with
  | atom s => simp [T.depth, T.size]
  | pair a b iha ihb =>
    have := a.size_pos; have := b.size_pos
    simp only [T.depth, T.size, mx]; (repeat' split) <;> omega
  | hash a iha => simp only [T.depth, T.size, mx]; (repeat' split) <;> omega
  | seal_ a b iha ihb =>
    have := a.size_pos; have := b.size_pos
    simp only [T.depth, T.size, mx]; (repeat' split) <;> omega
theorem T.part_size {t p : T} (h : p ∈ t.parts) : p.size < t.size := by
  cases t with
  | atom s => simp [T.parts] at h
  | pair a b =>
    have := a.size_pos; have := b.size_pos
    simp only [T.parts, List.mem_cons, List.not_mem_nil, or_false] at h
    simp only [T.size]; rcases h with rfl | rfl <;> omega
  | hash a =>
    simp only [T.parts, List.mem_cons, List.not_mem_nil, or_false] at h
    simp only [T.size]; subst h; omega
  | seal_ a b =>
    have := a.size_pos; have := b.size_pos
    simp only [T.parts, List.mem_cons, List.not_mem_nil, or_false] at h
    simp only [T.size]; rcases h with rfl | rfl <;> omega
theorem dmax_take (ts : List T) (k : Nat) (h : k < ts.length) : dmax (ts.take (k + 1)) = mx (dmax (ts.take k)) ts[k].depth := by
  unfold dmax
  rw [List.take_succ_eq_append_getElem h, List.foldl_append]; rfl
theorem mx_bd {a b c : Int} (h1 : a ≤ c) (h2 : b ≤ c) (h3 : 0 ≤ a) : 0 ≤ mx a b ∧ mx a b ≤ c := by unfold mx; split <;> omega
theorem dmax_bd (ts : List T) (c : Int) (hc : 0 ≤ c) (h : ∀ t ∈ ts, t.size ≤ c) (k : Nat) : 0 ≤ dmax (ts.take k) ∧ dmax (ts.take k) ≤ c := by
  induction k with
  | zero => exact ⟨by simp [dmax], by simpa [dmax] using hc⟩
  | succ k ih =>
    by_cases hk : k < ts.length
    · rw [dmax_take ts k hk]
      have := h _ (List.getElem_mem hk)
      have := ts[k].depth_size
      exact mx_bd ih.2 (by omega) ih.1
    · rw [List.take_of_length_le (show ts.length ≤ k + 1 by omega)]
      rw [List.take_of_length_le (show ts.length ≤ k by omega)] at ih
      exact ih
theorem mx2 (k k' : IntKind) (x y : Int) : Builtin.max2 (.int k x) (.int k' y) = pure (.int k (mx x y)) := by
  simp only [Builtin.max2, gt_iff_lt, mx]
theorem max_two (ats : Array TypeId) (ty : TypeId) (a b : Value) : Builtin.max_ ats ty #[a, b] = (Builtin.max2 a b >>= fun s => pure s) := by simp only [Builtin.max_, List.foldlM_cons, List.foldlM_nil]
attribute [go_sem] mx2 max_two
def SlR (w : World) (vs : List Value) (v : Value) : Prop := ∃ A, v = .slice A vs.length vs.length ∧ ∀ (k : Nat) u, vs[k]? = some u → ∃ g, A = some ⟨g, 0, none⟩ ∧ w.cell? ⟨g, k, none⟩ = some u ∧ g < w.heap.size
theorem SlP.reads {w w' : World} {vs : List Value} {v : Value} (h : SlP w w' vs v) : SlR w' vs v := by
  rcases h with ⟨rfl, rfl, _⟩ | ⟨_, g, rfl, hb, _⟩
  · exact ⟨none, rfl, fun k u hu => by simp at hu⟩
  · exact ⟨_, rfl, fun k u hu => ⟨g, rfl, by simp [World.cell?, hb, hu], lt_of_some hb⟩⟩
theorem parts_len (t : T) : t.parts.length ≤ 2 := by cases t <;> simp [T.parts]
set_option maxHeartbeats 400000 in
theorem depth_step (t : T) (hs : t.size ≤ 1000000) (ih : ∀ p ∈ t.parts, ∀ (w : World) (v : Value), IsT w p v →
    Calls Try.prog 19 #[v] w fun e w' => Below w.heap.size w w' ∧ e = .returned (.int .i64 p.depth)) (w : World) (v : Value) (h : IsT w t v) :
    Calls Try.prog 19 #[v] w fun e w' => Below w.heap.size w w' ∧ e = .returned (.int .i64 t.depth) := by
  have h16 := Lib.hid (parts_any w t v h)
  obtain ⟨ty, x, rfl⟩ := h.form
  have hb := Lib.hid (dmax_bd t.parts 1000000 (by omega) (fun p hp => by have := T.part_size hp; omega))
  have he := Lib.hid t.depth_eq
  have IH := Lib.hid ih
  clear h ih hs
  go_enter Try.func19, Try.ntmps19
  go_wp2_with (go_at_call 16; refine (h16.out).mono ?_; rintro e w1 ⟨hb1, sl, vs, rfl, hsl, hil⟩; obtain ⟨A, rfl, hc⟩ := hsl.reads; replace hil := hil.keep (fun h => IsT.below hb1 h); have hv2 : vs.length ≤ 2 := (by rw [hil.length]; exact parts_len t); have HL := Lib.hid hil.length; have Hc := Lib.hid hc; clear hc hsl h16)
  go_loopw [3, 11] (fun d i wr => ∃ k : Nat, k ≤ vs.length ∧ i = .int .i64 k ∧ d = .int .i64 (dmax (t.parts.take k)) ∧ Below w1.heap.size w1 wr) (fun _ i _ => vs.length - (intOf i).toNat)
  case atStart => exact ⟨0, Nat.zero_le _, rfl, rfl, Below.refl _ _⟩
  case round =>
    obtain ⟨k, hk, rfl, rfl, hbr⟩ := hrel
    by_cases hlt : k < vs.length
    · have hkt : k < t.parts.length := by rw [← HL.out]; exact hlt
      obtain ⟨u, hu, hiu⟩ := hil.get k hkt
      obtain ⟨g, rfl, hcell, hg⟩ := Hc.out k u hu
      obtain ⟨ty', x', rfl⟩ := hiu.form
      have hcell' : wr.cell? ⟨g, k, none⟩ = some (.iface ty' x') := (hbr.cell (p := ⟨g, k, none⟩) hg).trans hcell
      have HC := Lib.hid (IH.out _ (List.getElem_mem hkt) wr _ (hiu.below hbr))
      obtain ⟨b1, b2⟩ := hb.out k
      obtain ⟨b3, b4⟩ := hb.out (k + 1)
      have hd := Lib.hid (dmax_take t.parts k hkt)
      clear hcell hu hiu
      go_wp2_with (go_at_call 19; refine (HC.out).mono ?_; rintro e w2 ⟨hb2, rfl⟩)
      go_roundw
      case rel => exact ⟨k + 1, by omega, by go_num, by rw [hd.out], hbr.trans (hb2.mono hbr.size)⟩
      case measure => simp [intOf]; omega
    · have hke : k = t.parts.length := by rw [← HL.out]; omega
      have hd : Hid (t.depth = dmax (t.parts.take k) + 1) := by rw [he.out, hke, List.take_length]; exact rfl
      obtain ⟨b1, b2⟩ := hb.out k
      clear hke
      go_wp2_with fail
      go_ret
      exact ⟨hb1.trans (hbr.mono hb1.size), by rw [hd.out]; rfl⟩
theorem depth_any : ∀ (t : T), t.size ≤ 1000000 → ∀ (w : World) (v : Value), IsT w t v →
    Calls Try.prog 19 #[v] w fun e w' => Below w.heap.size w w' ∧ e = .returned (.int .i64 t.depth) := by
  intro t
  induction t with
  | atom s => intro hs; exact depth_step _ hs (by simp [T.parts])
  | pair a b iha ihb =>
    intro hs
    have := a.size_pos; have := b.size_pos
    simp only [T.size] at hs
    exact depth_step _ (by simpa only [T.size] using hs) (by simp only [T.parts, List.mem_cons, List.not_mem_nil, or_false]; rintro p (rfl | rfl); exact iha (by omega); exact ihb (by omega))
  | hash a iha =>
    intro hs
    simp only [T.size] at hs
    exact depth_step _ (by simpa only [T.size] using hs) (by simp only [T.parts, List.mem_cons, List.not_mem_nil, or_false]; rintro p rfl; exact iha (by omega))
  | seal_ a b iha ihb =>
    intro hs
    have := a.size_pos; have := b.size_pos
    simp only [T.size] at hs
    exact depth_step _ (by simpa only [T.size] using hs) (by simp only [T.parts, List.mem_cons, List.not_mem_nil, or_false]; rintro p (rfl | rfl); exact iha (by omega); exact ihb (by omega))
set_option maxHeartbeats 400000 in
theorem depth_nil (w : World) :
    Calls Try.prog 19 #[.nilIface] w fun e w' => w = w' ∧ e = .returned (.int .i64 0) := by
  go_enter Try.func19, Try.ntmps19
  go_wp2_with fail
  go_ret
  exact ⟨rfl, rfl⟩
end Go.Proofs.Ytfbagojhnifajaa
