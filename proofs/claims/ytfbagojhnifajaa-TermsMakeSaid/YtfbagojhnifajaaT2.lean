/- Text. -/
import Derived.Test.YtfbagojhnifajaaT1
import Derived.Deep.RegionWith
namespace Go.Proofs.Ytfbagojhnifajaa
open Go.RowKit
set_option maxRecDepth 100000
set_option linter.unusedVariables false
set_option linter.unusedSimpArgs false
def T.text : T → ByteArray
  | .atom s => s
  | .pair a b => ⟨#[40]⟩ ++ a.text ++ ⟨#[32]⟩ ++ b.text ++ ⟨#[41]⟩
  | .hash a => ⟨#[35]⟩ ++ a.text
  | .seal_ a b => ⟨#[91]⟩ ++ a.text ++ ⟨#[32]⟩ ++ b.text ++ ⟨#[93]⟩
theorem IsT.heap {w w' : World} (h : w'.heap = w.heap) : ∀ {t : T} {v : Value}, IsT w t v → IsT w' t v
  | .atom _, _, h1 => h1
  | .pair _ _, _, ⟨g, va, vb, e, hb, h1, h2⟩ => ⟨g, va, vb, e, by rw [h]; exact hb, IsT.heap h h1, IsT.heap h h2⟩
  | .hash _, _, ⟨g, va, e, hb, h1⟩ => ⟨g, va, e, by rw [h]; exact hb, IsT.heap h h1⟩
  | .seal_ _ _, _, ⟨g, va, vb, e, hb, h1, h2⟩ => ⟨g, va, vb, e, by rw [h]; exact hb, IsT.heap h h1, IsT.heap h h2⟩
theorem IsT.drewN {w : World} {t : T} {v : Value} (h : IsT w t v) (n : Nat) : IsT (w.drewN n) t v := IsT.heap (w := w) (w' := w.drewN n) rfl h

theorem text_size_pair (a b : T) : (T.pair a b).text.size = a.text.size + b.text.size + 3 := by simp only [T.text, ByteArray.size_append]; show 1 + _ + 1 + _ + 1 = _; omega
theorem text_size_seal (a b : T) : (T.seal_ a b).text.size = a.text.size + b.text.size + 3 := by simp only [T.text, ByteArray.size_append]; show 1 + _ + 1 + _ + 1 = _; omega
theorem text_size_hash (a : T) : (T.hash a).text.size = a.text.size + 1 := by simp only [T.text, ByteArray.size_append]; show 1 + _ = _; omega
set_option maxHeartbeats 400000 in
theorem text_any : ∀ (t : T) (w : World) (v : Value), IsT w t v → t.text.size ≤ 1000000 →
    Calls Try.prog 20 #[v] w fun e w' => e = .returned (.string t.text) ∧ ∃ n, w' = w.drewN n := by
  intro t
  induction t with
  | atom s =>
    intro w v h _
    obtain rfl := h
    go_enter Try.func20, Try.ntmps20
    go_wp2_with fail
    go_ret
    exact ⟨rfl, 0, rfl⟩
  | pair a b iha ihb =>
    rintro w v ⟨g, va, vb, rfl, hb, h1, h2⟩ hs
    rw [text_size_pair] at hs
    have hc0 : w.cell? ⟨g, 0, none⟩ = some va := by simp [World.cell?, hb]
    have hc1 : w.cell? ⟨g, 1, none⟩ = some vb := by simp [World.cell?, hb]
    have sa : (a.text.size : Int) ≤ 1000000 := by omega
    have sb : (b.text.size : Int) ≤ 1000000 := by omega
    have ha := Lib.hid (fun n => iha (w.drewN n) va (h1.drewN n) (by omega))
    have hb' := Lib.hid (fun n => ihb (w.drewN n) vb (h2.drewN n) (by omega))
    clear hb iha ihb hs
    go_enter Try.func20, Try.ntmps20
    clear h1 h2
    go_wp2_with fail
    go_quiet ((first | (go_at_call_of 20 va; exact Calls.quiet_of (ha.out _)) | (go_at_call_of 20 vb; exact Calls.quiet_of (hb'.out _))))
    go_wp2_with fail
    go_ret
    exact ⟨rfl, _, rfl⟩
  | hash a iha =>
    rintro w v ⟨g, va, rfl, hb, h1⟩ hs
    rw [text_size_hash] at hs
    have hc0 : w.cell? ⟨g, 0, none⟩ = some va := by simp [World.cell?, hb]
    have sa : (a.text.size : Int) ≤ 1000000 := by omega
    have ha := iha w va h1 (by omega)
    clear hb iha hs
    go_enter Try.func20, Try.ntmps20
    go_wp2_with (go_at_call 20; refine (ha).mono ?_; rintro e w' ⟨rfl, n, rfl⟩)
    go_ret
    exact ⟨rfl, _, rfl⟩
  | seal_ a b iha ihb =>
    rintro w v ⟨g, va, vb, rfl, hb, h1, h2⟩ hs
    rw [text_size_seal] at hs
    have hc0 : w.cell? ⟨g, 0, none⟩ = some va := by simp [World.cell?, hb]
    have hc1 : w.cell? ⟨g, 1, none⟩ = some vb := by simp [World.cell?, hb]
    have sa : (a.text.size : Int) ≤ 1000000 := by omega
    have sb : (b.text.size : Int) ≤ 1000000 := by omega
    have ha := Lib.hid (fun n => iha (w.drewN n) va (h1.drewN n) (by omega))
    have hb' := Lib.hid (fun n => ihb (w.drewN n) vb (h2.drewN n) (by omega))
    clear hb iha ihb hs
    go_enter Try.func20, Try.ntmps20
    clear h1 h2
    go_wp2_with fail
    go_quiet ((first | (go_at_call_of 20 va; exact Calls.quiet_of (ha.out _)) | (go_at_call_of 20 vb; exact Calls.quiet_of (hb'.out _))))
    go_wp2_with fail
    go_ret
    exact ⟨rfl, _, rfl⟩
end Go.Proofs.Ytfbagojhnifajaa
