/- Facts on type assertions at the four kinds of terms. -/
import Derived.Test.YtfbagojhnifajaaProg
import Derived.WalkKit
import Derived.KernelRfl
namespace Go.Proofs.Ytfbagojhnifajaa
open Go.RowKit
set_option maxRecDepth 100000
set_option linter.unusedVariables false
set_option linter.unusedSimpArgs false
def notIface : TypeDesc → Bool
  | .interface _ => false
  | _ => true
theorem ta_yes {P : Program} (A X : TypeId) {t : TypeDesc} (v : Value) (w : World) (h : P.underlying A = some t) (hn : notIface t = true) :
    Sem.run P (Instr.typeAssert (.iface A v) X A true) w = .ok (.tuple #[v, .bool true]) w := by
  unfold Instr.typeAssert
  cases t <;> simp [run_underlying h] <;> (simp [notIface] at hn)
theorem ta_no {P : Program} (A X B : TypeId) {t : TypeDesc} {z : Value} (v : Value) (w : World) (h : P.underlying A = some t) (hn : notIface t = true) (hb : B ≠ A) (hi : (P.info? A).map (fun i => i.zero) = some (some z)) :
    Sem.run P (Instr.typeAssert (.iface B v) X A true) w = .ok (.tuple #[z, .bool false]) w := by
  cases hI : P.info? A with
  | none => rw [hI] at hi; cases hi
  | some i =>
    rw [hI] at hi
    have hz : i.zero = some z := by simpa using hi
    unfold Instr.typeAssert
    cases t <;> simp [run_underlying h, hb, zeroValue, typeInfo, hI, hz] <;> (simp [notIface] at hn)
theorem ta_nil {P : Program} (A X : TypeId) {t : TypeDesc} {z : Value} (w : World) (h : P.underlying A = some t) (hn : notIface t = true) (hi : (P.info? A).map (fun i => i.zero) = some (some z)) :
    Sem.run P (Instr.typeAssert .nilIface X A true) w = .ok (.tuple #[z, .bool false]) w := by
  cases hI : P.info? A with
  | none => rw [hI] at hi; cases hi
  | some i =>
    rw [hI] at hi
    have hz : i.zero = some z := by simpa using hi
    unfold Instr.typeAssert
    cases t <;> simp [run_underlying h, zeroValue, typeInfo, hI, hz] <;> (simp [notIface] at hn)
theorem z42 : (Try.prog.info? 42).map (fun i => i.zero) = some (some (.string ⟨#[]⟩)) := by kernel_rfl
theorem z53 : (Try.prog.info? 53).map (fun i => i.zero) = some (some (.pointer none)) := by kernel_rfl
theorem z56 : (Try.prog.info? 56).map (fun i => i.zero) = some (some (.pointer none)) := by kernel_rfl
theorem z59 : (Try.prog.info? 59).map (fun i => i.zero) = some (some (.pointer none)) := by kernel_rfl
theorem ta42nil (w : World) : Sem.run Try.prog (Instr.typeAssert .nilIface 24 42 true) w = .ok (.tuple #[.string ⟨#[]⟩, .bool false]) w := ta_nil 42 24 w Try.underlying42 rfl z42
theorem ta42y (v : Value) (w : World) : Sem.run Try.prog (Instr.typeAssert (.iface 42 v) 24 42 true) w = .ok (.tuple #[v, .bool true]) w := ta_yes 42 24 v w Try.underlying42 rfl
theorem ta42n53 (v : Value) (w : World) : Sem.run Try.prog (Instr.typeAssert (.iface 53 v) 24 42 true) w = .ok (.tuple #[.string ⟨#[]⟩, .bool false]) w := ta_no 42 24 53 v w Try.underlying42 rfl (by decide) z42
theorem ta42n56 (v : Value) (w : World) : Sem.run Try.prog (Instr.typeAssert (.iface 56 v) 24 42 true) w = .ok (.tuple #[.string ⟨#[]⟩, .bool false]) w := ta_no 42 24 56 v w Try.underlying42 rfl (by decide) z42
theorem ta42n59 (v : Value) (w : World) : Sem.run Try.prog (Instr.typeAssert (.iface 59 v) 24 42 true) w = .ok (.tuple #[.string ⟨#[]⟩, .bool false]) w := ta_no 42 24 59 v w Try.underlying42 rfl (by decide) z42
theorem ta53nil (w : World) : Sem.run Try.prog (Instr.typeAssert .nilIface 24 53 true) w = .ok (.tuple #[.pointer none, .bool false]) w := ta_nil 53 24 w Try.underlying53 rfl z53
theorem ta53n42 (v : Value) (w : World) : Sem.run Try.prog (Instr.typeAssert (.iface 42 v) 24 53 true) w = .ok (.tuple #[.pointer none, .bool false]) w := ta_no 53 24 42 v w Try.underlying53 rfl (by decide) z53
theorem ta53y (v : Value) (w : World) : Sem.run Try.prog (Instr.typeAssert (.iface 53 v) 24 53 true) w = .ok (.tuple #[v, .bool true]) w := ta_yes 53 24 v w Try.underlying53 rfl
theorem ta53n56 (v : Value) (w : World) : Sem.run Try.prog (Instr.typeAssert (.iface 56 v) 24 53 true) w = .ok (.tuple #[.pointer none, .bool false]) w := ta_no 53 24 56 v w Try.underlying53 rfl (by decide) z53
theorem ta53n59 (v : Value) (w : World) : Sem.run Try.prog (Instr.typeAssert (.iface 59 v) 24 53 true) w = .ok (.tuple #[.pointer none, .bool false]) w := ta_no 53 24 59 v w Try.underlying53 rfl (by decide) z53
theorem ta56nil (w : World) : Sem.run Try.prog (Instr.typeAssert .nilIface 24 56 true) w = .ok (.tuple #[.pointer none, .bool false]) w := ta_nil 56 24 w Try.underlying56 rfl z56
theorem ta56n42 (v : Value) (w : World) : Sem.run Try.prog (Instr.typeAssert (.iface 42 v) 24 56 true) w = .ok (.tuple #[.pointer none, .bool false]) w := ta_no 56 24 42 v w Try.underlying56 rfl (by decide) z56
theorem ta56n53 (v : Value) (w : World) : Sem.run Try.prog (Instr.typeAssert (.iface 53 v) 24 56 true) w = .ok (.tuple #[.pointer none, .bool false]) w := ta_no 56 24 53 v w Try.underlying56 rfl (by decide) z56
theorem ta56y (v : Value) (w : World) : Sem.run Try.prog (Instr.typeAssert (.iface 56 v) 24 56 true) w = .ok (.tuple #[v, .bool true]) w := ta_yes 56 24 v w Try.underlying56 rfl
theorem ta56n59 (v : Value) (w : World) : Sem.run Try.prog (Instr.typeAssert (.iface 59 v) 24 56 true) w = .ok (.tuple #[.pointer none, .bool false]) w := ta_no 56 24 59 v w Try.underlying56 rfl (by decide) z56
theorem ta59nil (w : World) : Sem.run Try.prog (Instr.typeAssert .nilIface 24 59 true) w = .ok (.tuple #[.pointer none, .bool false]) w := ta_nil 59 24 w Try.underlying59 rfl z59
theorem ta59n42 (v : Value) (w : World) : Sem.run Try.prog (Instr.typeAssert (.iface 42 v) 24 59 true) w = .ok (.tuple #[.pointer none, .bool false]) w := ta_no 59 24 42 v w Try.underlying59 rfl (by decide) z59
theorem ta59n53 (v : Value) (w : World) : Sem.run Try.prog (Instr.typeAssert (.iface 53 v) 24 59 true) w = .ok (.tuple #[.pointer none, .bool false]) w := ta_no 59 24 53 v w Try.underlying59 rfl (by decide) z59
theorem ta59n56 (v : Value) (w : World) : Sem.run Try.prog (Instr.typeAssert (.iface 56 v) 24 59 true) w = .ok (.tuple #[.pointer none, .bool false]) w := ta_no 59 24 56 v w Try.underlying59 rfl (by decide) z59
theorem ta59y (v : Value) (w : World) : Sem.run Try.prog (Instr.typeAssert (.iface 59 v) 24 59 true) w = .ok (.tuple #[v, .bool true]) w := ta_yes 59 24 v w Try.underlying59 rfl
theorem ta_sure {P : Program} (A X : TypeId) {t : TypeDesc} (v : Value) (w : World) (h : P.underlying A = some t) (hn : notIface t = true) :
    Sem.run P (Instr.typeAssert (.iface A v) X A false) w = .ok v w := by
  unfold Instr.typeAssert
  cases t <;> simp [run_underlying h] <;> (simp [notIface] at hn)
theorem ta53f (v : Value) (w : World) : Sem.run Try.prog (Instr.typeAssert (.iface 53 v) 24 53 false) w = .ok v w := ta_sure 53 24 v w Try.underlying53 rfl
theorem ta59f (v : Value) (w : World) : Sem.run Try.prog (Instr.typeAssert (.iface 59 v) 24 59 false) w = .ok v w := ta_sure 59 24 v w Try.underlying59 rfl
attribute [go_sem] ta53f ta59f ta42nil ta42y ta42n53 ta42n56 ta42n59 ta53nil ta53n42 ta53y ta53n56 ta53n59 ta56nil ta56n42 ta56n53 ta56y ta56n59 ta59nil ta59n42 ta59n53 ta59n56 ta59y
end Go.Proofs.Ytfbagojhnifajaa
