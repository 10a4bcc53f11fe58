import Derived.Test.YtlfnpnkpjdmonaaRows
import Derived.ProofKit
import Derived.OpenShut
import Derived.ShutString
import Derived.ChangeOld
import Derived.Carry
import Derived.SizedLaws
import Derived.Lib.SmallJoins
set_option linter.unusedVariables false
set_option linter.unusedSimpArgs false
namespace Go.Proofs.Ytlfnpnkpjdmonaa.Facts
/-! Closed facts of the whole translation, asked once for all laws. -/
theorem and_t {a b : Bool} (ha : a = true) (hb : b = true) : (a && b) = true := by rw [ha, hb]; rfl
theorem own : ownKnob Try.prog.godebug = none := by kernel_rfl
theorem laidOut : laidOutB Try.pinned.checked.prog = true := by kernel_rfl
theorem mapsRowed : Go.mapsRowed Try.pinned.checked.prog = true := by kernel_rfl
theorem plainKeys : Try.pinned.checked.prog.plainKeys = true := by kernel_rfl
theorem stopsHeard : Try.pinned.checked.prog.stopsHeard = true := by kernel_rfl
theorem mayEnter : Try.pinned.checked.prog.mayEnter = true := by kernel_rfl
theorem lifts : Try.pinned.checked.prog.liftsFinal = false := by kernel_rfl
theorem make_ : Try.pinned.checked.prog.make = some .cut := by kernel_rfl
end Go.Proofs.Ytlfnpnkpjdmonaa.Facts
