import Derived.Test.YtlfnpnkpjdmonaaDoorRows
import Derived.ProofKit
import Derived.OpenShut
import Derived.ShutString
import Derived.ChangeOld
import Derived.Carry
import Derived.SizedLaws
import Derived.Lib.SmallJoins
set_option linter.unusedVariables false
set_option linter.unusedSimpArgs false
namespace Go.Proofs.YtlfnpnkpjdmonaaDoor.Facts
/-! Closed facts of the whole translation, asked once for all laws. -/
theorem and_t {a b : Bool} (ha : a = true) (hb : b = true) : (a && b) = true := by rw [ha, hb]; rfl
theorem own : ownKnob Tryd.prog.godebug = none := by kernel_rfl
theorem laidOut : laidOutB Tryd.pinned.checked.prog = true := by kernel_rfl
theorem mapsRowed : Go.mapsRowed Tryd.pinned.checked.prog = true := by kernel_rfl
theorem plainKeys : Tryd.pinned.checked.prog.plainKeys = true := by kernel_rfl
theorem stopsHeard : Tryd.pinned.checked.prog.stopsHeard = true := by kernel_rfl
theorem mayEnter : Tryd.pinned.checked.prog.mayEnter = true := by kernel_rfl
theorem lifts : Tryd.pinned.checked.prog.liftsFinal = false := by kernel_rfl
theorem make_ : Tryd.pinned.checked.prog.make = some .cut := by kernel_rfl
end Go.Proofs.YtlfnpnkpjdmonaaDoor.Facts
