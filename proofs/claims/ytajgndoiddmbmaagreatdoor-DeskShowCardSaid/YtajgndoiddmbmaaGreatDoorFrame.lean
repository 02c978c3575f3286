/- From a walk to a row: a law that returns true and writes nothing that was there meets its statement. No law in sight. -/
import Derived.Test.YtajgndoiddmbmaaGreatDoorRows
import Derived.Test.YtajgndoiddmbmaaGreatDoorMBase
import Derived.ProofKit
import Derived.SizedLaws
import Derived.OpenShut
namespace Go.Proofs.YtajgndoiddmbmaaGreatDoor
open Go.ChangeShapes Go.WideShapes Go.ChangeAt Go.RowKit
set_option maxRecDepth 100000 in
theorem Tryz.own:ownKnob Tryz.prog.godebug=none:=by kernel_rfl
end Go.Proofs.YtajgndoiddmbmaaGreatDoor
