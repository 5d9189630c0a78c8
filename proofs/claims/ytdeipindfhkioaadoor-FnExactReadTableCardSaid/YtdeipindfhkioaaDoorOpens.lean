-- made by wip/tools/mk.py of this session's repo, by way of the kit's print.py: Lean checks it.
import Derived.Test.YtdeipindfhkioaaDoorOpen
import Derived.Test.YtdeipindfhkioaaDoorQ0
import Derived.WalkKit
import Derived.ProofKit
namespace Go.Proofs.YtdeipindfhkioaaDoor.Open
open Go.RowKit Go.ChangeShapes Go.WideShapes Go.Deep Go.Proofs.YtdeipindfhkioaaDoorW.PrintWords Go.Proofs.YtdeipindfhkioaaDoor.Q
theorem own : ownKnob Tryd.prog.godebug = none := by kernel_rfl
theorem laidOut : laidOutB Tryd.prog = true := by kernel_rfl
theorem op9 : Opens Tryd.prog Kd.string 9 (fun x => x.size ≤ 140737488351232) :=
 opens_string Tryd.underlying9
end Go.Proofs.YtdeipindfhkioaaDoor.Open
