-- made by wip/tools/mk.py of this session's repo, by way of the kit's print.py: Lean checks it.
import Derived.Test.YtihnefkkgbokcaaDoorOpen
import Derived.Test.YtihnefkkgbokcaaDoorQ0
import Derived.WalkKit
import Derived.ProofKit
namespace Go.Proofs.YtihnefkkgbokcaaDoor.Open
open Go.RowKit Go.ChangeShapes Go.WideShapes Go.Deep Go.Proofs.YtihnefkkgbokcaaDoorW.PrintWords Go.Proofs.YtihnefkkgbokcaaDoor.Q
theorem own : ownKnob Tryd.prog.godebug = none := by kernel_rfl
theorem laidOut : laidOutB Tryd.prog = true := by kernel_rfl
theorem op37 : Opens Tryd.prog (Kd.int .i8) 37 (fun x => (Lit.int .i8 x).wf = true) :=
  opens_int Tryd.underlying37
theorem op38 : Opens Tryd.prog (Kd.int .i16) 38 (fun x => (Lit.int .i16 x).wf = true) :=
  opens_int Tryd.underlying38
theorem op48 : Opens Tryd.prog k48 48 (fun x => ((Lit.int .i8 x.f0).wf = true) ∧ ((Lit.int .i16 x.f1).wf = true)) :=
  opens_iso _ (fun a => ⟨a.1, a.2⟩) (fun _ => rfl) (opens_struct Tryd.underlying48 (by kernel_rfl) (opensF_cons (by rfl) (by kernel_rfl) op37 (opensF_last (by rfl) (by kernel_rfl) op38)))
theorem op28 : Opens Tryd.prog (Kd.slice 48 k48) 28 (fun x => x.length ≤ maxLen ∧ x.length * 4 ≤ 140737488351232 ∧ ∀ y0 ∈ x, ((Lit.int .i8 y0.f0).wf = true) ∧ ((Lit.int .i16 y0.f1).wf = true)) :=
  opens_slice Tryd.underlying28 (by kernel_rfl) (by kernel_rfl) op48
end Go.Proofs.YtihnefkkgbokcaaDoor.Open
