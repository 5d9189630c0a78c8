-- made by wip/tools/mk.py of this session's repo, by way of the kit's print.py: Lean checks it.
import Derived.Test.YtdeipindfhkioaaDoorOpen
import Derived.Test.YtdeipindfhkioaaDoorQ0
import Derived.WalkKit
import Derived.ProofKit
namespace Go.Proofs.YtdeipindfhkioaaDoor.Open
open Go.RowKit Go.ChangeShapes Go.WideShapes Go.Deep Go.Proofs.YtdeipindfhkioaaDoorW.PrintWords Go.Proofs.YtdeipindfhkioaaDoor.Q
theorem own : ownKnob Tryd.prog.godebug = none := by kernel_rfl
theorem laidOut : laidOutB Tryd.prog = true := by kernel_rfl
theorem op49 : Opens Tryd.prog (Kd.int .i16) 49 (fun x => (Lit.int .i16 x).wf = true) :=
  opens_int Tryd.underlying49
theorem op22 : Opens Tryd.prog (Kd.slice 49 (Kd.int .i16)) 22 (fun x => x.length ≤ maxLen ∧ x.length * 2 ≤ 140737488351232 ∧ ∀ y0 ∈ x, (Lit.int .i16 y0).wf = true) :=
  opens_slice Tryd.underlying22 (by kernel_rfl) (by kernel_rfl) op49
theorem op23 : Opens Tryd.prog (Kd.slice 22 (Kd.slice 49 (Kd.int .i16))) 23 (fun x => x.length ≤ maxLen ∧ x.length * 24 ≤ 140737488351232 ∧ ∀ y0 ∈ x, y0.length ≤ maxLen ∧ y0.length * 2 ≤ 140737488351232 ∧ ∀ y1 ∈ y0, (Lit.int .i16 y1).wf = true) :=
  opens_slice Tryd.underlying23 (by kernel_rfl) (by kernel_rfl) op22
theorem op25 : Opens Tryd.prog k25 25 (fun x => (x.f0.length ≤ maxLen ∧ x.f0.length * 2 ≤ 140737488351232 ∧ ∀ y0 ∈ x.f0, (Lit.int .i16 y0).wf = true) ∧ (x.f1.length ≤ maxLen ∧ x.f1.length * 24 ≤ 140737488351232 ∧ ∀ y1 ∈ x.f1, y1.length ≤ maxLen ∧ y1.length * 2 ≤ 140737488351232 ∧ ∀ y2 ∈ y1, (Lit.int .i16 y2).wf = true)) :=
  opens_iso _ (fun a => ⟨a.1, a.2⟩) (fun _ => rfl) (opens_struct Tryd.underlying25 (by kernel_rfl) (opensF_cons (by rfl) (by kernel_rfl) op22 (opensF_last (by rfl) (by kernel_rfl) op23)))
end Go.Proofs.YtdeipindfhkioaaDoor.Open
