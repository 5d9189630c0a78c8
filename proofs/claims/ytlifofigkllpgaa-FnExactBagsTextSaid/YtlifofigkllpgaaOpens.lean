-- made by wip/tools/mk.py of this session's repo, by way of the kit's print.py: Lean checks it.
import Derived.Test.YtlifofigkllpgaaOpen
import Derived.Test.YtlifofigkllpgaaQ0
import Derived.WalkKit
import Derived.ProofKit
namespace Go.Proofs.Ytlifofigkllpgaa.Open
open Go.RowKit Go.ChangeShapes Go.WideShapes Go.Deep Go.Proofs.YtlifofigkllpgaaW.PrintWords Go.Proofs.Ytlifofigkllpgaa.Q
theorem own : ownKnob Try.prog.godebug = none := by kernel_rfl
theorem laidOut : laidOutB Try.prog = true := by kernel_rfl
theorem op2 : Opens Try.prog (Kd.int .i64) 2 (fun x => (Lit.int .i64 x).wf = true) :=
  opens_int Try.underlying2
theorem op81 : Opens Try.prog (Kd.slice 2 (Kd.int .i64)) 81 (fun x => x.length ≤ maxLen ∧ x.length * 8 ≤ 140737488351232 ∧ ∀ y0 ∈ x, (Lit.int .i64 y0).wf = true) :=
  opens_slice Try.underlying81 (by kernel_rfl) (by kernel_rfl) op2
theorem op29 : Opens Try.prog (Kd.slice 81 (Kd.slice 2 (Kd.int .i64))) 29 (fun x => x.length ≤ maxLen ∧ x.length * 24 ≤ 140737488351232 ∧ ∀ y0 ∈ x, y0.length ≤ maxLen ∧ y0.length * 8 ≤ 140737488351232 ∧ ∀ y1 ∈ y0, (Lit.int .i64 y1).wf = true) :=
  opens_slice Try.underlying29 (by kernel_rfl) (by kernel_rfl) op81
end Go.Proofs.Ytlifofigkllpgaa.Open
