-- made by wip/tools/mk.py of this session's repo, by way of the kit's print.py: Lean checks it.
import Derived.Test.YtlifofigkllpgaaOpen
import Derived.Test.YtlifofigkllpgaaQ0
import Derived.WalkKit
import Derived.ProofKit
namespace Go.Proofs.Ytlifofigkllpgaa.Open
open Go.RowKit Go.ChangeShapes Go.WideShapes Go.Deep Go.Proofs.YtlifofigkllpgaaW.PrintWords Go.Proofs.Ytlifofigkllpgaa.Q
theorem own : ownKnob Try.prog.godebug = none := by kernel_rfl
theorem laidOut : laidOutB Try.prog = true := by kernel_rfl
theorem op2 : Opens Try.prog (Kd.int .i64) 2 (fun x => (Lit.int .i64 x).wf = true) :=
  opens_int Try.underlying2
theorem op81 : Opens Try.prog (Kd.slice 2 (Kd.int .i64)) 81 (fun x => x.length ≤ maxLen ∧ x.length * 8 ≤ 140737488351232 ∧ ∀ y0 ∈ x, (Lit.int .i64 y0).wf = true) :=
  opens_slice Try.underlying81 (by kernel_rfl) (by kernel_rfl) op2
theorem op29 : Opens Try.prog (Kd.slice 81 (Kd.slice 2 (Kd.int .i64))) 29 (fun x => x.length ≤ maxLen ∧ x.length * 24 ≤ 140737488351232 ∧ ∀ y0 ∈ x, y0.length ≤ maxLen ∧ y0.length * 8 ≤ 140737488351232 ∧ ∀ y1 ∈ y0, (Lit.int .i64 y1).wf = true) :=
  opens_slice Try.underlying29 (by kernel_rfl) (by kernel_rfl) op81
theorem op41 : Opens Try.prog (Kd.int .i8) 41 (fun x => (Lit.int .i8 x).wf = true) :=
  opens_int Try.underlying41
theorem op43 : Opens Try.prog k43 43 (fun x => ((Lit.int .i8 x.f0).wf = true) ∧ ((Lit.int .i8 x.f1).wf = true)) :=
  opens_iso _ (fun a => ⟨a.1, a.2⟩) (fun _ => rfl) (opens_struct Try.underlying43 (by kernel_rfl) (opensF_cons (by rfl) (by kernel_rfl) op41 (opensF_last (by rfl) (by kernel_rfl) op41)))
theorem op49 : Opens Try.prog (Kd.slice 43 k43) 49 (fun x => x.length ≤ maxLen ∧ x.length * 2 ≤ 140737488351232 ∧ ∀ y0 ∈ x, ((Lit.int .i8 y0.f0).wf = true) ∧ ((Lit.int .i8 y0.f1).wf = true)) :=
  opens_slice Try.underlying49 (by kernel_rfl) (by kernel_rfl) op43
end Go.Proofs.Ytlifofigkllpgaa.Open
