-- made by wip/tools/mk.py of this session's repo, by way of the kit's print.py: Lean checks it.
import Derived.Test.YtihnefkkgbokcaaOpen
import Derived.Test.YtihnefkkgbokcaaQ0
import Derived.WalkKit
import Derived.ProofKit
namespace Go.Proofs.Ytihnefkkgbokcaa.Open
open Go.RowKit Go.ChangeShapes Go.WideShapes Go.Deep Go.Proofs.YtihnefkkgbokcaaW.PrintWords Go.Proofs.Ytihnefkkgbokcaa.Q
theorem own : ownKnob Try.prog.godebug = none := by kernel_rfl
theorem laidOut : laidOutB Try.prog = true := by kernel_rfl
theorem op63 : Opens Try.prog (Kd.int .i8) 63 (fun x => (Lit.int .i8 x).wf = true) :=
 opens_int Try.underlying63
theorem op80 : Opens Try.prog (Kd.int .i16) 80 (fun x => (Lit.int .i16 x).wf = true) :=
 opens_int Try.underlying80
theorem op84 : Opens Try.prog k84 84 (fun x => ((Lit.int .i8 x.f0).wf = true) ∧ ((Lit.int .i16 x.f1).wf = true)) :=
 opens_iso _ (fun a => ⟨a.1, a.2⟩) (fun _ => rfl) (opens_struct Try.underlying84 (by kernel_rfl) (opensF_cons (by rfl) (by kernel_rfl) op63 (opensF_last (by rfl) (by kernel_rfl) op80)))
theorem op32 : Opens Try.prog (Kd.slice 84 k84) 32 (fun x => x.length ≤ maxLen ∧ x.length * 4 ≤ 140737488351232 ∧ ∀ y0 ∈ x, ((Lit.int .i8 y0.f0).wf = true) ∧ ((Lit.int .i16 y0.f1).wf = true)) :=
 opens_slice Try.underlying32 (by kernel_rfl) (by kernel_rfl) op84
theorem op2 : Opens Try.prog (Kd.int .i64) 2 (fun x => (Lit.int .i64 x).wf = true) :=
 opens_int Try.underlying2
theorem op34 : Opens Try.prog (Kd.slice 2 (Kd.int .i64)) 34 (fun x => x.length ≤ maxLen ∧ x.length * 8 ≤ 140737488351232 ∧ ∀ y0 ∈ x, (Lit.int .i64 y0).wf = true) :=
 opens_slice Try.underlying34 (by kernel_rfl) (by kernel_rfl) op2
end Go.Proofs.Ytihnefkkgbokcaa.Open
