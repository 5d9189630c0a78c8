-- made by wip/tools/mk.py of this session's repo, by way of the kit's print.py: Lean checks it.
import Derived.Test.YtehphbaobhnfjaaOpen
import Derived.Test.YtehphbaobhnfjaaQ0
import Derived.WalkKit
import Derived.ProofKit
namespace Go.Proofs.Ytehphbaobhnfjaa.Open
open Go.RowKit Go.ChangeShapes Go.WideShapes Go.Deep Go.Proofs.YtehphbaobhnfjaaW.PrintWords Go.Proofs.Ytehphbaobhnfjaa.Q
theorem own : ownKnob Try.prog.godebug = none := by kernel_rfl
theorem laidOut : laidOutB Try.prog = true := by kernel_rfl
theorem op2 : Opens Try.prog (Kd.int .i64) 2 (fun x => (Lit.int .i64 x).wf = true) :=
  opens_int Try.underlying2
theorem op38 : Opens Try.prog (Kd.int .i8) 38 (fun x => (Lit.int .i8 x).wf = true) :=
  opens_int Try.underlying38
theorem op39 : Opens Try.prog (Kd.int .i16) 39 (fun x => (Lit.int .i16 x).wf = true) :=
  opens_int Try.underlying39
theorem op21 : Opens Try.prog (Kd.int .i32) 21 (fun x => (Lit.int .i32 x).wf = true) :=
  opens_int Try.underlying21
theorem op41 : Opens Try.prog k41 41 (fun x => ((Lit.int .i8 x.f0).wf = true) ∧ ((Lit.int .i16 x.f1).wf = true) ∧ ((Lit.int .i32 x.f2).wf = true) ∧ ((Lit.int .i32 x.f3).wf = true)) :=
  opens_iso _ (fun a => ⟨a.1, a.2.1, a.2.2.1, a.2.2.2⟩) (fun _ => rfl) (opens_struct Try.underlying41 (by kernel_rfl) (opensF_cons (by rfl) (by kernel_rfl) op38 (opensF_cons (by rfl) (by kernel_rfl) op39 (opensF_cons (by rfl) (by kernel_rfl) op21 (opensF_last (by rfl) (by kernel_rfl) op21)))))
theorem op25 : Opens Try.prog (Kd.slice 41 k41) 25 (fun x => x.length ≤ maxLen ∧ x.length * 12 ≤ 140737488351232 ∧ ∀ y0 ∈ x, ((Lit.int .i8 y0.f0).wf = true) ∧ ((Lit.int .i16 y0.f1).wf = true) ∧ ((Lit.int .i32 y0.f2).wf = true) ∧ ((Lit.int .i32 y0.f3).wf = true)) :=
  opens_slice Try.underlying25 (by kernel_rfl) (by kernel_rfl) op41
theorem op65 : Opens Try.prog k65 65 (fun x => ((Lit.int .i16 x.f0).wf = true) ∧ ((Lit.int .i16 x.f1).wf = true) ∧ ((Lit.int .i16 x.f2).wf = true) ∧ ((Lit.int .i32 x.f3).wf = true)) :=
  opens_iso _ (fun a => ⟨a.1, a.2.1, a.2.2.1, a.2.2.2⟩) (fun _ => rfl) (opens_struct Try.underlying65 (by kernel_rfl) (opensF_cons (by rfl) (by kernel_rfl) op39 (opensF_cons (by rfl) (by kernel_rfl) op39 (opensF_cons (by rfl) (by kernel_rfl) op39 (opensF_last (by rfl) (by kernel_rfl) op21)))))
theorem op31 : Opens Try.prog (Kd.slice 65 k65) 31 (fun x => x.length ≤ maxLen ∧ x.length * 12 ≤ 140737488351232 ∧ ∀ y0 ∈ x, ((Lit.int .i16 y0.f0).wf = true) ∧ ((Lit.int .i16 y0.f1).wf = true) ∧ ((Lit.int .i16 y0.f2).wf = true) ∧ ((Lit.int .i32 y0.f3).wf = true)) :=
  opens_slice Try.underlying31 (by kernel_rfl) (by kernel_rfl) op65
end Go.Proofs.Ytehphbaobhnfjaa.Open
