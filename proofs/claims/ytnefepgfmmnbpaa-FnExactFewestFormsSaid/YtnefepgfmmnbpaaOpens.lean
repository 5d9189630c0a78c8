-- made by wip/tools/mk.py of this session's repo, by way of the kit's print.py: Lean checks it.
import Derived.Test.YtnefepgfmmnbpaaOpen
import Derived.Test.YtnefepgfmmnbpaaQ0
import Derived.WalkKit
import Derived.ProofKit
namespace Go.Proofs.Ytnefepgfmmnbpaa.Open
open Go.RowKit Go.ChangeShapes Go.WideShapes Go.Deep Go.Proofs.YtnefepgfmmnbpaaW.PrintWords Go.Proofs.Ytnefepgfmmnbpaa.Q
theorem own : ownKnob Try.prog.godebug = none := by kernel_rfl
theorem laidOut : laidOutB Try.prog = true := by kernel_rfl
theorem op52 : Opens Try.prog (Kd.int .i16) 52 (fun x => (Lit.int .i16 x).wf = true) :=
 opens_int Try.underlying52
theorem op21 : Opens Try.prog (Kd.int .i32) 21 (fun x => (Lit.int .i32 x).wf = true) :=
 opens_int Try.underlying21
theorem op58 : Opens Try.prog k58 58 (fun x => ((Lit.int .i16 x.f0).wf = true) ∧ ((Lit.int .i16 x.f1).wf = true) ∧ ((Lit.int .i16 x.f2).wf = true) ∧ ((Lit.int .i32 x.f3).wf = true)) :=
 opens_iso _ (fun a => ⟨a.1, a.2.1, a.2.2.1, a.2.2.2⟩) (fun _ => rfl) (opens_struct Try.underlying58 (by kernel_rfl) (opensF_cons (by rfl) (by kernel_rfl) op52 (opensF_cons (by rfl) (by kernel_rfl) op52 (opensF_cons (by rfl) (by kernel_rfl) op52 (opensF_last (by rfl) (by kernel_rfl) op21)))))
theorem op22 : Opens Try.prog (Kd.slice 58 k58) 22 (fun x => x.length ≤ maxLen ∧ x.length * 12 ≤ 140737488351232 ∧ ∀ y0 ∈ x, ((Lit.int .i16 y0.f0).wf = true) ∧ ((Lit.int .i16 y0.f1).wf = true) ∧ ((Lit.int .i16 y0.f2).wf = true) ∧ ((Lit.int .i32 y0.f3).wf = true)) :=
 opens_slice Try.underlying22 (by kernel_rfl) (by kernel_rfl) op58
theorem op51 : Opens Try.prog (Kd.int .i8) 51 (fun x => (Lit.int .i8 x).wf = true) :=
 opens_int Try.underlying51
theorem op60 : Opens Try.prog k60 60 (fun x => ((Lit.int .i8 x.f0).wf = true) ∧ ((Lit.int .i16 x.f1).wf = true) ∧ ((Lit.int .i32 x.f2).wf = true) ∧ ((Lit.int .i32 x.f3).wf = true)) :=
 opens_iso _ (fun a => ⟨a.1, a.2.1, a.2.2.1, a.2.2.2⟩) (fun _ => rfl) (opens_struct Try.underlying60 (by kernel_rfl) (opensF_cons (by rfl) (by kernel_rfl) op51 (opensF_cons (by rfl) (by kernel_rfl) op52 (opensF_cons (by rfl) (by kernel_rfl) op21 (opensF_last (by rfl) (by kernel_rfl) op21)))))
theorem op23 : Opens Try.prog (Kd.slice 60 k60) 23 (fun x => x.length ≤ maxLen ∧ x.length * 12 ≤ 140737488351232 ∧ ∀ y0 ∈ x, ((Lit.int .i8 y0.f0).wf = true) ∧ ((Lit.int .i16 y0.f1).wf = true) ∧ ((Lit.int .i32 y0.f2).wf = true) ∧ ((Lit.int .i32 y0.f3).wf = true)) :=
 opens_slice Try.underlying23 (by kernel_rfl) (by kernel_rfl) op60
theorem op2 : Opens Try.prog (Kd.int .i64) 2 (fun x => (Lit.int .i64 x).wf = true) :=
 opens_int Try.underlying2
end Go.Proofs.Ytnefepgfmmnbpaa.Open
