-- made by wip/tools/mk.py of this session's repo, by way of the kit's print.py: Lean checks it.
import Derived.Test.YtdeipindfhkioaaOpen
import Derived.Test.YtdeipindfhkioaaQ0
import Derived.WalkKit
import Derived.ProofKit
namespace Go.Proofs.Ytdeipindfhkioaa.Open
open Go.RowKit Go.ChangeShapes Go.WideShapes Go.Deep Go.Proofs.YtdeipindfhkioaaW.PrintWords Go.Proofs.Ytdeipindfhkioaa.Q
theorem own : ownKnob Try.prog.godebug = none := by kernel_rfl
theorem laidOut : laidOutB Try.prog = true := by kernel_rfl
theorem op81 : Opens Try.prog (Kd.int .i16) 81 (fun x => (Lit.int .i16 x).wf = true) :=
 opens_int Try.underlying81
theorem op30 : Opens Try.prog (Kd.slice 81 (Kd.int .i16)) 30 (fun x => x.length ≤ maxLen ∧ x.length * 2 ≤ 140737488351232 ∧ ∀ y0 ∈ x, (Lit.int .i16 y0).wf = true) :=
 opens_slice Try.underlying30 (by kernel_rfl) (by kernel_rfl) op81
theorem op31 : Opens Try.prog (Kd.slice 30 (Kd.slice 81 (Kd.int .i16))) 31 (fun x => x.length ≤ maxLen ∧ x.length * 24 ≤ 140737488351232 ∧ ∀ y0 ∈ x, y0.length ≤ maxLen ∧ y0.length * 2 ≤ 140737488351232 ∧ ∀ y1 ∈ y0, (Lit.int .i16 y1).wf = true) :=
 opens_slice Try.underlying31 (by kernel_rfl) (by kernel_rfl) op30
theorem op33 : Opens Try.prog k33 33 (fun x => (x.f0.length ≤ maxLen ∧ x.f0.length * 2 ≤ 140737488351232 ∧ ∀ y0 ∈ x.f0, (Lit.int .i16 y0).wf = true) ∧ (x.f1.length ≤ maxLen ∧ x.f1.length * 24 ≤ 140737488351232 ∧ ∀ y1 ∈ x.f1, y1.length ≤ maxLen ∧ y1.length * 2 ≤ 140737488351232 ∧ ∀ y2 ∈ y1, (Lit.int .i16 y2).wf = true)) :=
 opens_iso _ (fun a => ⟨a.1, a.2⟩) (fun _ => rfl) (opens_struct Try.underlying33 (by kernel_rfl) (opensF_cons (by rfl) (by kernel_rfl) op30 (opensF_last (by rfl) (by kernel_rfl) op31)))
theorem op2 : Opens Try.prog (Kd.int .i64) 2 (fun x => (Lit.int .i64 x).wf = true) :=
 opens_int Try.underlying2
theorem op34 : Opens Try.prog (Kd.slice 2 (Kd.int .i64)) 34 (fun x => x.length ≤ maxLen ∧ x.length * 8 ≤ 140737488351232 ∧ ∀ y0 ∈ x, (Lit.int .i64 y0).wf = true) :=
 opens_slice Try.underlying34 (by kernel_rfl) (by kernel_rfl) op2
end Go.Proofs.Ytdeipindfhkioaa.Open
