-- made by wip/tools/mk.py of this session's repo, by way of the kit's print.py: Lean checks it.
import Derived.Test.YtlifofigkllpgaaOpen
import Derived.Test.YtlifofigkllpgaaQ0
import Derived.WalkKit
import Derived.ProofKit
namespace Go.Proofs.Ytlifofigkllpgaa.Open
open Go.RowKit Go.ChangeShapes Go.WideShapes Go.Deep Go.Proofs.YtlifofigkllpgaaW.PrintWords Go.Proofs.Ytlifofigkllpgaa.Q
theorem own : ownKnob Try.prog.godebug = none := by kernel_rfl
theorem laidOut : laidOutB Try.prog = true := by kernel_rfl
theorem op41 : Opens Try.prog (Kd.int .i8) 41 (fun x => (Lit.int .i8 x).wf = true) :=
  opens_int Try.underlying41
theorem op71 : Opens Try.prog (Kd.int .i16) 71 (fun x => (Lit.int .i16 x).wf = true) :=
  opens_int Try.underlying71
theorem op75 : Opens Try.prog k75 75 (fun x => ((Lit.int .i8 x.f0).wf = true) ∧ ((Lit.int .i16 x.f1).wf = true)) :=
  opens_iso _ (fun a => ⟨a.1, a.2⟩) (fun _ => rfl) (opens_struct Try.underlying75 (by kernel_rfl) (opensF_cons (by rfl) (by kernel_rfl) op41 (opensF_last (by rfl) (by kernel_rfl) op71)))
theorem op22 : Opens Try.prog (Kd.slice 75 k75) 22 (fun x => x.length ≤ maxLen ∧ x.length * 4 ≤ 140737488351232 ∧ ∀ y0 ∈ x, ((Lit.int .i8 y0.f0).wf = true) ∧ ((Lit.int .i16 y0.f1).wf = true)) :=
  opens_slice Try.underlying22 (by kernel_rfl) (by kernel_rfl) op75
theorem op2 : Opens Try.prog (Kd.int .i64) 2 (fun x => (Lit.int .i64 x).wf = true) :=
  opens_int Try.underlying2
theorem op81 : Opens Try.prog (Kd.slice 2 (Kd.int .i64)) 81 (fun x => x.length ≤ maxLen ∧ x.length * 8 ≤ 140737488351232 ∧ ∀ y0 ∈ x, (Lit.int .i64 y0).wf = true) :=
  opens_slice Try.underlying81 (by kernel_rfl) (by kernel_rfl) op2
theorem op29 : Opens Try.prog (Kd.slice 81 (Kd.slice 2 (Kd.int .i64))) 29 (fun x => x.length ≤ maxLen ∧ x.length * 24 ≤ 140737488351232 ∧ ∀ y0 ∈ x, y0.length ≤ maxLen ∧ y0.length * 8 ≤ 140737488351232 ∧ ∀ y1 ∈ y0, (Lit.int .i64 y1).wf = true) :=
  opens_slice Try.underlying29 (by kernel_rfl) (by kernel_rfl) op81
theorem op21 : Opens Try.prog (Kd.int .i32) 21 (fun x => (Lit.int .i32 x).wf = true) :=
  opens_int Try.underlying21
theorem op98 : Opens Try.prog k98 98 (fun x => ((Lit.int .i32 x.f0).wf = true) ∧ ((Lit.int .i16 x.f1).wf = true)) :=
  opens_iso _ (fun a => ⟨a.1, a.2⟩) (fun _ => rfl) (opens_struct Try.underlying98 (by kernel_rfl) (opensF_cons (by rfl) (by kernel_rfl) op21 (opensF_last (by rfl) (by kernel_rfl) op71)))
theorem op57 : Opens Try.prog (Kd.slice 98 k98) 57 (fun x => x.length ≤ maxLen ∧ x.length * 8 ≤ 140737488351232 ∧ ∀ y0 ∈ x, ((Lit.int .i32 y0.f0).wf = true) ∧ ((Lit.int .i16 y0.f1).wf = true)) :=
  opens_slice Try.underlying57 (by kernel_rfl) (by kernel_rfl) op98
theorem op105 : Opens Try.prog k105 105 (fun x => ((Lit.int .i8 x.f0).wf = true) ∧ ((Lit.int .i8 x.f1).wf = true) ∧ ((Lit.int .i16 x.f2).wf = true) ∧ ((Lit.int .i16 x.f3).wf = true)) :=
  opens_iso _ (fun a => ⟨a.1, a.2.1, a.2.2.1, a.2.2.2⟩) (fun _ => rfl) (opens_struct Try.underlying105 (by kernel_rfl) (opensF_cons (by rfl) (by kernel_rfl) op41 (opensF_cons (by rfl) (by kernel_rfl) op41 (opensF_cons (by rfl) (by kernel_rfl) op71 (opensF_last (by rfl) (by kernel_rfl) op71)))))
theorem op64 : Opens Try.prog (Kd.slice 105 k105) 64 (fun x => x.length ≤ maxLen ∧ x.length * 6 ≤ 140737488351232 ∧ ∀ y0 ∈ x, ((Lit.int .i8 y0.f0).wf = true) ∧ ((Lit.int .i8 y0.f1).wf = true) ∧ ((Lit.int .i16 y0.f2).wf = true) ∧ ((Lit.int .i16 y0.f3).wf = true)) :=
  opens_slice Try.underlying64 (by kernel_rfl) (by kernel_rfl) op105
end Go.Proofs.Ytlifofigkllpgaa.Open
