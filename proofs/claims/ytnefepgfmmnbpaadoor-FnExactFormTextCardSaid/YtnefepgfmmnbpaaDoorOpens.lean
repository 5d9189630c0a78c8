-- made by wip/tools/mk.py of this session's repo, by way of the kit's print.py: Lean checks it.
import Derived.Test.YtnefepgfmmnbpaaDoorOpen
import Derived.Test.YtnefepgfmmnbpaaDoorQ0
import Derived.WalkKit
import Derived.ProofKit
namespace Go.Proofs.YtnefepgfmmnbpaaDoor.Open
open Go.RowKit Go.ChangeShapes Go.WideShapes Go.Deep Go.Proofs.YtnefepgfmmnbpaaDoorW.PrintWords Go.Proofs.YtnefepgfmmnbpaaDoor.Q
theorem own : ownKnob Tryd.prog.godebug = none := by kernel_rfl
theorem laidOut : laidOutB Tryd.prog = true := by kernel_rfl
theorem op41 : Opens Tryd.prog (Kd.int .i16) 41 (fun x => (Lit.int .i16 x).wf = true) :=
  opens_int Tryd.underlying41
theorem op21 : Opens Tryd.prog (Kd.int .i32) 21 (fun x => (Lit.int .i32 x).wf = true) :=
  opens_int Tryd.underlying21
theorem op45 : Opens Tryd.prog k45 45 (fun x => ((Lit.int .i16 x.f0).wf = true) ∧ ((Lit.int .i16 x.f1).wf = true) ∧ ((Lit.int .i16 x.f2).wf = true) ∧ ((Lit.int .i32 x.f3).wf = true)) :=
  opens_iso _ (fun a => ⟨a.1, a.2.1, a.2.2.1, a.2.2.2⟩) (fun _ => rfl) (opens_struct Tryd.underlying45 (by kernel_rfl) (opensF_cons (by rfl) (by kernel_rfl) op41 (opensF_cons (by rfl) (by kernel_rfl) op41 (opensF_cons (by rfl) (by kernel_rfl) op41 (opensF_last (by rfl) (by kernel_rfl) op21)))))
theorem op22 : Opens Tryd.prog (Kd.slice 45 k45) 22 (fun x => x.length ≤ maxLen ∧ x.length * 12 ≤ 140737488351232 ∧ ∀ y0 ∈ x, ((Lit.int .i16 y0.f0).wf = true) ∧ ((Lit.int .i16 y0.f1).wf = true) ∧ ((Lit.int .i16 y0.f2).wf = true) ∧ ((Lit.int .i32 y0.f3).wf = true)) :=
  opens_slice Tryd.underlying22 (by kernel_rfl) (by kernel_rfl) op45
theorem op46 : Opens Tryd.prog (Kd.int .i8) 46 (fun x => (Lit.int .i8 x).wf = true) :=
  opens_int Tryd.underlying46
theorem op50 : Opens Tryd.prog k50 50 (fun x => ((Lit.int .i8 x.f0).wf = true) ∧ ((Lit.int .i16 x.f1).wf = true) ∧ ((Lit.int .i32 x.f2).wf = true) ∧ ((Lit.int .i32 x.f3).wf = true)) :=
  opens_iso _ (fun a => ⟨a.1, a.2.1, a.2.2.1, a.2.2.2⟩) (fun _ => rfl) (opens_struct Tryd.underlying50 (by kernel_rfl) (opensF_cons (by rfl) (by kernel_rfl) op46 (opensF_cons (by rfl) (by kernel_rfl) op41 (opensF_cons (by rfl) (by kernel_rfl) op21 (opensF_last (by rfl) (by kernel_rfl) op21)))))
theorem op23 : Opens Tryd.prog (Kd.slice 50 k50) 23 (fun x => x.length ≤ maxLen ∧ x.length * 12 ≤ 140737488351232 ∧ ∀ y0 ∈ x, ((Lit.int .i8 y0.f0).wf = true) ∧ ((Lit.int .i16 y0.f1).wf = true) ∧ ((Lit.int .i32 y0.f2).wf = true) ∧ ((Lit.int .i32 y0.f3).wf = true)) :=
  opens_slice Tryd.underlying23 (by kernel_rfl) (by kernel_rfl) op50
end Go.Proofs.YtnefepgfmmnbpaaDoor.Open
