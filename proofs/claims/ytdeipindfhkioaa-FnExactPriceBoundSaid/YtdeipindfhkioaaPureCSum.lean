/- The sum of weights. -/
import Derived.Test.YtdeipindfhkioaaQ8
import Derived.Test.YtdeipindfhkioaaPureB0
set_option linter.unusedVariables false
set_option linter.unusedSimpArgs false
namespace Go.Proofs.Ytdeipindfhkioaa.Pure
open Go.RowKit Go.Proofs.Ytdeipindfhkioaa.Q Go.Proofs.YtdeipindfhkioaaMine Go.Proofs.YtdeipindfhkioaaW.PrintWords Go.Proofs.YtdeipindfhkioaaW.PrintMore
def sumI (ws : List Int) : Int := foldi (fun _ (s : Int) w => wrap64 (s + w)) 0 ws 0
theorem specTotal {ws : List Int} (hl : ws.length ≤ 2097152) : Ev (fun k => spec_l03Total.f k ws) (sumI ws) := by
  unfold spec_l03Total.f sumI
  refine fold_in (fun k (s : Int) i => spec_l03Total.l0 k ws s i) ws 0 (fun _ _ => True) (fun _ (s : Int) w => wrap64 (s + w)) _ (fun m s hm _ => ⟨trivial, fun r hr => ?_⟩) 0 trivial (fun _ => ?_)
  · refine Ev.step (fun k => ?_) hr
    simp only [spec_l03Total.l0]
    rw [if_pos (by omega), if_pos (by omega), wrap_sm (i := (m : Int) + 1) (by omega) (by omega)]; rfl
  · refine Ev.step (f := fun _ => some _) (fun k => ?_) (Ev.now _)
    simp only [spec_l03Total.l0]; rw [if_neg (by omega)]
theorem implSum {ws : List Int} (hl : ws.length ≤ 2097152) : Ev (fun k => impl_sum.f k ws) (sumI ws) := by
  unfold impl_sum.f sumI
  refine fold_in (fun k (s : Int) i => impl_sum.l0 k s ws (ws.length : Int) i) ws 0 (fun _ _ => True) (fun _ (s : Int) w => wrap64 (s + w)) _ (fun m s hm _ => ⟨trivial, fun r hr => ?_⟩) 0 trivial (fun _ => ?_)
  · refine Ev.step (fun k => ?_) hr
    simp only [impl_sum.l0]
    rw [if_pos (by omega), if_pos (by omega), if_pos (by omega), wrap_sm (i := (m : Int) + 1) (by omega) (by omega)]; rfl
  · refine Ev.step (f := fun _ => some _) (fun k => ?_) (Ev.now _)
    simp only [impl_sum.l0]; rw [if_neg (by omega)]
end Go.Proofs.Ytdeipindfhkioaa.Pure
