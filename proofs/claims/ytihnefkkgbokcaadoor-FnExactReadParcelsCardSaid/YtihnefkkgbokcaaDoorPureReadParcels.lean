/- ReadParcels returns what the reference returns, for all arguments. -/
import Derived.Test.YtihnefkkgbokcaaDoorQ4
import Derived.Test.YtihnefkkgbokcaaDoorPureAReadParcels
import Derived.Test.YtihnefkkgbokcaaDoorPureEqParcel
import Derived.Test.YtihnefkkgbokcaaDoorPureMksParcel
import Derived.Test.YtihnefkkgbokcaaDoorPureHdsParcel
set_option linter.unusedVariables false
set_option linter.unusedSimpArgs false
namespace Go.Proofs.YtihnefkkgbokcaaDoor.Pure
open Go.RowKit Go.Proofs.YtihnefkkgbokcaaDoor.Q Go.Proofs.YtihnefkkgbokcaaDoorMine Go.Proofs.YtihnefkkgbokcaaDoorW.PrintWords
theorem ReadParcels : laws_FnExactReadParcels.Pure := by
  intro s hs0
  apply Ev.rounds
  unfold laws_FnExactReadParcels.f
  by_cases g0 : (s.size : Int) > 1048576
  · simp only [if_pos g0]; exact Ev.now _
  simp only [if_neg g0]
  have hs : s.data.toList.length ≤ 1048576 := by rw [data_length]; omega
  have hS := specReadParcels hs
  have hI := implReadParcels hs
  have hT := rReadParcels_len hs
  generalize rReadParcels s.data.toList = R at hS hI hT
  have hM := markParcelSx R.1 hT
  have hH := heldParcelSx R.1.length hT
  have hn : ¬ (1 + 2 * (R.1.length : Int)) < 0 := by omega
  have hE := eqParcelS R.1 hT
  repeat (first | exact Ev.now _ | (with_reducible refine Ev.bind hS ?_) | (with_reducible refine Ev.bind hI ?_) | (with_reducible refine Ev.bind hM ?_) | (with_reducible refine Ev.bind hH ?_) | (with_reducible refine Ev.bind hE ?_) | simp only [if_true, eq_self_iff_true, bne_self_eq_false, Bool.false_eq_true, if_false, Option.bind_some, if_neg hn] | (show Ev (fun n => laws_FnExactReadParcels.j0 n _ _ _ _ _) _; refine Ev.step (fun k => by simp only [laws_FnExactReadParcels.j0]; rfl) ?_) | (show Ev (fun n => laws_FnExactReadParcels.j1 n _ _ _) _; refine Ev.step (fun k => by simp only [laws_FnExactReadParcels.j1]; rfl) ?_))
end Go.Proofs.YtihnefkkgbokcaaDoor.Pure
