/- ReadTable returns what the reference returns, for all arguments. -/
import Derived.Test.YtdeipindfhkioaaDoorQ7
import Derived.Test.YtdeipindfhkioaaDoorPureAReadTable
import Derived.Test.YtdeipindfhkioaaDoorPureMksTable
set_option linter.unusedVariables false
set_option linter.unusedSimpArgs false
namespace Go.Proofs.YtdeipindfhkioaaDoor.Pure
open Go.RowKit Go.Proofs.YtdeipindfhkioaaDoor.Q Go.Proofs.YtdeipindfhkioaaDoorMine Go.Proofs.YtdeipindfhkioaaDoorW.PrintWords
theorem ReadTable : laws_FnExactReadTable.Pure := by
 intro a0 hs0
 apply Ev.rounds
 unfold laws_FnExactReadTable.f
 by_cases g0 : (a0.size : Int) > 1048576
 ·simp only [if_pos g0]; exact Ev.now _
 simp only [if_neg g0]
 have hsz : a0.data.toList.length ≤ 1048576 := by rw [Array.length_toList]; have : a0.data.size = a0.size := rfl; omega
 have hS := specReadTable hsz
 have hI := implReadTable hsz
 have hT := rRead_wf hsz
 generalize rReadTable a0.data.toList = R at hS hI hT
 have hE := eqTable hT
 have hM := markTableR hT.1 hT.2.1 hT.2.2.1
 have hH := heldTableR hT.1 hT.2.1 hT.2.2.1
 have hn : ¬ mrkT R.1 R.2.1 < 0 := by have := totSS_nonneg R.2.1; unfold mrkT; omega
 repeat (first | exact Ev.now _ | (with_reducible refine Ev.bind hS ?_) | (with_reducible refine Ev.bind hI ?_) | (with_reducible refine Ev.bind hM ?_) | (with_reducible refine Ev.bind hH ?_) | (with_reducible refine Ev.bind hE ?_) | simp only [if_true, eq_self_iff_true, bne_self_eq_false, Bool.false_eq_true, if_false, Option.bind_some, if_neg hn] | (show Ev (fun n => laws_FnExactReadTable.j0 n _ _ _ _ _ _ _) _; refine Ev.step (fun k => by simp only [laws_FnExactReadTable.j0]; rfl) ?_) | (show Ev (fun n => laws_FnExactReadTable.j1 n _ _ _ _) _; refine Ev.step (fun k => by simp only [laws_FnExactReadTable.j1]; rfl) ?_))
end Go.Proofs.YtdeipindfhkioaaDoor.Pure
