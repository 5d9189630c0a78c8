/- ReadBags returns what the reference returns, for all arguments. -/
import Derived.Test.YtlifofigkllpgaaDoorQ3
import Derived.Test.YtlifofigkllpgaaDoorPureAReadBags
import Derived.Test.YtlifofigkllpgaaDoorPureMkInt64SS
import Derived.Test.YtlifofigkllpgaaDoorPureEqInt64S
set_option linter.unusedVariables false
set_option linter.unusedSimpArgs false
namespace Go.Proofs.YtlifofigkllpgaaDoor.Pure
open Go.RowKit Go.Proofs.YtlifofigkllpgaaDoor.Q Go.Proofs.YtlifofigkllpgaaDoorMine Go.Proofs.YtlifofigkllpgaaDoorW.PrintWords
theorem ReadBags : laws_FnExactReadBags.Pure := by
  intro s hs0
  apply Ev.rounds
  unfold laws_FnExactReadBags.f
  by_cases g0 : (s.size : Int) > 1048576
  · simp only [if_pos g0]; exact Ev.now _
  simp only [if_neg g0]
  have hs : s.data.toList.length ≤ 1048576 := by rw [data_length]; omega
  have hS := specReadBags hs
  have hI := implReadBags hs
  have hT := rReadBags_len hs
  generalize rReadBags s.data.toList = R at hS hI hT
  have hM := markInt64SS R.1 hT.1 hT.2
  have hH := heldInt64SS R.1 hT.1 hT.2
  have hn : ¬ (1 + totSS R.1) < 0 := by have := totSS_nonneg R.1; omega
  have hE := eqInt64SS R.1 hT.1 hT.2
  repeat (first | exact Ev.now _ | (with_reducible refine Ev.bind hS ?_) | (with_reducible refine Ev.bind hI ?_) | (with_reducible refine Ev.bind hM ?_) | (with_reducible refine Ev.bind hH ?_) | (with_reducible refine Ev.bind hE ?_) | simp only [if_true, eq_self_iff_true, bne_self_eq_false, Bool.false_eq_true, if_false, Option.bind_some, if_neg hn] | (show Ev (fun n => laws_FnExactReadBags.j0 n _ _ _ _ _) _; refine Ev.step (fun k => by simp only [laws_FnExactReadBags.j0]; rfl) ?_) | (show Ev (fun n => laws_FnExactReadBags.j1 n _ _ _) _; refine Ev.step (fun k => by simp only [laws_FnExactReadBags.j1]; rfl) ?_))
end Go.Proofs.YtlifofigkllpgaaDoor.Pure
