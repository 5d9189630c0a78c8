/- MergeLines returns what the reference returns, for all arguments. -/
import Derived.Test.YtnefepgfmmnbpaaQ8
import Derived.Test.YtnefepgfmmnbpaaPureAMergeLines
import Derived.Test.YtnefepgfmmnbpaaPureToClass
import Derived.Test.YtnefepgfmmnbpaaPureToLine
import Derived.Test.YtnefepgfmmnbpaaPureMksClass
import Derived.Test.YtnefepgfmmnbpaaPureMksLine
import Derived.Test.YtnefepgfmmnbpaaPureHdsLine
set_option linter.unusedVariables false
set_option linter.unusedSimpArgs false
namespace Go.Proofs.Ytnefepgfmmnbpaa.Pure
open Go.RowKit Go.Proofs.Ytnefepgfmmnbpaa.Q Go.Proofs.YtnefepgfmmnbpaaMine Go.Proofs.YtnefepgfmmnbpaaW.PrintWords
theorem MergeLines : laws_FnExactMergeLines.Pure := by
  intro l0 l1 ⟨_, hb0, hw0⟩ ⟨_, hb1, hw1⟩
  apply Ev.rounds
  unfold laws_FnExactMergeLines.f
  simp only [szClassS l0 (by omega) (1048576) (by omega) (by omega), Option.bind_some]
  by_cases g0 : (1048576 : Int) - (l0.length : Int) < 0
  · simp only [if_pos g0, if_pos (show (-1 : Int) < 0 by omega)]; exact Ev.now _
  simp only [if_neg g0, szLineS l1 (by omega) ((1048576 : Int) - (l0.length : Int)) (by omega) (by omega), Option.bind_some]
  by_cases g1 : ((1048576 : Int) - (l0.length : Int)) - (l1.length : Int) < 0
  · simp only [if_pos g1, if_pos (show (-1 : Int) < 0 by omega)]; exact Ev.now _
  simp only [if_neg g1]
  have hl0 : (l0.map cvClass).length ≤ 2097152 := by rw [List.length_map]; omega
  have hl1 : (l1.map cvLine).length ≤ 2097152 := by rw [List.length_map]; omega
  have hc0 := wfsClass (l := l0) hw0
  have hc1 := wfsLine (l := l1) hw1
  have hS := specMergeLines hl0 hc0 hl1 hc1
  have hI := implMergeLines hl0 hc0 hl1 hc1
  have hT := rMergeLines_length (l := l0.map cvClass) (m := l1.map cvLine)
  generalize rMergeLines (l0.map cvClass) (l1.map cvLine) = R at hS hI hT
  have hm := markClassSx (l0.map cvClass) hl0
  obtain ⟨r, y, hm2, hr⟩ : ∃ r y, Ev (fun k => laws_markLineS.f k (l1.map cvLine) (1 + 4 * ((l0.map cvClass).length : Int))) (r, y) ∧ 0 ≤ r := markLineAny _ hl1 _ (by omega) (by omega)
  have hM := markLineSx R.1 hT
  have hH := heldLineSx R.1.length hT
  have hn : ¬ (1 + 4 * (R.1.length : Int)) < 0 := by omega
  have hrn : ¬ r < 0 := by omega
  have hE := eqLineS R.1 hT
  repeat (first | exact Ev.now _ | (with_reducible refine Ev.bind hS ?_) | (with_reducible refine Ev.bind hI ?_) | (with_reducible refine Ev.bind hM ?_) | (with_reducible refine Ev.bind hH ?_) | (with_reducible refine Ev.bind hm ?_) | (with_reducible refine Ev.bind hm2 ?_) | (with_reducible refine Ev.bind hE ?_) | (with_reducible refine Ev.bind (toClassS l0 (by omega)) ?_) | (with_reducible refine Ev.bind (toLineS l1 (by omega)) ?_) | (with_reducible refine Ev.bind (eqClassS _ hl0) ?_) | (with_reducible refine Ev.bind (eqLineS _ hl1) ?_) | simp only [if_true, eq_self_iff_true, bne_self_eq_false, Bool.false_eq_true, if_false, Option.bind_some, if_neg hn, if_neg hrn] | (show Ev (fun n => laws_FnExactMergeLines.j0 n _ _ _ _ _ _ _ _ _) _; refine Ev.step (fun k => by simp only [laws_FnExactMergeLines.j0]; rfl) ?_) | (show Ev (fun n => laws_FnExactMergeLines.j1 n _ _ _ _ _ _) _; refine Ev.step (fun k => by simp only [laws_FnExactMergeLines.j1]; rfl) ?_) | (show Ev (fun n => laws_FnExactMergeLines.j2 n _ _ _) _; refine Ev.step (fun k => by simp only [laws_FnExactMergeLines.j2]; rfl) ?_))
end Go.Proofs.Ytnefepgfmmnbpaa.Pure
