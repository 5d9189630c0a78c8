/- SplitRound returns what the reference returns, for all arguments. -/
import Derived.Test.YtihnefkkgbokcaaQ8
import Derived.Test.YtihnefkkgbokcaaPureASplitRound
import Derived.Test.YtihnefkkgbokcaaPureMkInt64
import Derived.Test.YtihnefkkgbokcaaPureMkParcel
set_option linter.unusedVariables false
set_option linter.unusedSimpArgs false
namespace Go.Proofs.Ytihnefkkgbokcaa.Pure
open Go.RowKit Go.Proofs.Ytihnefkkgbokcaa.Q Go.Proofs.YtihnefkkgbokcaaMine Go.Proofs.YtihnefkkgbokcaaW.PrintWords
theorem SplitRound : laws_FnExactSplitRound.Pure := by
  intro l0 a1 ⟨_, hb0, hw0⟩ h1
  apply Ev.rounds
  unfold laws_FnExactSplitRound.f
  simp only [szParcelS l0 (by omega) (1048576) (by omega) (by omega), Option.bind_some]
  by_cases g0 : (1048576 : Int) - (l0.length : Int) < 0
  · simp only [if_pos g0, if_pos (show (-1 : Int) < 0 by omega)]; exact Ev.now _
  simp only [if_neg g0]
  have hl0 : (l0.map cvParcel).length ≤ 2097152 := by rw [List.length_map]; omega
  have hc0 := wfsParcel (l := l0) hw0
  have hM1 := (wf_i64 h1).2
  have hS := specSplitRound hl0 hc0 hM1
  have hI := implSplitRound hl0 hc0 hM1
  have hT := rSplitRound_length (l := l0.map cvParcel) (M := a1)
  generalize rSplitRound (l0.map cvParcel) a1 = R at hS hI hT
  obtain ⟨r, y, hm, hr⟩ := markParcelS (l0.map cvParcel) hl0
  have hM := markInt64S R.1 hT
  have hH := heldInt64S R.1.length hT
  have hn : ¬ (1 + (R.1.length : Int)) < 0 := by omega
  have hrn : ¬ r < 0 := by omega
  have hE := eqInt64S R.1 hT
  repeat (first | exact Ev.now _ | (with_reducible refine Ev.bind hS ?_) | (with_reducible refine Ev.bind hI ?_) | (with_reducible refine Ev.bind hM ?_) | (with_reducible refine Ev.bind hH ?_) | (with_reducible refine Ev.bind hm ?_) | (with_reducible refine Ev.bind hE ?_) | (with_reducible refine Ev.bind (toParcelS l0 (by omega)) ?_) | (with_reducible refine Ev.bind (eqParcelS _ hl0) ?_) | simp only [if_true, eq_self_iff_true, bne_self_eq_false, Bool.false_eq_true, if_false, Option.bind_some, if_neg hn, if_neg hrn] | (show Ev (fun n => laws_FnExactSplitRound.j0 n _ _ _ _ _ _ _ _ _ _) _; refine Ev.step (fun k => by simp only [laws_FnExactSplitRound.j0]; rfl) ?_) | (show Ev (fun n => laws_FnExactSplitRound.j1 n _ _ _ _ _ _ _) _; refine Ev.step (fun k => by simp only [laws_FnExactSplitRound.j1]; rfl) ?_) | (show Ev (fun n => laws_FnExactSplitRound.j2 n _ _ _) _; refine Ev.step (fun k => by simp only [laws_FnExactSplitRound.j2]; rfl) ?_))
end Go.Proofs.Ytihnefkkgbokcaa.Pure
