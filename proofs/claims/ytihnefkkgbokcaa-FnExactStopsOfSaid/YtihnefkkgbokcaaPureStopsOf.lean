/- StopsOf returns what the reference returns, for all arguments. -/
import Derived.Test.YtihnefkkgbokcaaQ5
import Derived.Test.YtihnefkkgbokcaaPureAStopsOf
import Derived.Test.YtihnefkkgbokcaaPureMkInt64
import Derived.Test.YtihnefkkgbokcaaPureMkParcel
set_option linter.unusedVariables false
set_option linter.unusedSimpArgs false
namespace Go.Proofs.Ytihnefkkgbokcaa.Pure
open Go.RowKit Go.Proofs.Ytihnefkkgbokcaa.Q Go.Proofs.YtihnefkkgbokcaaMine Go.Proofs.YtihnefkkgbokcaaW.PrintWords
theorem StopsOf : laws_FnExactStopsOf.Pure := by
  intro l0 ⟨_, hb0, hw0⟩
  apply Ev.rounds
  unfold laws_FnExactStopsOf.f
  simp only [szParcelS l0 (by omega) (1048576) (by omega) (by omega), Option.bind_some]
  by_cases g0 : (1048576 : Int) - (l0.length : Int) < 0
  · simp only [if_pos g0, if_pos (show (-1 : Int) < 0 by omega)]; exact Ev.now _
  simp only [if_neg g0]
  have hl0 : (l0.map cvParcel).length ≤ 2097152 := by rw [List.length_map]; omega
  have hc0 := wfsParcel (l := l0) hw0
  have hS := specStopsOf hl0 hc0
  have hI := implStopsOf hl0 hc0
  have hT := rStopsOf_length (l := l0.map cvParcel)
  generalize rStopsOf (l0.map cvParcel) = R at hS hI hT
  obtain ⟨r, y, hm, hr⟩ := markParcelS (l0.map cvParcel) hl0
  have hM := markInt64S R.1 hT
  have hH := heldInt64S R.1.length hT
  have hn : ¬ (1 + (R.1.length : Int)) < 0 := by omega
  have hrn : ¬ r < 0 := by omega
  have hE := eqInt64S R.1 hT
  repeat (first | exact Ev.now _ | (with_reducible refine Ev.bind hS ?_) | (with_reducible refine Ev.bind hI ?_) | (with_reducible refine Ev.bind hM ?_) | (with_reducible refine Ev.bind hH ?_) | (with_reducible refine Ev.bind hm ?_) | (with_reducible refine Ev.bind hE ?_) | (with_reducible refine Ev.bind (toParcelS l0 (by omega)) ?_) | (with_reducible refine Ev.bind (eqParcelS _ hl0) ?_) | simp only [if_true, eq_self_iff_true, bne_self_eq_false, Bool.false_eq_true, if_false, Option.bind_some, if_neg hn, if_neg hrn] | (show Ev (fun n => laws_FnExactStopsOf.j0 n _ _ _ _ _ _ _) _; refine Ev.step (fun k => by simp only [laws_FnExactStopsOf.j0]; rfl) ?_) | (show Ev (fun n => laws_FnExactStopsOf.j1 n _ _ _ _ _) _; refine Ev.step (fun k => by simp only [laws_FnExactStopsOf.j1]; rfl) ?_) | (show Ev (fun n => laws_FnExactStopsOf.j2 n _ _ _) _; refine Ev.step (fun k => by simp only [laws_FnExactStopsOf.j2]; rfl) ?_))
end Go.Proofs.Ytihnefkkgbokcaa.Pure
