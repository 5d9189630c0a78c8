/- ShiftBag returns what the reference returns, for all arguments. -/
import Derived.Test.YtlifofigkllpgaaQ8
import Derived.Test.YtlifofigkllpgaaPureAShiftBag
import Derived.Test.YtlifofigkllpgaaPureMkInt64SS
import Derived.Test.YtlifofigkllpgaaPureToInt64S
set_option linter.unusedVariables false
set_option linter.unusedSimpArgs false
namespace Go.Proofs.Ytlifofigkllpgaa.Pure
open Go.RowKit Go.Proofs.Ytlifofigkllpgaa.Q Go.Proofs.YtlifofigkllpgaaMine Go.Proofs.YtlifofigkllpgaaW.PrintWords
theorem ShiftBag : laws_FnExactShiftBag.Pure := by
  intro l0 a1 a2 ⟨_, hb0, hw0⟩ h1 h2
  apply Ev.rounds
  unfold laws_FnExactShiftBag.f
  obtain ⟨r0, hr0, hd0⟩ := szInt64SS l0 (by omega) (fun y hy => by have := (hw0 y hy).2.1; omega) (1048576) (by omega) (by omega)
  with_reducible refine Ev.bind hr0 ?_
  by_cases g0 : r0 < 0
  · simp only [if_pos g0]; exact Ev.now _
  simp only [if_neg g0]
  obtain ⟨hd0, hd0_, hl0, hy0⟩ := hd0.resolve_left g0
  replace hl0 : l0.length ≤ 2097152 := by omega
  replace hy0 : ∀ y ∈ l0, y.length ≤ 2097152 := fun y hy => Nat.le_trans (hy0 y hy) (by omega)
  have hS := specShiftBag hl0 hy0 h1 h2
  have hI := implShiftBag hl0 h1 h2
  have hB := rShiftBag_bd l0 a1 a2
  generalize rShiftBag l0 a1 a2 = R at hS hI hB
  obtain ⟨hR1, hR2⟩ := hB
  have hR1' : R.1.length ≤ 2097152 := by omega
  have hR2' : ∀ y ∈ R.1, y.length ≤ 2097152 := fun y hy => Nat.le_trans (hR2 y hy) (by omega)
  have hM := markInt64SS R.1 hR1' hR2'
  have hX := markInt64SS l0 hl0 hy0
  have hH := heldInt64SS R.1 hR1' hR2'
  have hE := eqInt64SS R.1 hR1' hR2'
  have hn : ¬ (1 + totSS R.1) < 0 := by have := totSS_nonneg R.1; omega
  have hn0 : ¬ (1 + totSS l0) < 0 := by have := totSS_nonneg l0; omega
  repeat (first | exact Ev.now _ | (with_reducible refine Ev.bind hS ?_) | (with_reducible refine Ev.bind hI ?_) | (with_reducible refine Ev.bind hM ?_) | (with_reducible refine Ev.bind hX ?_) | (with_reducible refine Ev.bind hH ?_) | (with_reducible refine Ev.bind hE ?_) | (with_reducible refine Ev.bind (toInt64SS l0 hl0 hy0) ?_) | (with_reducible refine Ev.bind (eqInt64SS l0 hl0 hy0) ?_) | simp only [if_true, eq_self_iff_true, bne_self_eq_false, Bool.false_eq_true, if_false, Option.bind_some, if_neg hn, if_neg hn0, laws_toShift.f] | (show Ev (fun n => laws_FnExactShiftBag.j0 n _ _ _ _ _ _ _ _ _) _; refine Ev.step (fun k => by simp only [laws_FnExactShiftBag.j0]; rfl) ?_) | (show Ev (fun n => laws_FnExactShiftBag.j1 n _ _ _ _ _ _ _) _; refine Ev.step (fun k => by simp only [laws_FnExactShiftBag.j1]; rfl) ?_) | (show Ev (fun n => laws_FnExactShiftBag.j2 n _ _ _) _; refine Ev.step (fun k => by simp only [laws_FnExactShiftBag.j2]; rfl) ?_))
end Go.Proofs.Ytlifofigkllpgaa.Pure
