/- BagsText returns what the reference returns, for all arguments. -/
import Derived.Test.YtlifofigkllpgaaQ4
import Derived.Test.YtlifofigkllpgaaPureABagsText
import Derived.Test.YtlifofigkllpgaaPureToInt64S
set_option linter.unusedVariables false
set_option linter.unusedSimpArgs false
namespace Go.Proofs.Ytlifofigkllpgaa.Pure
open Go.RowKit Go.Proofs.Ytlifofigkllpgaa.Q Go.Proofs.YtlifofigkllpgaaMine Go.Proofs.YtlifofigkllpgaaW.PrintWords
theorem BagsText : laws_FnExactBagsText.Pure := by
  intro l0 ⟨_, hb0, hw0⟩
  apply Ev.rounds
  unfold laws_FnExactBagsText.f
  obtain ⟨r0, hr0, hd0⟩ := szInt64SS l0 (by omega) (fun y hy => by have := (hw0 y hy).2.1; omega) (1048576) (by omega) (by omega)
  with_reducible refine Ev.bind hr0 ?_
  by_cases g0 : r0 < 0
  · simp only [if_pos g0]; exact Ev.now _
  simp only [if_neg g0]
  obtain ⟨hd0, hd0_, hl0, hy0⟩ := hd0.resolve_left g0
  replace hl0 : l0.length ≤ 2097152 := by omega
  replace hy0 : ∀ y ∈ l0, y.length ≤ 2097152 := fun y hy => Nat.le_trans (hy0 y hy) (by omega)
  have hc0 : ∀ y ∈ l0, ∀ n ∈ y, wfInt64 n := fun y hy => (hw0 y hy).2.2
  have hS := specBagsText hl0 hy0 hc0
  have hI := implBagsText hl0 hy0 hc0
  repeat (first | exact Ev.now _ | (with_reducible refine Ev.bind hS ?_) | (with_reducible refine Ev.bind hI ?_) | (with_reducible refine Ev.bind (toInt64SS l0 hl0 hy0) ?_) | (with_reducible refine Ev.bind (eqInt64SS l0 hl0 hy0) ?_) | simp only [if_true, eq_self_iff_true, bne_self_eq_false, Bool.false_eq_true, if_false, Option.bind_some])
end Go.Proofs.Ytlifofigkllpgaa.Pure
