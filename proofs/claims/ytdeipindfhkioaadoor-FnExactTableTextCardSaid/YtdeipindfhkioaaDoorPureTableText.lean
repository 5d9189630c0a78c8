/- TableText returns what the reference returns, for all arguments. -/
import Derived.Test.YtdeipindfhkioaaDoorQ3
import Derived.Test.YtdeipindfhkioaaDoorPureATableText
import Derived.Test.YtdeipindfhkioaaDoorPureToTable
set_option linter.unusedVariables false
set_option linter.unusedSimpArgs false
namespace Go.Proofs.YtdeipindfhkioaaDoor.Pure
open Go.RowKit Go.Proofs.YtdeipindfhkioaaDoor.Q Go.Proofs.YtdeipindfhkioaaDoorMine Go.Proofs.YtdeipindfhkioaaDoorW.PrintWords
theorem TableText : laws_FnExactTableText.Pure := by
  intro l0_0 l0_1 ⟨_, hb0, hw0⟩ ⟨_, hb0', hw0'⟩
  apply Ev.rounds
  unfold laws_FnExactTableText.f
  obtain ⟨r0, hr0, hd0⟩ := szTable l0_0 l0_1 (by omega) (by omega) (fun y hy => by have := (hw0' y hy).2.1; omega) (1048576) (by omega) (by omega)
  with_reducible refine Ev.bind hr0 ?_
  by_cases g0 : r0 < 0
  · simp only [if_pos g0]; exact Ev.now _
  simp only [if_neg g0]
  obtain ⟨hd0, hd0_, hs0, hl0, hy0⟩ := hd0.resolve_left g0
  have hT0 : wfTable l0_0 l0_1 := ⟨by omega, by omega, fun y hy => Nat.le_trans (hy0 y hy) (by omega), hw0, fun y hy => (hw0' y hy).2.2⟩
  have hS := specTableText hT0
  have hI := implTableText hT0
  repeat (first | exact Ev.now _ | (with_reducible refine Ev.bind hS ?_) | (with_reducible refine Ev.bind hI ?_) | (with_reducible refine Ev.bind (toTable hT0) ?_) | (with_reducible refine Ev.bind (eqTable hT0) ?_) | simp only [if_true, eq_self_iff_true, bne_self_eq_false, Bool.false_eq_true, if_false, Option.bind_some])
end Go.Proofs.YtdeipindfhkioaaDoor.Pure
