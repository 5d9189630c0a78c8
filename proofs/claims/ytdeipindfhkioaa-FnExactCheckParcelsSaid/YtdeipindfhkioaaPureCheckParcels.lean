/- CheckParcels returns what the reference returns, for all arguments. -/
import Derived.Test.YtdeipindfhkioaaQ8
import Derived.Test.YtdeipindfhkioaaPureACheckParcels
import Derived.Test.YtdeipindfhkioaaPureToInt64
import Derived.Test.YtdeipindfhkioaaPureToTable
set_option linter.unusedVariables false
set_option linter.unusedSimpArgs false
namespace Go.Proofs.Ytdeipindfhkioaa.Pure
open Go.RowKit Go.Proofs.Ytdeipindfhkioaa.Q Go.Proofs.YtdeipindfhkioaaMine Go.Proofs.YtdeipindfhkioaaW.PrintWords
theorem CheckParcels : laws_FnExactCheckParcels.Pure := by
  intro l0_0 l0_1 l1 l2 ⟨_, hb0, hw0⟩ ⟨_, hb0', hw0'⟩ ⟨_, hb1, hw1⟩ ⟨_, hb2, hw2⟩
  apply Ev.rounds
  unfold laws_FnExactCheckParcels.f
  by_cases g1 : (l1.length : Int) > 1048576
  · simp only [if_pos g1]; exact Ev.now _
  simp only [if_neg g1]
  by_cases g2 : (l2.length : Int) > 1048576
  · simp only [if_pos g2]; exact Ev.now _
  simp only [if_neg g2]
  obtain ⟨r0, hr0, hd0⟩ := szTable l0_0 l0_1 (by omega) (by omega) (fun y hy => by have := (hw0' y hy).2.1; omega) (1048576) (by omega) (by omega)
  with_reducible refine Ev.bind hr0 ?_
  by_cases g0 : r0 < 0
  · simp only [if_pos g0]; exact Ev.now _
  simp only [if_neg g0]
  obtain ⟨hd0, hd0_, hs0, hl0, hy0⟩ := hd0.resolve_left g0
  have hl1 : l1.length ≤ 2097152 := by omega
  have hc1 : ∀ n ∈ l1, wfInt64 n := hw1
  have hl2 : l2.length ≤ 2097152 := by omega
  have hc2 : ∀ n ∈ l2, wfInt64 n := hw2
  have hT0 : wfTable l0_0 l0_1 := ⟨by omega, by omega, fun y hy => Nat.le_trans (hy0 y hy) (by omega), hw0, fun y hy => (hw0' y hy).2.2⟩
  have hS := specCheckParcels hT0 hl1 hc1 hl2 hc2
  have hI := implCheckParcels hT0 hl1 hc1 hl2 hc2
  repeat (first | exact Ev.now _ | (with_reducible refine Ev.bind hS ?_) | (with_reducible refine Ev.bind hI ?_) | (with_reducible refine Ev.bind (toInt64S l1 hl1) ?_) | (with_reducible refine Ev.bind (eqInt64S l1 hl1) ?_) | (with_reducible refine Ev.bind (toInt64S l2 hl2) ?_) | (with_reducible refine Ev.bind (eqInt64S l2 hl2) ?_) | (with_reducible refine Ev.bind (toTable hT0) ?_) | (with_reducible refine Ev.bind (eqTable hT0) ?_) | simp only [if_true, eq_self_iff_true, bne_self_eq_false, Bool.false_eq_true, if_false, Option.bind_some] | (show Ev (fun n => laws_FnExactCheckParcels.j0 n _ _) _; refine Ev.step (fun k => by simp only [laws_FnExactCheckParcels.j0]; rfl) ?_) | (show Ev (fun n => laws_FnExactCheckParcels.j0 n _ _ _) _; refine Ev.step (fun k => by simp only [laws_FnExactCheckParcels.j0]; rfl) ?_) | (show Ev (fun n => laws_FnExactCheckParcels.j0 n _ _ _ _) _; refine Ev.step (fun k => by simp only [laws_FnExactCheckParcels.j0]; rfl) ?_) | (show Ev (fun n => laws_FnExactCheckParcels.j0 n _ _ _ _ _) _; refine Ev.step (fun k => by simp only [laws_FnExactCheckParcels.j0]; rfl) ?_) | (show Ev (fun n => laws_FnExactCheckParcels.j0 n _ _ _ _ _ _) _; refine Ev.step (fun k => by simp only [laws_FnExactCheckParcels.j0]; rfl) ?_) | (show Ev (fun n => laws_FnExactCheckParcels.j0 n _ _ _ _ _ _ _) _; refine Ev.step (fun k => by simp only [laws_FnExactCheckParcels.j0]; rfl) ?_) | (show Ev (fun n => laws_FnExactCheckParcels.j0 n _ _ _ _ _ _ _ _) _; refine Ev.step (fun k => by simp only [laws_FnExactCheckParcels.j0]; rfl) ?_) | (show Ev (fun n => laws_FnExactCheckParcels.j0 n _ _ _ _ _ _ _ _ _) _; refine Ev.step (fun k => by simp only [laws_FnExactCheckParcels.j0]; rfl) ?_))
end Go.Proofs.Ytdeipindfhkioaa.Pure
