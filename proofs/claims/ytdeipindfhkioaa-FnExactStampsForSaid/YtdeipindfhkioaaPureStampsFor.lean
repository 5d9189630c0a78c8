/- StampsFor returns what the reference returns, for all arguments. -/
import Derived.Test.YtdeipindfhkioaaQ13
import Derived.Test.YtdeipindfhkioaaPureAStampsFor
import Derived.Test.YtdeipindfhkioaaPureToInt64
import Derived.Test.YtdeipindfhkioaaPureToTable
import Derived.Test.YtdeipindfhkioaaPureMkInt64
import Derived.Test.YtdeipindfhkioaaPureMkTable
set_option linter.unusedVariables false
set_option linter.unusedSimpArgs false
namespace Go.Proofs.Ytdeipindfhkioaa.Pure
open Go.RowKit Go.Proofs.Ytdeipindfhkioaa.Q Go.Proofs.YtdeipindfhkioaaMine Go.Proofs.YtdeipindfhkioaaW.PrintWords
theorem StampsFor : laws_FnExactStampsFor.Pure := by
 intro l0_0 l0_1 a1 a2 l2 ⟨_, hb0, hw0⟩ ⟨_, hb0', hw0'⟩ h1 h1' ⟨_, hb2, hw2⟩
 apply Ev.rounds
 unfold laws_FnExactStampsFor.f
 by_cases g2 : (l2.length : Int) > 1048576
 ·simp only [if_pos g2]; exact Ev.now _
 simp only [if_neg g2]
 obtain ⟨r0, hr0, hd0⟩ := szTable l0_0 l0_1 (by omega) (by omega) (fun y hy => by have := (hw0' y hy).2.1; omega) (1048576) (by omega) (by omega)
 with_reducible refine Ev.bind hr0 ?_
 by_cases g0 : r0 < 0
 ·simp only [if_pos g0]; exact Ev.now _
 simp only [if_neg g0]
 obtain ⟨hd0, hd0_, hs0, hl0, hy0⟩ := hd0.resolve_left g0
 have hl2 : l2.length ≤ 2097152 := by omega
 have hT0 : wfTable l0_0 l0_1 := ⟨by omega, by omega, fun y hy => Nat.le_trans (hy0 y hy) (by omega), hw0, fun y hy => (hw0' y hy).2.2⟩
 obtain ⟨R, hS, hI, hT8⟩ := stamps hT0 a1 a2 hl2
 have hT : R.1.length ≤ 2097152 := Nat.le_trans hT8 (by decide)
 obtain ⟨r, y, z, hm, hr, hr2⟩ := markTable hT0
 obtain ⟨y2, hm2⟩ := markAny64 l2 hl2 r hr (by omega)
 have hM := markInt64S R.1 hT
 have hH := heldInt64S R.1.length hT
 have hn : ¬ (1 + (R.1.length : Int)) < 0 := by omega
 have hrn : ¬ (r + (l2.length : Int)) < 0 := by omega
 have hE := eqInt64S R.1 hT
 repeat (first | exact Ev.now _ | (with_reducible refine Ev.bind hS ?_) | (with_reducible refine Ev.bind hI ?_) | (with_reducible refine Ev.bind hM ?_) | (with_reducible refine Ev.bind hH ?_) | (with_reducible refine Ev.bind hm ?_) | (with_reducible refine Ev.bind hm2 ?_) | (with_reducible refine Ev.bind hE ?_) | (with_reducible refine Ev.bind (toInt64S l2 hl2) ?_) | (with_reducible refine Ev.bind (eqInt64S l2 hl2) ?_) | (with_reducible refine Ev.bind (toTable hT0) ?_) | (with_reducible refine Ev.bind (eqTable hT0) ?_) | simp only [if_true, eq_self_iff_true, bne_self_eq_false, Bool.false_eq_true, if_false, Option.bind_some, if_neg hn, if_neg hrn] | (show Ev (fun n => laws_FnExactStampsFor.j0 n _ _ _ _ _ _ _ _ _ _ _ _ _) _; refine Ev.step (fun k => by simp only [laws_FnExactStampsFor.j0]; rfl) ?_) | (show Ev (fun n => laws_FnExactStampsFor.j1 n _ _ _ _ _ _ _ _ _) _; refine Ev.step (fun k => by simp only [laws_FnExactStampsFor.j1]; rfl) ?_) | (show Ev (fun n => laws_FnExactStampsFor.j2 n _ _ _) _; refine Ev.step (fun k => by simp only [laws_FnExactStampsFor.j2]; rfl) ?_))
end Go.Proofs.Ytdeipindfhkioaa.Pure
