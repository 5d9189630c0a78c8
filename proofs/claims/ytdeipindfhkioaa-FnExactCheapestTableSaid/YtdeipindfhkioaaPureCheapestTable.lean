/- CheapestTable returns what the reference returns, for all arguments. -/
import Derived.Test.YtdeipindfhkioaaQ7
import Derived.Test.YtdeipindfhkioaaPureACheapestTable
set_option linter.unusedVariables false
set_option linter.unusedSimpArgs false
namespace Go.Proofs.Ytdeipindfhkioaa.Pure
open Go.RowKit Go.Proofs.Ytdeipindfhkioaa.Q Go.Proofs.YtdeipindfhkioaaMine Go.Proofs.YtdeipindfhkioaaW.PrintWords
theorem CheapestTable : laws_FnExactCheapestTable.Pure := by
  intro l0 a1 a2 ⟨_, hb0, hw0⟩ h1 h2
  apply Ev.rounds
  unfold laws_FnExactCheapestTable.f
  obtain ⟨r0, hr0, hd0⟩ := szTableS l0 (by omega) (fun y hy => ⟨by have := (hw0 y hy).1.2.1; omega, by have := (hw0 y hy).2.2.1; omega, fun z hz => by have := ((hw0 y hy).2.2.2 z hz).2.1; omega⟩) (1048576) (by omega) (by omega)
  with_reducible refine Ev.bind hr0 ?_
  by_cases g0 : r0 < 0
  · simp only [if_pos g0]; exact Ev.now _
  simp only [if_neg g0]
  obtain ⟨_, _, hl0, hs0⟩ := hd0.resolve_left g0
  have hy0 : ∀ y ∈ l0, wfTable y.f0 y.f1 := fun y hy => ⟨by have := (hs0 y hy).1; omega, by have := (hs0 y hy).2.1; omega, fun z hz => by have := (hs0 y hy).2.2 z hz; omega, (hw0 y hy).1.2.2, fun z hz => ((hw0 y hy).2.2.2 z hz).2.2⟩
  have hT0 : wfTs (l0.map cvT) := ⟨by rw [List.length_map]; omega, fun x hx => by
    obtain ⟨y, hy, rfl⟩ := List.mem_map.1 hx
    exact hy0 y hy⟩
  have hC := toTableS l0 (by omega) hy0
  have hE := eqTableS (l0.map cvT) hT0.1 hT0.2
  have hS := specCheapestTable hT0 a1 a2
  have hI := implCheapestTable hT0 a1 a2
  repeat (first | exact Ev.now _ | (with_reducible refine Ev.bind hS ?_) | (with_reducible refine Ev.bind hI ?_) | (with_reducible refine Ev.bind hC ?_) | (with_reducible refine Ev.bind hE ?_) | simp only [if_true, eq_self_iff_true, bne_self_eq_false, Bool.false_eq_true, if_false, Option.bind_some] | (show Ev (fun n => laws_FnExactCheapestTable.j0 n _ _ _) _; refine Ev.step (fun k => by simp only [laws_FnExactCheapestTable.j0]; rfl) ?_))
end Go.Proofs.Ytdeipindfhkioaa.Pure
