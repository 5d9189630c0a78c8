/- The look whether a law's marks in a list of Line are held. -/
import Derived.Test.YtnefepgfmmnbpaaQ7
import Derived.Test.YtnefepgfmmnbpaaPureMksLine
set_option linter.unusedVariables false
set_option linter.unusedSimpArgs false
namespace Go.Proofs.Ytnefepgfmmnbpaa.Pure
open Go.RowKit Go.Proofs.Ytnefepgfmmnbpaa.Q Go.Proofs.YtnefepgfmmnbpaaMine Go.Proofs.YtnefepgfmmnbpaaW.PrintWords
theorem heldLineSx (n : Nat) (hn : n ≤ 2097152) : Ev (fun k => laws_heldLineS.f k (mksLine n) 1) (1 + 4 * (n : Int)) := by
  unfold laws_heldLineS.f
  have hl := mksLine_length n
  suffices hh : ∀ (d m : Nat), m + d = n → Ev (fun k => laws_heldLineS.l0 k (mksLine n) (1 + 4 * (m : Int)) (m : Int)) (1 + 4 * (n : Int)) from hh n 0 (by omega)
  intro d
  induction d with
  | zero =>
    intro m hm
    obtain rfl : m = n := by omega
    refine Ev.step (f := fun _ => some (1 + 4 * (m : Int))) (fun k => ?_) (Ev.now _)
    simp only [laws_heldLineS.l0]; rw [if_neg (by omega)]
  | succ d ih =>
    intro m hm
    refine Ev.step (f := fun k => laws_heldLineS.l0 k (mksLine n) (1 + 4 * ((m + 1 : Nat) : Int)) ((m + 1 : Nat) : Int)) (fun k => ?_) (ih (m + 1) (by omega))
    have hr : rd_T54 (mksLine n) (m : Int) = mkLine (1 + 4 * (m : Int)) := by
      unfold rd_T54; rw [Int.toNat_natCast, List.getD_eq_getElem?_getD, mksLine_get (by omega)]; rfl
    have hn' : (1 + 4 * ((m + 1 : Nat) : Int)) = 1 + 4 * (m : Int) + 1 + 1 + 1 + 1 := by omega
    rw [hn']
    obtain ⟨c, hc⟩ : ∃ c : Int, c = 1 + 4 * (m : Int) := ⟨_, rfl⟩
    rw [← hc] at hr ⊢
    have hw1 : wrap64 (c + 1) = c + 1 := wrap_sm (by omega) (by omega)
    have hw2 : wrap64 (c + 1 + 1) = c + 1 + 1 := wrap_sm (by omega) (by omega)
    have hw3 : wrap64 (c + 1 + 1 + 1) = c + 1 + 1 + 1 := wrap_sm (by omega) (by omega)
    have hw4 : wrap64 (c + 1 + 1 + 1 + 1) = c + 1 + 1 + 1 + 1 := wrap_sm (by omega) (by omega)
    simp only [laws_heldLineS.l0]
    rw [if_pos (by omega), if_pos (by omega), wrap_sm (i := (m : Int) + 1) (by omega) (by omega)]
    simp only [hw1, hw2, hw3, hw4, hr, mkLine, if_true]
    rfl
end Go.Proofs.Ytnefepgfmmnbpaa.Pure
