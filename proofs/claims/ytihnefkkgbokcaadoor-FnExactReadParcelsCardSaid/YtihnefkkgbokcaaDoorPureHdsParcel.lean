/- The look whether a law's marks in a list of Parcel are held. -/
import Derived.Test.YtihnefkkgbokcaaDoorQ4
import Derived.Test.YtihnefkkgbokcaaDoorPureMksParcel
set_option linter.unusedVariables false
set_option linter.unusedSimpArgs false
namespace Go.Proofs.YtihnefkkgbokcaaDoor.Pure
open Go.RowKit Go.Proofs.YtihnefkkgbokcaaDoor.Q Go.Proofs.YtihnefkkgbokcaaDoorMine Go.Proofs.YtihnefkkgbokcaaDoorW.PrintWords
theorem heldParcelSx (n : Nat) (hn : n ≤ 2097152) : Ev (fun k => laws_heldParcelS.f k (mksParcel n) 1) (1 + 2 * (n : Int)) := by
  unfold laws_heldParcelS.f
  have hl := mksParcel_length n
  suffices hh : ∀ (d m : Nat), m + d = n → Ev (fun k => laws_heldParcelS.l0 k (mksParcel n) (1 + 2 * (m : Int)) (m : Int)) (1 + 2 * (n : Int)) from hh n 0 (by omega)
  intro d
  induction d with
  | zero =>
    intro m hm
    obtain rfl : m = n := by omega
    refine Ev.step (f := fun _ => some (1 + 2 * (m : Int))) (fun k => ?_) (Ev.now _)
    simp only [laws_heldParcelS.l0]; rw [if_neg (by omega)]
  | succ d ih =>
    intro m hm
    refine Ev.step (f := fun k => laws_heldParcelS.l0 k (mksParcel n) (1 + 2 * ((m + 1 : Nat) : Int)) ((m + 1 : Nat) : Int)) (fun k => ?_) (ih (m + 1) (by omega))
    have hr : rd_T40 (mksParcel n) (m : Int) = mkParcel (1 + 2 * (m : Int)) := by
      unfold rd_T40; rw [Int.toNat_natCast, List.getD_eq_getElem?_getD, mksParcel_get (by omega)]; rfl
    have hn' : (1 + 2 * ((m + 1 : Nat) : Int)) = 1 + 2 * (m : Int) + 1 + 1 := by omega
    rw [hn']
    obtain ⟨c, hc⟩ : ∃ c : Int, c = 1 + 2 * (m : Int) := ⟨_, rfl⟩
    rw [← hc] at hr ⊢
    have hw1 : wrap64 (c + 1) = c + 1 := wrap_sm (by omega) (by omega)
    have hw2 : wrap64 (c + 1 + 1) = c + 1 + 1 := wrap_sm (by omega) (by omega)
    simp only [laws_heldParcelS.l0]
    rw [if_pos (by omega), if_pos (by omega), wrap_sm (i := (m : Int) + 1) (by omega) (by omega)]
    simp only [hw1, hw2, hr, mkParcel, if_true]
    rfl
end Go.Proofs.YtihnefkkgbokcaaDoor.Pure
