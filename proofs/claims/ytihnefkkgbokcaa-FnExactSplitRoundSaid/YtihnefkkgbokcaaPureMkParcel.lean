/- A law's marks in a list of parcels: they come to some number that is not less than none. -/
import Derived.Test.YtihnefkkgbokcaaQ7
import Derived.Test.YtihnefkkgbokcaaPureToParcel
set_option linter.unusedVariables false
set_option linter.unusedSimpArgs false
namespace Go.Proofs.Ytihnefkkgbokcaa.Pure
open Go.RowKit Go.Proofs.Ytihnefkkgbokcaa.Q Go.Proofs.YtihnefkkgbokcaaMine Go.Proofs.YtihnefkkgbokcaaW.PrintWords
theorem markParcelS (x : List (S82)) (hx : x.length ≤ 2097152) : ∃ (r : Int) (y : List (S82)), Ev (fun k => laws_markParcelS.f k x 1) (r, y) ∧ 0 ≤ r := by
  unfold laws_markParcelS.f
  suffices hh : ∀ (d m : Nat), m + d = x.length → ∀ (y : List (S82)) (c : Int), y.length = x.length → 0 ≤ c → c ≤ 1 + 8 * (m : Int) → ∃ (r : Int) (z : List (S82)), Ev (fun k => laws_markParcelS.l0 k y c (m : Int)) (r, z) ∧ 0 ≤ r from hh x.length 0 (by omega) x 1 rfl (by omega) (by omega)
  intro d
  induction d with
  | zero =>
    intro m hm y c hy hc hc1
    exact ⟨c, y, Ev.step (f := fun _ => some (c, y)) (fun k => by simp only [laws_markParcelS.l0]; rw [if_neg (by omega)]) (Ev.now _), hc⟩
  | succ d ih =>
    intro m hm y c hy hc hc1
    have hw1 : wrap64 (c + 1) = c + 1 := wrap_sm (by omega) (by omega)
    have hw2 : wrap64 (c + 1 + 1) = c + 1 + 1 := wrap_sm (by omega) (by omega)
    obtain ⟨r, z, h, h0⟩ := ih (m + 1) (by omega) ((y.set (m : Int).toNat (⟨IntKind.i8.wrap c, (rd_T82 y (m : Int)).f1⟩ : S82)).set (m : Int).toNat ⟨(rd_T82 (y.set (m : Int).toNat (⟨IntKind.i8.wrap c, (rd_T82 y (m : Int)).f1⟩ : S82)) (m : Int)).f0, IntKind.i16.wrap (c + 1)⟩) (c + 1 + 1) (by rw [List.length_set, List.length_set]; exact hy) (by omega) (by omega)
    refine ⟨r, z, Ev.step (fun k => ?_) h, h0⟩
    simp only [laws_markParcelS.l0]
    rw [if_pos (by omega), if_pos (by omega), wrap_sm (i := (m : Int) + 1) (by omega) (by omega), Option.bind_some, hw1, hw2]; rfl
end Go.Proofs.Ytihnefkkgbokcaa.Pure
