/- The copies, comparisons and sizes of a law's lists of Parcel. -/
import Derived.Test.YtihnefkkgbokcaaDoorQ1
import Derived.Test.YtihnefkkgbokcaaDoorQ3
import Derived.Test.YtihnefkkgbokcaaDoorPure0
set_option linter.unusedVariables false
set_option linter.unusedSimpArgs false
namespace Go.Proofs.YtihnefkkgbokcaaDoor.Pure
open Go.RowKit Go.Proofs.YtihnefkkgbokcaaDoor.Q Go.Proofs.YtihnefkkgbokcaaDoorMine Go.Proofs.YtihnefkkgbokcaaDoorW.PrintWords
/-- The program's own Parcel of a law's. -/
def cvParcel (x : S48) : S40 := ⟨x.f0, x.f1⟩
def wfParcelL (x : S48) : Prop := (Lit.int .i8 x.f0).wf = true ∧ (Lit.int .i16 x.f1).wf = true
def wfParcel (x : S40) : Prop := (Lit.int .i8 x.f0).wf = true ∧ (Lit.int .i16 x.f1).wf = true
theorem wfsParcel {l : List (S48)} (h : ∀ x ∈ l, wfParcelL x) : ∀ x ∈ l.map cvParcel, wfParcel x := by
  intro x hx
  obtain ⟨y, hy, rfl⟩ := List.mem_map.1 hx
  exact h y hy
theorem toParcelS (x : List (S48)) (hx : x.length ≤ 2097152) : Ev (fun k => laws_toParcelS.f k x) (x.map cvParcel) := by
  have e : ∀ k, laws_toParcelS.f k x = laws_toParcelS.l0 k x (List.replicate x.length z40) 0 := by
    intro k
    unfold laws_toParcelS.f
    rw [if_pos (by omega), if_pos (by omega), Int.toNat_natCast]
  refine Ev.congr e ?_
  exact fill_all laws_toParcelS.l0 cvParcel z48 z40 x (by omega) (fun k y i => by simp only [laws_toParcelS.l0, laws_toParcel.f, Option.bind_some]; rfl)
theorem eqParcelS (x : List (S40)) (hx : x.length ≤ 2097152) : Ev (fun k => laws_eqParcelS.f k x x) true := by
  have e : ∀ k, laws_eqParcelS.f k x x = laws_eqParcelS.l0 k x x 0 := by
    intro k
    unfold laws_eqParcelS.f
    rw [if_pos rfl]
  refine Ev.congr e ?_
  refine eq_all laws_eqParcelS.l0 x (by omega) (fun k i h0 h1 => ?_)
  simp only [laws_eqParcelS.l0]
  by_cases h : i < (x.length : Int)
  · simp only [if_pos h, if_pos h0, laws_eqParcel.f, if_true, Option.bind_some]
  · simp only [if_neg h]
theorem szParcelS (x : List (S48)) (hx : x.length ≤ 140737488351232) (left : Int) (h0 : 0 ≤ left) (h1 : left ≤ 1048576) : laws_szParcelS.f x left = some (if left - (x.length : Int) < 0 then -1 else left - (x.length : Int)) := by
  unfold laws_szParcelS.f
  rw [sz_eq _ hx _ h0 h1]
  split <;> rfl
end Go.Proofs.YtihnefkkgbokcaaDoor.Pure
