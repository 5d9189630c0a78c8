/- When parcels are valid, by the reference and by the program. -/
import Derived.Test.YtihnefkkgbokcaaDoorQ1
import Derived.Test.YtihnefkkgbokcaaDoorQ2
import Derived.Test.YtihnefkkgbokcaaDoorPureC50
import Derived.Test.YtihnefkkgbokcaaDoorPureEqParcel
set_option linter.unusedVariables false
set_option linter.unusedSimpArgs false
namespace Go.Proofs.YtihnefkkgbokcaaDoor.Pure
open Go.RowKit Go.Proofs.YtihnefkkgbokcaaDoor.Q Go.Proofs.YtihnefkkgbokcaaDoorMine Go.Proofs.YtihnefkkgbokcaaDoorW.PrintWords Go.Proofs.YtihnefkkgbokcaaDoorW.PrintMore
def okP (x : S40) : Bool := inR x.f0 0 8 && inR x.f1 1 5000
def okPs (l : List (S40)) : Bool := decide ((l.length : Int) ≤ 10) && l.all okP
theorem implOneValidParcels {x : S40} (h : wfParcel x) : impl_ValidParcels_1.f x.f0 x.f1 = some (!okP x) := by
  obtain ⟨w0, w1⟩ := h
  have := wf_i8 w0; have := wf_i16 w1
  unfold impl_ValidParcels_1.f okP
  
  simp only [within_eq, Option.bind_some]
  rw [wrap_id (i := x.f0) (by omega) (by omega), wrap_id (i := x.f1) (by omega) (by omega)]
  cases inR x.f0 0 8 <;> cases inR x.f1 1 5000 <;> rfl
theorem impl_okValidParcels {l : List (S40)} (h : ∀ x ∈ l, wfParcel x) : impl_ValidParcels.f l = some (okPs l) := by
  unfold impl_ValidParcels.f slices_ContainsFunc_Parcel_at_impl_ValidParcels_1.f okPs
  rw [anyO_of (q := fun x => !okP x) l (fun x hx => implOneValidParcels (h x hx)), any_not]
  by_cases hm : (l.length : Int) ≤ 10
  · simp [hm]
  · simp [hm]
theorem spec_okValidParcels {l : List (S40)} (hl : l.length ≤ 2097152) (h : ∀ x ∈ l, wfParcel x) : Ev (fun k => spec_l04Ok.f k l) (okPs l) := by
  unfold spec_l04Ok.f
  refine Ev.eq (all_all (spec_l04Ok.l0 · l ·) l z40 (by omega) okP false (decide ((l.length : Int) ≤ 10)) (fun k i h0 h1 => ?_)) ?_
  · simp only [spec_l04Ok.l0]
    by_cases hi : i < (l.length : Int)
    · have hm := (get_mem z40 (show i.toNat < l.length by omega)).1
      obtain ⟨w0, w1⟩ := h _ hm
      have := wf_i8 w0; have := wf_i16 w1
      simp only [if_pos hi, if_pos h0]
      
      simp only [l00In_eq, Option.bind_some]
      unfold rd_T40
      generalize l.getD i.toNat z40 = x at *
      rw [wrap_id (i := x.f0) (by omega) (by omega), wrap_id (i := x.f1) (by omega) (by omega)]
      unfold okP
      cases inR x.f0 0 8 <;> cases inR x.f1 1 5000 <;> simp
    · simp only [if_neg hi]
  · unfold okPs
    cases l.all okP <;> simp
end Go.Proofs.YtihnefkkgbokcaaDoor.Pure
