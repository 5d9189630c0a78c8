/- ValidParcels: the reference and the program. -/
import Derived.Test.YtlifofigkllpgaaQ2
import Derived.Test.YtlifofigkllpgaaQ3
import Derived.Test.YtlifofigkllpgaaPureC50
import Derived.Test.YtlifofigkllpgaaPureToParcel
set_option linter.unusedVariables false
set_option linter.unusedSimpArgs false
namespace Go.Proofs.Ytlifofigkllpgaa.Pure
open Go.RowKit Go.Proofs.Ytlifofigkllpgaa.Q Go.Proofs.YtlifofigkllpgaaMine Go.Proofs.YtlifofigkllpgaaW.PrintWords Go.Proofs.YtlifofigkllpgaaW.PrintMore
def okP (x : S73) : Bool := inR x.f0 0 8 && inR x.f1 1 5000
def okPs (l : List (S73)) : Bool := decide ((l.length : Int) ≤ 10) && l.all okP
theorem implOneValidParcels {x : S73} (h : wfParcel x) : impl_ValidParcels_1.f x.f0 x.f1 = some (!okP x) := by
  obtain ⟨w0, w1⟩ := h
  have := wf_i8 w0; have := wf_i16 w1
  unfold impl_ValidParcels_1.f okP
  
  simp only [within_eq, Option.bind_some]
  rw [wrap_id (i := x.f0) (by omega) (by omega), wrap_id (i := x.f1) (by omega) (by omega)]
  cases inR x.f0 0 8 <;> cases inR x.f1 1 5000 <;> rfl
theorem impl_okValidParcels {l : List (S73)} (h : ∀ x ∈ l, wfParcel x) : impl_ValidParcels.f l = some (okPs l) := by
  unfold impl_ValidParcels.f slices_ContainsFunc_Parcel_at_impl_ValidParcels_1.f okPs
  rw [anyO_of (q := fun x => !okP x) l (fun x hx => implOneValidParcels (h x hx)), any_not]
  by_cases hm : (l.length : Int) ≤ 10
  · simp [hm]
  · simp [hm]
theorem spec_okValidParcels {l : List (S73)} (hl : l.length ≤ 2097152) (h : ∀ x ∈ l, wfParcel x) : Ev (fun k => spec_l04Ok.f k l) (okPs l) := by
  unfold spec_l04Ok.f
  refine Ev.eq (all_all (spec_l04Ok.l0 · l ·) l z73 (by omega) okP false (decide ((l.length : Int) ≤ 10)) (fun k i h0 h1 => ?_)) ?_
  · simp only [spec_l04Ok.l0]
    by_cases hi : i < (l.length : Int)
    · have hm := (get_mem z73 (show i.toNat < l.length by omega)).1
      obtain ⟨w0, w1⟩ := h _ hm
      have := wf_i8 w0; have := wf_i16 w1
      simp only [if_pos hi, if_pos h0]
      
      simp only [l00In_eq, Option.bind_some]
      unfold rd_T73
      generalize l.getD i.toNat z73 = x at *
      rw [wrap_id (i := x.f0) (by omega) (by omega), wrap_id (i := x.f1) (by omega) (by omega)]
      unfold okP
      cases inR x.f0 0 8 <;> cases inR x.f1 1 5000 <;> simp
    · simp only [if_neg hi]
  · unfold okPs
    cases l.all okP <;> simp
theorem specValidParcels {l : List (S73)} (hl : l.length ≤ 2097152) (h : ∀ x ∈ l, wfParcel x) : Ev (fun k => spec_ValidParcels.f k l) (okPs l) := by
  unfold spec_ValidParcels.f; exact Ev.bind (spec_okValidParcels hl h) (Ev.now _)
theorem implValidParcels {l : List (S73)} (hl : l.length ≤ 2097152) (h : ∀ x ∈ l, wfParcel x) : Ev (fun k => impl_ValidParcels.f l) (okPs l) := Ev.val (fun _ => impl_okValidParcels h)
end Go.Proofs.Ytlifofigkllpgaa.Pure
