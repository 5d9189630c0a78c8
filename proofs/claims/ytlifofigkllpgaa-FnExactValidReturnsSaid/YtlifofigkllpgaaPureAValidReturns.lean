/- ValidReturns: the reference and the program. -/
import Derived.Test.YtlifofigkllpgaaQ7
import Derived.Test.YtlifofigkllpgaaPureC50
import Derived.Test.YtlifofigkllpgaaPureToReturn
set_option linter.unusedVariables false
set_option linter.unusedSimpArgs false
namespace Go.Proofs.Ytlifofigkllpgaa.Pure
open Go.RowKit Go.Proofs.Ytlifofigkllpgaa.Q Go.Proofs.YtlifofigkllpgaaMine Go.Proofs.YtlifofigkllpgaaW.PrintWords Go.Proofs.YtlifofigkllpgaaW.PrintMore
def okR (x : S103) : Bool := inR x.f0 0 8 && (inR x.f1 0 11 && (inR x.f2 1 100 && inR x.f3 0 1000))
def okRs (l : List (S103)) : Bool := decide ((l.length : Int) ≤ 40) && l.all okR
theorem implOneValidReturns {x : S103} (h : wfReturn x) : impl_ValidReturns_1.f x.f0 x.f1 x.f2 x.f3 = some (!okR x) := by
  obtain ⟨w0, w1, w2, w3⟩ := h
  have := wf_i8 w0; have := wf_i8 w1; have := wf_i16 w2; have := wf_i16 w3
  unfold impl_ValidReturns_1.f okR
  unfold impl_isReturn.f impl_isBuyer.f impl_isItem.f
  simp only [within_eq, Option.bind_some]
  rw [wrap_id (i := x.f0) (by omega) (by omega), wrap_id (i := x.f1) (by omega) (by omega), wrap_id (i := x.f2) (by omega) (by omega), wrap_id (i := x.f3) (by omega) (by omega)]
  cases inR x.f0 0 8 <;> cases inR x.f1 0 11 <;> cases inR x.f2 1 100 <;> cases inR x.f3 0 1000 <;> rfl
theorem impl_okValidReturns {l : List (S103)} (h : ∀ x ∈ l, wfReturn x) : impl_ValidReturns.f l = some (okRs l) := by
  unfold impl_ValidReturns.f slices_ContainsFunc_Return_at_impl_ValidReturns_1.f okRs
  rw [anyO_of (q := fun x => !okR x) l (fun x hx => implOneValidReturns (h x hx)), any_not]
  by_cases hm : (l.length : Int) ≤ 40
  · simp [hm]
  · simp [hm]
theorem spec_okValidReturns {l : List (S103)} (hl : l.length ≤ 2097152) (h : ∀ x ∈ l, wfReturn x) : Ev (fun k => spec_l06Returns.f k l) (okRs l) := by
  unfold spec_l06Returns.f
  refine Ev.eq (all_all (spec_l06Returns.l0 · l ·) l z103 (by omega) okR false (decide ((l.length : Int) ≤ 40)) (fun k i h0 h1 => ?_)) ?_
  · simp only [spec_l06Returns.l0]
    by_cases hi : i < (l.length : Int)
    · have hm := (get_mem z103 (show i.toNat < l.length by omega)).1
      obtain ⟨w0, w1, w2, w3⟩ := h _ hm
      have := wf_i8 w0; have := wf_i8 w1; have := wf_i16 w2; have := wf_i16 w3
      simp only [if_pos hi, if_pos h0]
      unfold spec_l06Known.f
      simp only [l00In_eq, Option.bind_some]
      unfold rd_T103
      generalize l.getD i.toNat z103 = x at *
      rw [wrap_id (i := x.f0) (by omega) (by omega), wrap_id (i := x.f1) (by omega) (by omega), wrap_id (i := x.f2) (by omega) (by omega), wrap_id (i := x.f3) (by omega) (by omega)]
      unfold okR
      cases inR x.f0 0 8 <;> cases inR x.f1 0 11 <;> cases inR x.f2 1 100 <;> cases inR x.f3 0 1000 <;> simp
    · simp only [if_neg hi]
  · unfold okRs
    cases l.all okR <;> simp
theorem specValidReturns {l : List (S103)} (hl : l.length ≤ 2097152) (h : ∀ x ∈ l, wfReturn x) : Ev (fun k => spec_ValidReturns.f k l) (okRs l) := by
  unfold spec_ValidReturns.f; exact Ev.bind (spec_okValidReturns hl h) (Ev.now _)
theorem implValidReturns {l : List (S103)} (hl : l.length ≤ 2097152) (h : ∀ x ∈ l, wfReturn x) : Ev (fun k => impl_ValidReturns.f l) (okRs l) := Ev.val (fun _ => impl_okValidReturns h)
end Go.Proofs.Ytlifofigkllpgaa.Pure
