/- ValidVouchers: the reference and the program. -/
import Derived.Test.YtlifofigkllpgaaQ5
import Derived.Test.YtlifofigkllpgaaPureC50
import Derived.Test.YtlifofigkllpgaaPureToVoucher
set_option linter.unusedVariables false
set_option linter.unusedSimpArgs false
namespace Go.Proofs.Ytlifofigkllpgaa.Pure
open Go.RowKit Go.Proofs.Ytlifofigkllpgaa.Q Go.Proofs.YtlifofigkllpgaaMine Go.Proofs.YtlifofigkllpgaaW.PrintWords Go.Proofs.YtlifofigkllpgaaW.PrintMore
def okV (x : S96) : Bool := inR x.f0 0 1000000 && inR x.f1 0 1000
def okVs (l : List (S96)) : Bool := decide ((l.length : Int) ≤ 12) && l.all okV
theorem implOneValidVouchers {x : S96} (h : wfVoucher x) : impl_ValidVouchers_1.f x.f0 x.f1 = some (!okV x) := by
  obtain ⟨w0, w1⟩ := h
  have := wf_i32 w0; have := wf_i16 w1
  unfold impl_ValidVouchers_1.f okV
  
  simp only [within_eq, Option.bind_some]
  rw [wrap_id (i := x.f0) (by omega) (by omega), wrap_id (i := x.f1) (by omega) (by omega)]
  cases inR x.f0 0 1000000 <;> cases inR x.f1 0 1000 <;> rfl
theorem impl_okValidVouchers {l : List (S96)} (h : ∀ x ∈ l, wfVoucher x) : impl_ValidVouchers.f l = some (okVs l) := by
  unfold impl_ValidVouchers.f slices_ContainsFunc_Voucher_at_impl_ValidVouchers_1.f okVs
  rw [anyO_of (q := fun x => !okV x) l (fun x hx => implOneValidVouchers (h x hx)), any_not]
  by_cases hm : (l.length : Int) ≤ 12
  · simp [hm]
  · simp [hm]
theorem spec_okValidVouchers {l : List (S96)} (hl : l.length ≤ 2097152) (h : ∀ x ∈ l, wfVoucher x) : Ev (fun k => spec_l06Vouchers.f k l) (okVs l) := by
  unfold spec_l06Vouchers.f
  refine Ev.eq (all_all (spec_l06Vouchers.l0 · l ·) l z96 (by omega) okV false (decide ((l.length : Int) ≤ 12)) (fun k i h0 h1 => ?_)) ?_
  · simp only [spec_l06Vouchers.l0]
    by_cases hi : i < (l.length : Int)
    · have hm := (get_mem z96 (show i.toNat < l.length by omega)).1
      obtain ⟨w0, w1⟩ := h _ hm
      have := wf_i32 w0; have := wf_i16 w1
      simp only [if_pos hi, if_pos h0]
      unfold spec_l06Days.f
      simp only [l00In_eq, Option.bind_some]
      unfold rd_T96
      generalize l.getD i.toNat z96 = x at *
      rw [wrap_id (i := x.f0) (by omega) (by omega), wrap_id (i := x.f1) (by omega) (by omega)]
      unfold okV
      cases inR x.f0 0 1000000 <;> cases inR x.f1 0 1000 <;> simp
    · simp only [if_neg hi]
  · unfold okVs
    cases l.all okV <;> simp
theorem specValidVouchers {l : List (S96)} (hl : l.length ≤ 2097152) (h : ∀ x ∈ l, wfVoucher x) : Ev (fun k => spec_ValidVouchers.f k l) (okVs l) := by
  unfold spec_ValidVouchers.f; exact Ev.bind (spec_okValidVouchers hl h) (Ev.now _)
theorem implValidVouchers {l : List (S96)} (hl : l.length ≤ 2097152) (h : ∀ x ∈ l, wfVoucher x) : Ev (fun k => impl_ValidVouchers.f l) (okVs l) := Ev.val (fun _ => impl_okValidVouchers h)
end Go.Proofs.Ytlifofigkllpgaa.Pure
