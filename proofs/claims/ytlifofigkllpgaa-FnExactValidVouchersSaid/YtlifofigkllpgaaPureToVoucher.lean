/- The copies, comparisons and sizes of a law's lists of Voucher. -/
import Derived.Test.YtlifofigkllpgaaQ5
import Derived.Test.YtlifofigkllpgaaQ6
import Derived.Test.YtlifofigkllpgaaPure0
set_option linter.unusedVariables false
set_option linter.unusedSimpArgs false
namespace Go.Proofs.Ytlifofigkllpgaa.Pure
open Go.RowKit Go.Proofs.Ytlifofigkllpgaa.Q Go.Proofs.YtlifofigkllpgaaMine Go.Proofs.YtlifofigkllpgaaW.PrintWords
/-- The program's own Voucher of a law's. -/
def cvVoucher (x : S98) : S96 := ⟨x.f0, x.f1⟩
def wfVoucherL (x : S98) : Prop := (Lit.int .i32 x.f0).wf = true ∧ (Lit.int .i16 x.f1).wf = true
def wfVoucher (x : S96) : Prop := (Lit.int .i32 x.f0).wf = true ∧ (Lit.int .i16 x.f1).wf = true
theorem wfsVoucher {l : List (S98)} (h : ∀ x ∈ l, wfVoucherL x) : ∀ x ∈ l.map cvVoucher, wfVoucher x := by
  intro x hx
  obtain ⟨y, hy, rfl⟩ := List.mem_map.1 hx
  exact h y hy
theorem toVoucherS (x : List (S98)) (hx : x.length ≤ 2097152) : Ev (fun k => laws_toVoucherS.f k x) (x.map cvVoucher) := by
  have e : ∀ k, laws_toVoucherS.f k x = laws_toVoucherS.l0 k x (List.replicate x.length z96) 0 := by
    intro k
    unfold laws_toVoucherS.f
    rw [if_pos (by omega), if_pos (by omega), Int.toNat_natCast]
  refine Ev.congr e ?_
  exact fill_all laws_toVoucherS.l0 cvVoucher z98 z96 x (by omega) (fun k y i => by simp only [laws_toVoucherS.l0, laws_toVoucher.f, Option.bind_some]; rfl)
theorem eqVoucherS (x : List (S96)) (hx : x.length ≤ 2097152) : Ev (fun k => laws_eqVoucherS.f k x x) true := by
  have e : ∀ k, laws_eqVoucherS.f k x x = laws_eqVoucherS.l0 k x x 0 := by
    intro k
    unfold laws_eqVoucherS.f
    rw [if_pos rfl]
  refine Ev.congr e ?_
  refine eq_all laws_eqVoucherS.l0 x (by omega) (fun k i h0 h1 => ?_)
  simp only [laws_eqVoucherS.l0]
  by_cases h : i < (x.length : Int)
  · simp only [if_pos h, if_pos h0, laws_eqVoucher.f, if_true, Option.bind_some]
  · simp only [if_neg h]
theorem szVoucherS (x : List (S98)) (hx : x.length ≤ 140737488351232) (left : Int) (h0 : 0 ≤ left) (h1 : left ≤ 1048576) : laws_szVoucherS.f x left = some (if left - (x.length : Int) < 0 then -1 else left - (x.length : Int)) := by
  unfold laws_szVoucherS.f
  rw [sz_eq _ hx _ h0 h1]
  split <;> rfl
end Go.Proofs.Ytlifofigkllpgaa.Pure
