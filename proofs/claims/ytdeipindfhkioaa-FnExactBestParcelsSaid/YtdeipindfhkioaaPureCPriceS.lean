/- The price of a parcel, by the reference. -/
import Derived.Test.YtdeipindfhkioaaQ2
import Derived.Test.YtdeipindfhkioaaPureCTable
set_option linter.unusedVariables false
set_option linter.unusedSimpArgs false
namespace Go.Proofs.Ytdeipindfhkioaa.Pure
open Go.RowKit Go.Proofs.Ytdeipindfhkioaa.Q Go.Proofs.YtdeipindfhkioaaMine Go.Proofs.YtdeipindfhkioaaW.PrintWords Go.Proofs.YtdeipindfhkioaaW.PrintMore
theorem specPrice {st : List Int} {pr : List (List Int)} (h : wfTable st pr) (ho : okT st pr = true) {z : Int} (hz : 0 ≤ z ∧ z ≤ (pr.length : Int) - 1) (w : Int) : Ev (fun k => spec_l03Price.f k st pr z w) (priceOf st pr z w) := by
 unfold spec_l03Price.f priceOf
 refine Ev.bind (specStep h w) ?_
 have hlo := stepOf_lo st w
 have hhi := stepOf_hi st w
 obtain ⟨hr, hx⟩ := okT_row ho hz
 generalize stepOf st w = s at *
 by_cases hn : s < 0
 ·simp only [if_pos hn]; exact Ev.now _
 ·simp only [if_neg hn]
  rw [show rd_L1 pr z = pr.getD z.toNat [] from rfl, if_pos (by omega), if_pos (by omega), if_pos (by omega), if_pos (by omega)]
  refine Ev.eq (Ev.now _) ?_
  unfold priceAt rd
  have := hx s.toNat (by omega)
  exact wrap_sm (by omega) (by omega)
end Go.Proofs.Ytdeipindfhkioaa.Pure
