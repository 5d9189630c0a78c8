/- JoinedPrice: the reference and the program. -/
import Derived.Test.YtdeipindfhkioaaQ9
import Derived.Test.YtdeipindfhkioaaPureCItems
set_option linter.unusedVariables false
set_option linter.unusedSimpArgs false
namespace Go.Proofs.Ytdeipindfhkioaa.Pure
open Go.RowKit Go.Proofs.Ytdeipindfhkioaa.Q Go.Proofs.YtdeipindfhkioaaMine Go.Proofs.YtdeipindfhkioaaW.PrintWords Go.Proofs.YtdeipindfhkioaaW.PrintMore
def sumI (ws : List Int) : Int := foldi (fun _ (s : Int) w => wrap64 (s + w)) 0 ws 0
theorem specTotal {ws : List Int} (hl : ws.length ≤ 2097152) : Ev (fun k => spec_l03Total.f k ws) (sumI ws) := by
  unfold spec_l03Total.f sumI
  refine fold_in (fun k (s : Int) i => spec_l03Total.l0 k ws s i) ws 0 (fun _ _ => True) (fun _ (s : Int) w => wrap64 (s + w)) _ (fun m s hm _ => ⟨trivial, fun r hr => ?_⟩) 0 trivial (fun _ => ?_)
  · refine Ev.step (fun k => ?_) hr
    simp only [spec_l03Total.l0]
    rw [if_pos (by omega), if_pos (by omega), wrap_sm (i := (m : Int) + 1) (by omega) (by omega)]; rfl
  · refine Ev.step (f := fun _ => some _) (fun k => ?_) (Ev.now _)
    simp only [spec_l03Total.l0]; rw [if_neg (by omega)]
theorem implSum {ws : List Int} (hl : ws.length ≤ 2097152) : Ev (fun k => impl_sum.f k ws) (sumI ws) := by
  unfold impl_sum.f sumI
  refine fold_in (fun k (s : Int) i => impl_sum.l0 k s ws (ws.length : Int) i) ws 0 (fun _ _ => True) (fun _ (s : Int) w => wrap64 (s + w)) _ (fun m s hm _ => ⟨trivial, fun r hr => ?_⟩) 0 trivial (fun _ => ?_)
  · refine Ev.step (fun k => ?_) hr
    simp only [impl_sum.l0]
    rw [if_pos (by omega), if_pos (by omega), if_pos (by omega), wrap_sm (i := (m : Int) + 1) (by omega) (by omega)]; rfl
  · refine Ev.step (f := fun _ => some _) (fun k => ?_) (Ev.now _)
    simp only [impl_sum.l0]; rw [if_neg (by omega)]
def rJoinedPrice (st : List Int) (pr : List (List Int)) (z : Int) (ws : List Int) : Int × Int :=
  if itC st pr z ws = 0 then (if (ws.length : Int) = 0 then (0, 0) else if stepOf st (sumI ws) < 0 then (0, 6) else (priceAt pr z (stepOf st (sumI ws)), 0)) else (0, itC st pr z ws)
theorem specJoinedPrice {st : List Int} {pr : List (List Int)} (h : wfTable st pr) (z : Int) {ws : List Int} (hl : ws.length ≤ 2097152) (hw : ∀ w ∈ ws, wfInt64 w) : Ev (fun k => spec_JoinedPrice.f k st pr z ws) (rJoinedPrice st pr z ws) := by
  unfold spec_JoinedPrice.f rJoinedPrice
  refine Ev.bind (specItems h z hl) ?_
  by_cases hc : itC st pr z ws = 0
  · simp only [if_pos hc]
    obtain ⟨ho, hz, hws, _⟩ := itC_ok hc
    by_cases h0 : (ws.length : Int) = 0
    · simp only [if_pos h0]; exact Ev.now _
    · simp only [if_neg h0]
      refine Ev.bind (specTotal hl) (Ev.bind (specPrice h ho hz _) ?_)
      unfold priceOf
      by_cases hs : stepOf st (sumI ws) < 0
      · simp only [if_pos hs, if_pos (show (-1 : Int) < 0 by omega)]; exact Ev.now _
      · simp only [if_neg hs]
        have hx := (okT_row ho hz).2 (stepOf st (sumI ws)).toNat (by have := stepOf_hi st (sumI ws); omega)
        have hx' : ¬ priceAt pr z (stepOf st (sumI ws)) < 0 := by unfold priceAt; omega
        simp only [if_neg hx']; exact Ev.now _
  · simp only [if_neg hc]; exact Ev.now _
theorem implJoinedPrice {st : List Int} {pr : List (List Int)} (h : wfTable st pr) (z : Int) {ws : List Int} (hl : ws.length ≤ 2097152) (hw : ∀ w ∈ ws, wfInt64 w) : Ev (fun k => impl_JoinedPrice.f k st pr z ws) (rJoinedPrice st pr z ws) := by
  unfold impl_JoinedPrice.f rJoinedPrice
  refine Ev.bind (implItems h z ws) ?_
  by_cases hc : itC st pr z ws = 0
  · simp only [if_pos hc]
    obtain ⟨ho, hz, hws, _⟩ := itC_ok hc
    by_cases h0 : (ws.length : Int) = 0
    · simp only [if_pos h0]; exact Ev.now _
    · simp only [if_neg h0]
      refine Ev.bind (implSum hl) ?_
      simp only [implPrice h ho hz, Option.bind_some]
      by_cases hs : stepOf st (sumI ws) < 0
      · simp only [if_pos hs]; exact Ev.now _
      · simp only [if_neg hs]; exact Ev.now _
  · simp only [if_neg hc]; exact Ev.now _
end Go.Proofs.Ytdeipindfhkioaa.Pure
