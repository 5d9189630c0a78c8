/- PricesOf: the reference and the program. -/
import Derived.Test.YtdeipindfhkioaaQ7
import Derived.Test.YtdeipindfhkioaaPureCItems
set_option linter.unusedVariables false
set_option linter.unusedSimpArgs false
namespace Go.Proofs.Ytdeipindfhkioaa.Pure
open Go.RowKit Go.Proofs.Ytdeipindfhkioaa.Q Go.Proofs.YtdeipindfhkioaaMine Go.Proofs.YtdeipindfhkioaaW.PrintWords Go.Proofs.YtdeipindfhkioaaW.PrintMore
def hasStep (st : List Int) (w : Int) : Bool := decide (0 ≤ stepOf st w)
theorem specAlone {st : List Int} {pr : List (List Int)} (h : wfTable st pr) (z : Int) {ws : List Int} (hl : ws.length ≤ 2097152) : Ev (fun k => spec_l03Alone.f k st pr z ws) (if itC st pr z ws = 0 then (if ws.all (hasStep st) = true then 0 else 6) else itC st pr z ws) := by
  unfold spec_l03Alone.f
  refine Ev.bind (specItems h z hl) ?_
  generalize itC st pr z ws = c
  have hbad : ∀ c : Int, c ≠ 0 → ∀ i : Int, Ev (fun k => spec_l03Alone.l0 k ws c i st pr) c := by
    intro c hc i
    refine Ev.step (f := fun k => spec_l03Alone.j1 k ws c i false st pr) (fun k => ?_) (Ev.step (f := fun _ => some c) (fun k => by simp only [spec_l03Alone.j1]; rfl) (Ev.now _))
    simp only [spec_l03Alone.l0]
    rw [show (c == 0) = false by simp [hc]]
    split <;> rfl
  by_cases hc : c = 0
  · subst hc
    rw [if_pos rfl]
    have hstep : ∀ m, m < ws.length → ∀ r, (hasStep st (ws.getD m 0) = true → Ev (fun k => spec_l03Alone.l0 k ws 0 ((m + 1 : Nat) : Int) st pr) r) → (hasStep st (ws.getD m 0) = false → r = 6) → Ev (fun k => spec_l03Alone.l0 k ws 0 (m : Int) st pr) r := by
      intro m hm r hr hf
      refine Ev.step (f := fun k => spec_l03Alone.j1 k ws 0 (m : Int) true st pr) (fun k => ?_) (Ev.step (f := fun k => (spec_l03Step.f k st pr (ws.getD m 0)).bind fun t => if t < 0 then spec_l03Alone.l0 k ws 6 ((m + 1 : Nat) : Int) st pr else spec_l03Alone.l0 k ws 0 ((m + 1 : Nat) : Int) st pr) (fun k => ?_) (Ev.bind (specStep h _) ?_))
      · simp only [spec_l03Alone.l0]; rw [if_pos (by omega)]; rfl
      · simp only [spec_l03Alone.j1]
        rw [if_pos trivial, if_pos (by omega), if_pos (by omega), wrap_sm (i := (m : Int) + 1) (by omega) (by omega)]; rfl
      · by_cases hs : stepOf st (ws.getD m 0) < 0
        · have : hasStep st (ws.getD m 0) = false := by unfold hasStep; rw [decide_eq_false (by omega)]
          simp only [if_pos hs]; rw [hf this]; exact hbad 6 (by omega) _
        · have : hasStep st (ws.getD m 0) = true := by unfold hasStep; rw [decide_eq_true (by omega)]
          simp only [if_neg hs]; exact hr this
    refine all_ev (fun k i => spec_l03Alone.l0 k ws 0 i st pr) ws 0 (hasStep st) 6 0 (fun m hm hq => hstep m hm 6 (fun h => by rw [hq] at h; cases h) (fun _ => rfl)) (fun m hm hq r hr => hstep m hm r (fun _ => hr) (fun h => by rw [hq] at h; cases h)) (fun _ => ?_)
    refine Ev.step (f := fun k => spec_l03Alone.j1 k ws 0 (ws.length : Int) false st pr) (fun k => ?_) (Ev.step (f := fun _ => some 0) (fun k => by simp only [spec_l03Alone.j1]; rfl) (Ev.now _))
    simp only [spec_l03Alone.l0]; rw [if_neg (by omega)]
  · rw [if_neg hc]; exact hbad c hc 0
def sumP (st : List Int) (pr : List (List Int)) (z : Int) (ws : List Int) : Int := foldi (fun _ (s : Int) w => wrap64 (s + priceAt pr z (stepOf st w))) 0 ws 0
def rPricesOf (st : List Int) (pr : List (List Int)) (z : Int) (ws : List Int) : Int × Int := if itC st pr z ws = 0 then (if ws.all (hasStep st) = true then (sumP st pr z ws, 0) else (0, 6)) else (0, itC st pr z ws)
theorem specPricesOf {st : List Int} {pr : List (List Int)} (h : wfTable st pr) (z : Int) {ws : List Int} (hl : ws.length ≤ 2097152) (hw : ∀ w ∈ ws, wfInt64 w) : Ev (fun k => spec_PricesOf.f k st pr z ws) (rPricesOf st pr z ws) := by
  unfold spec_PricesOf.f rPricesOf
  refine Ev.bind (specAlone h z hl) ?_
  by_cases hc : itC st pr z ws = 0
  · simp only [if_pos hc]
    obtain ⟨ho, hz, hws, _⟩ := itC_ok hc
    cases ha : ws.all (hasStep st) with
    | false => exact Ev.now _
    | true =>
      simp only [if_true]
      rw [List.all_eq_true] at ha
      unfold sumP
      refine fold_in (fun k (s : Int) i => spec_PricesOf.l0 k z ws s i st pr) ws 0 (fun _ _ => True) (fun _ (s : Int) w => wrap64 (s + priceAt pr z (stepOf st w))) _ (fun m s hm _ => ⟨trivial, fun r hr => ?_⟩) 0 trivial (fun _ => ?_)
      · refine Ev.step (f := fun k => (spec_l03Price.f k st pr z (ws.getD m 0)).bind fun t => spec_PricesOf.l0 k z ws (wrap64 (s + t)) ((m + 1 : Nat) : Int) st pr) (fun k => ?_) (Ev.bind (specPrice h ho hz _) ?_)
        · simp only [spec_PricesOf.l0]
          rw [if_pos (by omega), if_pos (by omega), wrap_sm (i := (m : Int) + 1) (by omega) (by omega)]; rfl
        · have := of_decide_eq_true (ha _ (get_mem 0 hm).1)
          unfold priceOf; rw [if_neg (by omega)]; exact hr
      · refine Ev.step (f := fun _ => some (_, 0)) (fun k => ?_) (Ev.now _)
        simp only [spec_PricesOf.l0]; rw [if_neg (by omega)]
  · simp only [if_neg hc]; exact Ev.now _
theorem implPricesOf {st : List Int} {pr : List (List Int)} (h : wfTable st pr) (z : Int) {ws : List Int} (hl : ws.length ≤ 2097152) (hw : ∀ w ∈ ws, wfInt64 w) : Ev (fun k => impl_PricesOf.f k st pr z ws) (rPricesOf st pr z ws) := by
  unfold impl_PricesOf.f rPricesOf
  refine Ev.bind (implItems h z ws) ?_
  by_cases hc : itC st pr z ws = 0
  · simp only [if_pos hc]
    obtain ⟨ho, hz, hws, _⟩ := itC_ok hc
    suffices hh : ∀ (d m : Nat), m + d = ws.length → ∀ s : Int, Ev (fun k => impl_PricesOf.l0 k z s ws (ws.length : Int) (m : Int) st pr) (if (ws.drop m).all (hasStep st) = true then (foldi (fun _ (s : Int) w => wrap64 (s + priceAt pr z (stepOf st w))) m (ws.drop m) s, 0) else (0, 6)) from hh ws.length 0 (by omega) 0
    intro d
    induction d with
    | zero =>
      intro m hm s
      rw [List.drop_eq_nil_of_le (by omega)]
      refine Ev.step (f := fun _ => some (s, 0)) (fun k => ?_) (Ev.now _)
      simp only [impl_PricesOf.l0]; rw [if_neg (by omega)]
    | succ d ih =>
      intro m hm s
      rw [drop_step 0 (by omega), List.all_cons]
      have hstep : ∀ k, impl_PricesOf.l0 (k + 1) z s ws (ws.length : Int) (m : Int) st pr = if stepOf st (ws.getD m 0) < 0 then some (0, 6) else impl_PricesOf.l0 k z (wrap64 (s + priceAt pr z (stepOf st (ws.getD m 0)))) ws (ws.length : Int) ((m + 1 : Nat) : Int) st pr := by
        intro k
        simp only [impl_PricesOf.l0]
        rw [if_pos (by omega), if_pos (by omega), if_pos (by omega), wrap_sm (i := (m : Int) + 1) (by omega) (by omega), show rd ws (m : Int) = ws.getD m 0 from rfl, implPrice h ho hz, Option.bind_some]
        by_cases hs : stepOf st (ws.getD m 0) < 0
        · simp only [if_pos hs]; rfl
        · simp only [if_neg hs]; rfl
      by_cases hs : stepOf st (ws.getD m 0) < 0
      · have e : hasStep st (ws.getD m 0) = false := by unfold hasStep; rw [decide_eq_false (by omega)]
        rw [e, Bool.false_and]
        exact Ev.step (f := fun _ => some (0, 6)) (fun k => by rw [hstep, if_pos hs]) (Ev.now _)
      · have e : hasStep st (ws.getD m 0) = true := by unfold hasStep; rw [decide_eq_true (by omega)]
        rw [e, Bool.true_and]
        exact Ev.step (fun k => by rw [hstep, if_neg hs]) (ih (m + 1) (by omega) _)
  · simp only [if_neg hc]; exact Ev.now _
end Go.Proofs.Ytdeipindfhkioaa.Pure
