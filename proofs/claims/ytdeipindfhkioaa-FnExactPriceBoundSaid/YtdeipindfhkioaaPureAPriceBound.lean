/- PriceBound: the reference and the program. -/
import Derived.Test.YtdeipindfhkioaaQ9
import Derived.Test.YtdeipindfhkioaaQ10
import Derived.Test.YtdeipindfhkioaaPureCHave
import Derived.Test.YtdeipindfhkioaaPureCSum
set_option linter.unusedVariables false
set_option linter.unusedSimpArgs false
namespace Go.Proofs.Ytdeipindfhkioaa.Pure
open Go.RowKit Go.Proofs.Ytdeipindfhkioaa.Q Go.Proofs.YtdeipindfhkioaaMine Go.Proofs.YtdeipindfhkioaaW.PrintWords Go.Proofs.YtdeipindfhkioaaW.PrintMore
/-- The least of numbers, of which there is one at least. -/
def minOf (l : List Int) : Int := (l.drop 1).foldl mn (l.getD 0 0)
theorem minRun (l : List Int) (h : 0 < l.length) : l.foldl mn (l.getD 0 0) = minOf l := by
  cases l with
  | nil => simp at h
  | cons a t => show t.foldl mn (mn a a) = t.foldl mn a; rw [show mn a a = a by unfold mn; split <;> rfl]
theorem specMin (a b : Int) : spec_l00Min.f a b = some (mn a b) := by
  unfold spec_l00Min.f mn
  by_cases h : a < b
  · rw [if_pos h, if_neg (by omega)]
  · by_cases h2 : b < a
    · rw [if_neg h, if_pos h2]
    · rw [if_neg h, if_neg h2, show b = a by omega]
theorem specMax (a b : Int) : spec_l00Max.f a b = some (mx a b) := by
  unfold spec_l00Max.f mx
  by_cases h : a > b
  · rw [if_pos h, if_neg (by omega)]
  · by_cases h2 : a < b
    · rw [if_neg h, if_pos h2]
    · rw [if_neg h, if_neg h2, show b = a by omega]
theorem implMin {l : List Int} (hl : l.length ≤ 2097152) (h : 0 < l.length) : Ev (fun k => slices_Min_int64.f k l) (minOf l) := by
  unfold slices_Min_int64.f
  simp only [if_neg (show ¬ (l.length : Int) < 1 by omega), if_pos (show 0 < (l.length : Int) by omega)]
  refine fold_from (fun k s i => slices_Min_int64.l0 k l s i) l 0 (fun _ _ => True) (fun _ => mn) _ 1 (by omega) (fun m s _ hm _ => ⟨trivial, fun r hr => ?_⟩) _ trivial (fun _ => ?_)
  · refine Ev.step (fun k => ?_) hr
    simp only [slices_Min_int64.l0]
    rw [if_pos (by omega), if_pos (by omega), wrap_sm (i := (m : Int) + 1) (by omega) (by omega)]; rfl
  · refine Ev.step (f := fun _ => some (foldi (fun _ => mn) 1 (l.drop 1) (rd l 0))) (fun k => ?_) (Ev.eq (Ev.now _) ?_)
    · simp only [slices_Min_int64.l0]; rw [if_neg (by omega)]
    · rw [foldi_foldl]; rfl
def bestLow (st p : List Int) (s : Int) (w : Int) : Int := mx s (minOf (p.drop (stepOf st w).toNat))
def overall (st : List Int) (total : Int) (low : Int) : Int := wrap64 ((wrap64 (Int.tdiv (wrap64 ((wrap64 (total + st.getD (st.length - 1) 0)) - 1)) (st.getD (st.length - 1) 0))) * low)
def rPriceBound (st : List Int) (pr : List (List Int)) (z : Int) (ws : List Int) : Int × Int :=
  if alC st pr z ws = 0 then (if (ws.length : Int) = 0 then (0, 0) else (mx (foldi (fun _ => bestLow st (pr.getD z.toNat [])) 0 ws 0) (overall st (sumI ws) (minOf (pr.getD z.toNat []))), 0)) else (0, alC st pr z ws)
theorem specPriceBound {st : List Int} {pr : List (List Int)} (h : wfTable st pr) (z : Int) {ws : List Int} (hl : ws.length ≤ 2097152) (hw : ∀ w ∈ ws, wfInt64 w) : Ev (fun k => spec_PriceBound.f k st pr z ws) (rPriceBound st pr z ws) := by
  unfold spec_PriceBound.f rPriceBound
  refine Ev.bind (show Ev _ (alC st pr z ws) from specAlone h z hl) ?_
  by_cases hc : alC st pr z ws = 0
  · simp only [if_pos hc]
    obtain ⟨ho, hz, hws, _, hst⟩ := alC_ok hc
    by_cases h0 : (ws.length : Int) = 0
    · simp only [if_pos h0]; exact Ev.now _
    · simp only [if_neg h0]
      obtain ⟨hrl, hrx⟩ := okT_row ho hz
      obtain ⟨⟨hn1, hn10⟩, _, hsb, _, _⟩ := okT_bd ho
      rw [show rd_L1 pr z = pr.getD z.toNat [] from rfl]
      generalize hp : pr.getD z.toNat [] = p at *
      have hpe : rd_L1 pr z = p := hp
      have hwp : ∀ i, i < st.length → wrap64 (p.getD i 0) = p.getD i 0 := fun i hi => wrap_sm (by have := (hrx i hi).1; omega) (by have := (hrx i hi).2; omega)
      simp only [if_pos hz.1, if_pos (show z < (pr.length : Int) by omega), if_pos (show 0 < (p.length : Int) by omega)]
      rw [show rd p 0 = p.getD 0 0 from rfl, hwp 0 (by omega)]
      have hlast : 1 ≤ st.getD (st.length - 1) 0 ∧ st.getD (st.length - 1) 0 ≤ 2000 := hsb _ (get_mem 0 (by omega)).1
      refine fold_in (fun k s i => spec_PriceBound.l0 k z ws 0 s i st pr) p 0 (fun _ _ => True) (fun _ => mn) _ (fun m s hm _ => ⟨trivial, fun r hr => ?_⟩) _ trivial (fun _ => ?_)
      · refine Ev.step (fun k => ?_) hr
        simp only [spec_PriceBound.l0]
        rw [hpe, if_pos (by omega), if_pos (by omega), if_pos (by omega), if_pos (by omega), if_pos (by omega), show rd p (m : Int) = p.getD m 0 from rfl, hwp m (by omega), specMin, wrap_sm (i := (m : Int) + 1) (by omega) (by omega)]; rfl
      · rw [foldi_foldl, minRun p (by omega)]
        refine Ev.step (f := fun k => spec_PriceBound.l1 k z ws 0 (minOf p) 0 st pr) (fun k => ?_) ?_
        · simp only [spec_PriceBound.l0]; rw [if_neg (by omega)]
        · refine fold_in (fun k s i => spec_PriceBound.l1 k z ws s (minOf p) i st pr) ws 0 (fun _ _ => True) (fun _ => bestLow st p) _ (fun m s hm _ => ⟨trivial, fun r hr => ?_⟩) 0 trivial (fun _ => ?_)
          · have hs0 := hst _ (get_mem 0 hm).1
            have hs1 := stepOf_hi st (ws.getD m 0)
            refine Ev.step (f := fun k => (spec_l03Price.f k st pr z (ws.getD m 0)).bind fun a => (spec_l03Step.f k st pr (ws.getD m 0)).bind fun b => spec_PriceBound.l2 k z ws s (minOf p) (m : Int) a b st pr) (fun k => ?_) (Ev.bind (specPrice h ho hz _) (Ev.bind (specStep h _) ?_))
            · simp only [spec_PriceBound.l1]; rw [if_pos (by omega), if_pos (by omega)]; rfl
            · unfold priceOf priceAt
              rw [if_neg (by omega), hp]
              unfold bestLow at hr
              generalize stepOf st (ws.getD m 0) = q at *
              obtain ⟨q, rfl⟩ : ∃ n : Nat, q = (n : Int) := ⟨q.toNat, by omega⟩
              rw [Int.toNat_natCast] at hr ⊢
              refine fold_from (fun k s' i => spec_PriceBound.l2 k z ws s (minOf p) (m : Int) s' i st pr) p 0 (fun _ _ => True) (fun _ => mn) r q (by omega) (fun j s' _ hj _ => ⟨trivial, fun r' hr' => ?_⟩) _ trivial (fun _ => ?_)
              · refine Ev.step (fun k => ?_) hr'
                simp only [spec_PriceBound.l2]
                rw [hpe, if_pos (by omega), if_pos (by omega), if_pos (by omega), if_pos (by omega), if_pos (by omega), show rd p (j : Int) = p.getD j 0 from rfl, hwp j (by omega), specMin, wrap_sm (i := (j : Int) + 1) (by omega) (by omega)]; rfl
              · refine Ev.step (fun k => ?_) hr
                simp only [spec_PriceBound.l2]
                rw [if_neg (by omega), specMax, wrap_sm (i := (m : Int) + 1) (by omega) (by omega), foldi_foldl, Option.bind_some]
                have : (p.drop q).foldl mn (p.getD q 0) = minOf (p.drop q) := by
                  rw [← minRun (p.drop q) (by rw [List.length_drop]; omega)]
                  congr 1
                  simp [List.getD_eq_getElem?_getD]
                rw [this]; rfl
          · generalize foldi (fun _ => bestLow st p) 0 ws 0 = s
            have hlw : wrap64 (rd st (wrap64 ((st.length : Int) - 1))) = st.getD (st.length - 1) 0 := by
              rw [wrap_sm (i := (st.length : Int) - 1) (by omega) (by omega), show ((st.length : Int) - 1) = ((st.length - 1 : Nat) : Int) by omega]
              exact wrap_sm (i := st.getD (st.length - 1) 0) (by omega) (by omega)
            refine Ev.step (f := fun k => (spec_l03Total.f k ws).bind fun t => some (mx s (overall st t (minOf p)), 0)) (fun k => ?_) (Ev.bind (specTotal hl) (Ev.now _))
            simp only [spec_PriceBound.l1, hlw, specMax, Option.bind_some]
            rw [wrap_sm (i := (st.length : Int) - 1) (by omega) (by omega), if_neg (by omega), if_pos (by omega), if_pos (by omega)]
            simp only [if_neg (show ¬ st.getD (st.length - 1) 0 = 0 by omega)]; rfl
  · simp only [if_neg hc]; exact Ev.now _
theorem implPriceBound {st : List Int} {pr : List (List Int)} (h : wfTable st pr) (z : Int) {ws : List Int} (hl : ws.length ≤ 2097152) (hw : ∀ w ∈ ws, wfInt64 w) : Ev (fun k => impl_PriceBound.f k st pr z ws) (rPriceBound st pr z ws) := by
  unfold impl_PriceBound.f rPriceBound
  refine Ev.bind (implParcelCode h z ws) ?_
  by_cases hc : alC st pr z ws = 0
  · simp only [if_pos hc]
    obtain ⟨ho, hz, hws, _, hst⟩ := alC_ok hc
    by_cases h0 : (ws.length : Int) = 0
    · simp only [if_pos h0]; exact Ev.now _
    · simp only [if_neg h0]
      obtain ⟨hrl, hrx⟩ := okT_row ho hz
      obtain ⟨⟨hn1, hn10⟩, _, hsb, _, _⟩ := okT_bd ho
      have hmem := (get_mem ([] : List Int) (show z.toNat < pr.length by omega)).1
      rw [show rd_L1 pr z = pr.getD z.toNat [] from rfl]
      simp only [if_pos hz.1, if_pos (show z < (pr.length : Int) by omega)]
      refine Ev.bind (wide_eq (by omega) (h.2.2.2.2 _ hmem)) ?_
      generalize hp : pr.getD z.toNat [] = p at *
      have hlast : 1 ≤ st.getD (st.length - 1) 0 ∧ st.getD (st.length - 1) 0 ≤ 2000 := hsb _ (get_mem 0 (by omega)).1
      refine fold_in (fun k s i => impl_PriceBound.l0 k ws p s ws (ws.length : Int) i st pr) ws 0 (fun _ _ => True) (fun _ => bestLow st p) _ (fun m s hm _ => ⟨trivial, fun r hr => ?_⟩) 0 trivial (fun _ => ?_)
      · have hs0 := hst _ (get_mem 0 hm).1
        have hs1 := stepOf_hi st (ws.getD m 0)
        refine Ev.step (f := fun k => (slices_Min_int64.f k (p.drop (stepOf st (ws.getD m 0)).toNat)).bind fun t => impl_PriceBound.l0 k ws p (mx s t) ws (ws.length : Int) ((m + 1 : Nat) : Int) st pr) (fun k => ?_) (Ev.bind (implMin (by rw [List.length_drop]; omega) (by rw [List.length_drop]; omega)) hr)
        simp only [impl_PriceBound.l0]
        rw [if_pos (by omega), if_pos (by omega), if_pos (by omega), show rd ws (m : Int) = ws.getD m 0 from rfl, implStep h, Option.bind_some, if_pos (by omega), if_pos (by omega), wrap_sm (i := (m : Int) + 1) (by omega) (by omega)]; rfl
      · generalize foldi (fun _ => bestLow st p) 0 ws 0 = s
        have hlw : wrap64 (rd st (wrap64 ((st.length : Int) - 1))) = st.getD (st.length - 1) 0 := by
          rw [wrap_sm (i := (st.length : Int) - 1) (by omega) (by omega), show ((st.length : Int) - 1) = ((st.length - 1 : Nat) : Int) by omega]
          exact wrap_sm (i := st.getD (st.length - 1) 0) (by omega) (by omega)
        refine Ev.step (f := fun k => (impl_sum.f k ws).bind fun t => (slices_Min_int64.f k p).bind fun u => some (mx s (overall st t u), 0)) (fun k => ?_) (Ev.bind (implSum hl) (Ev.bind (implMin (by omega) (by omega)) (Ev.now _)))
        simp only [impl_PriceBound.l0, hlw]
        rw [wrap_sm (i := (st.length : Int) - 1) (by omega) (by omega), if_neg (by omega), if_pos (by omega), if_pos (by omega)]
        simp only [if_neg (show ¬ st.getD (st.length - 1) 0 = 0 by omega)]; rfl
  · simp only [if_neg hc]; exact Ev.now _
end Go.Proofs.Ytdeipindfhkioaa.Pure
