/- When a table is valid, by the reference and by the program. -/
import Derived.Test.YtdeipindfhkioaaDoorQ2
import Derived.Test.YtdeipindfhkioaaDoorQ5
import Derived.Test.YtdeipindfhkioaaDoorPureC50
import Derived.Test.YtdeipindfhkioaaDoorPureEqTab
set_option linter.unusedVariables false
set_option linter.unusedSimpArgs false
namespace Go.Proofs.YtdeipindfhkioaaDoor.Pure
open Go.RowKit Go.Proofs.YtdeipindfhkioaaDoor.Q Go.Proofs.YtdeipindfhkioaaDoorMine Go.Proofs.YtdeipindfhkioaaDoorW.PrintWords Go.Proofs.YtdeipindfhkioaaDoorW.PrintMore
def risesAt (st : List Int) (i : Nat) : Bool := decide (st.getD (i - 1) 0 < st.getD i 0)
def okSteps (st : List Int) : Bool := st.all (fun n => inR n 1 2000) && allIx 1 st.length (risesAt st)
def okPrices (n : Nat) (p : List Int) : Bool := decide (p.length = n) && p.all (fun x => inR x 0 10000)
def okT (st : List Int) (pr : List (List Int)) : Bool := (inR (st.length : Int) 1 10 && okSteps st) && (inR (pr.length : Int) 1 6 && pr.all (okPrices st.length))
theorem wfi16 {n : Int} (h : wfInt16 n) : -32768 ≤ n ∧ n ≤ 32767 := wf_i16 h
theorem mem16 {l : List Int} (h : ∀ n ∈ l, wfInt16 n) (i : Nat) : -32768 ≤ l.getD i 0 ∧ l.getD i 0 ≤ 32767 := by
 by_cases hi : i < l.length
 ·exact wfi16 (h _ (get_mem 0 hi).1)
 ·rw [List.getD_eq_getElem?_getD, List.getElem?_eq_none (by omega)]; simp
theorem wrap16 {n : Int} (h : -32768 ≤ n ∧ n ≤ 32767) : wrap64 n = n := wrap_sm (by omega) (by omega)
theorem areWithin_eq (l : List Int) (a b : Int) : impl_areWithin.f l a b = some (l.all (fun x => inR x a b)) := by
 unfold impl_areWithin.f f2z.f
 rw [anyO_of (q := fun x => !inR x a b) l (fun x _ => by unfold impl_areWithin_1.f; rw [within_eq]; rfl), any_not]
 simp
theorem wide_eq {l : List Int} (hl : l.length ≤ 2097152) (h : ∀ n ∈ l, wfInt16 n) : Ev (fun k => impl_wide_int16.f k l) l := by
 unfold impl_wide_int16.f
 have e : l.map wrap64 = l := by
  conv => rhs; rw [← List.map_id l]
  exact List.map_congr_left (fun n hn => wrap16 (wfi16 (h n hn)))
 refine Ev.eq (build_ev (fun k s i => impl_wide_int16.l0 k s l (l.length : Int) i) l 0 wrap64 id (fun m s hm hs r hr => ?_) ?_) e
 ·refine Ev.step (f := fun k => impl_wide_int16.l0 k (s ++ [wrap64 (l.getD m 0)]) l (l.length : Int) ((m + 1 : Nat) : Int)) (fun k => ?_) hr
  simp only [impl_wide_int16.l0]
  rw [if_pos (by omega), if_pos (by omega), if_pos (by omega), if_pos (by omega), wrap_sm (i := (m : Int) + 1) (by omega) (by omega)]; rfl
 ·refine Ev.step (f := fun _ => some (l.map wrap64)) (fun k => ?_) (Ev.now _)
  simp only [impl_wide_int16.l0]; rw [if_neg (by omega)]
theorem isRising_eq {l : List Int} (hl : l.length ≤ 2097152) : Ev (fun k => impl_isRising.f k l) (allIx 1 l.length (risesAt l)) := by
 unfold impl_isRising.f
 refine Ev.eq (all_ix (fun k i => impl_isRising.l0 k l i) l.length (risesAt l) false true 1 (fun m h0 hm hq => ?_) (fun m h0 hm hq r hr => ?_) (fun m hm h0 _ _ => ?_)) (by cases allIx 1 l.length (risesAt l) <;> rfl)
 ·refine Ev.step (f := fun _ => some false) (fun k => ?_) (Ev.now _)
  simp only [impl_isRising.l0]
  unfold risesAt at hq
  rw [decide_eq_false_iff_not] at hq
  rw [wrap_sm (i := (m : Int) - 1) (by omega) (by omega), show ((m : Int) - 1) = ((m - 1 : Nat) : Int) by omega, if_pos (by omega), if_pos (by omega), if_pos (by omega), if_pos (by omega)]
  unfold rd
  rw [Int.toNat_natCast, Int.toNat_natCast, if_pos (by omega)]
 ·refine Ev.step (f := fun k => impl_isRising.l0 k l ((m + 1 : Nat) : Int)) (fun k => ?_) hr
  simp only [impl_isRising.l0]
  unfold risesAt at hq
  rw [decide_eq_true_eq] at hq
  rw [wrap_sm (i := (m : Int) - 1) (by omega) (by omega), show ((m : Int) - 1) = ((m - 1 : Nat) : Int) by omega, if_pos (by omega), if_pos (by omega), if_pos (by omega), if_pos (by omega), wrap_sm (i := (m : Int) + 1) (by omega) (by omega)]
  unfold rd
  rw [Int.toNat_natCast, Int.toNat_natCast, if_neg (by omega)]; rfl
 ·refine Ev.step (f := fun _ => some true) (fun k => ?_) (Ev.now _)
  simp only [impl_isRising.l0]; rw [if_neg (by omega)]
theorem implT {st : List Int} {pr : List (List Int)} (h : wfTable st pr) : Ev (fun k => impl_ValidTable.f k st pr) (okT st pr) := by
 obtain ⟨hs, hp, hy, hws, hwp⟩ := h
 unfold impl_ValidTable.f impl_size_int64.f impl_size_int16S.f
 refine Ev.bind (wide_eq hs hws) ?_
 simp only [within_eq, areWithin_eq, Option.bind_some]
 unfold okT okSteps
 cases inR (st.length : Int) 1 10 with
 | false => exact Ev.now _
 | true =>
  simp only [if_true]
  cases st.all (fun n => inR n 1 2000) with
  | false => exact Ev.now _
  | true =>
   simp only [if_true]
   refine Ev.bind (isRising_eq hs) ?_
   cases allIx 1 st.length (risesAt st) with
   | false => exact Ev.now _
   | true =>
    simp only [if_true]
    cases inR (pr.length : Int) 1 6 with
    | false => exact Ev.now _
    | true =>
     simp only [if_true]
     unfold f6z.f
     refine Ev.bind (anyO_ev (q := fun p => !okPrices st.length p) pr (fun p hp' => ?_)) (Ev.eq (Ev.now _) ?_)
     ·unfold f3z.f okPrices
      by_cases hl : (p.length : Int) = (st.length : Int)
      ·simp only [if_pos hl]
       refine Ev.bind (wide_eq (hy p hp') (hwp p hp')) ?_
       simp only [areWithin_eq, Option.bind_some]
       refine Ev.eq (Ev.now _) ?_
       rw [decide_eq_true (by omega)]; simp
      ·simp only [if_neg hl]
       refine Ev.eq (Ev.now _) ?_
       rw [decide_eq_false (by omega)]; rfl
     ·rw [any_not]; simp
theorem specT {st : List Int} {pr : List (List Int)} (h : wfTable st pr) : Ev (fun k => spec_l03Ok.f k st pr) (okT st pr) := by
 obtain ⟨hs, hp, hy, hws, hwp⟩ := h
 unfold spec_l03Ok.f
 -- the steps
 let q0 : Nat → Bool := fun i => inR (st.getD i 0) 1 2000 && (decide (i = 0) || risesAt st i)
 have hq0 : allIx 0 st.length q0 = okSteps st := by
  apply Bool.eq_iff_iff.2
  unfold okSteps
  rw [all_getD 0, allIx_iff, Bool.and_eq_true, allIx_iff, allIx_iff]
  constructor
  ·intro h
   refine ⟨fun i h0 h1 => ?_, fun i h0 h1 => ?_⟩
   ·have := h i h0 h1; simp only [q0, Bool.and_eq_true] at this; exact this.1
   ·have := h i (by omega) h1; simp only [q0, Bool.and_eq_true, Bool.or_eq_true, decide_eq_true_eq] at this
    rcases this.2 with e | e
    ·omega
    ·exact e
  ·intro h i h0 h1
   simp only [q0, Bool.and_eq_true, Bool.or_eq_true, decide_eq_true_eq]
   refine ⟨h.1 i h0 h1, ?_⟩
   by_cases e : i = 0
   ·exact .inl e
   ·exact .inr (h.2 i (by omega) h1)
 -- one row of prices, and what follows
 have hrow : ∀ m, m < pr.length → ∀ r, (okPrices st.length (pr.getD m []) = true → Ev (fun k => spec_l03Ok.l1 k ((m + 1 : Nat) : Int) st pr) r) → (okPrices st.length (pr.getD m []) = false → r = false) → Ev (fun k => spec_l03Ok.l1 k (m : Int) st pr) r := by
  intro m hm r hr hf
  have hmem := (get_mem ([] : List Int) hm).1
  have hlen := hy _ hmem
  have hw := hwp _ hmem
  by_cases hl : ((pr.getD m []).length : Int) = (st.length : Int)
  ·refine Ev.step (f := fun k => spec_l03Ok.l2 k (m : Int) 0 st pr) (fun k => ?_) ?_
   ·simp only [spec_l03Ok.l1]
    rw [show rd_L1 pr (m : Int) = pr.getD m [] from rfl, if_pos (by omega), if_pos (by omega), if_pos hl]
   ·have hok : okPrices st.length (pr.getD m []) = (pr.getD m []).all (fun x => inR x 0 10000) := by unfold okPrices; rw [decide_eq_true (by omega), Bool.true_and]
    rw [hok] at hr hf
    have hmain : Ev (fun k => spec_l03Ok.l2 k (m : Int) 0 st pr) (if (pr.getD m []).all (fun x => inR x 0 10000) = true then r else false) := by
     refine all_ev (fun k i => spec_l03Ok.l2 k (m : Int) i st pr) (pr.getD m []) 0 _ false r (fun j hj hq => ?_) (fun j hj hq r' hr' => ?_) (fun ha => ?_)
     ·refine Ev.step (f := fun _ => some false) (fun k => ?_) (Ev.now _)
      simp only [spec_l03Ok.l2]
      rw [show rd_L1 pr (m : Int) = pr.getD m [] from rfl, if_pos (by omega), if_pos (by omega), if_pos (by omega), if_pos (by omega), show rd (pr.getD m []) (j : Int) = (pr.getD m []).getD j 0 from rfl, wrap16 (mem16 hw j), l00In_eq, hq]; rfl
     ·refine Ev.step (f := fun k => spec_l03Ok.l2 k (m : Int) ((j + 1 : Nat) : Int) st pr) (fun k => ?_) hr'
      simp only [spec_l03Ok.l2]
      rw [show rd_L1 pr (m : Int) = pr.getD m [] from rfl, if_pos (by omega), if_pos (by omega), if_pos (by omega), if_pos (by omega), show rd (pr.getD m []) (j : Int) = (pr.getD m []).getD j 0 from rfl, wrap16 (mem16 hw j), l00In_eq, hq, wrap_sm (i := (j : Int) + 1) (by omega) (by omega)]; rfl
     ·refine Ev.step (f := fun k => spec_l03Ok.l1 k ((m + 1 : Nat) : Int) st pr) (fun k => ?_) (hr ha)
      simp only [spec_l03Ok.l2]
      rw [show rd_L1 pr (m : Int) = pr.getD m [] from rfl, if_pos (by omega), if_pos (by omega), if_neg (by omega), wrap_sm (i := (m : Int) + 1) (by omega) (by omega)]; rfl
    refine Ev.eq hmain ?_
    cases ha : (pr.getD m []).all (fun x => inR x 0 10000) with
    | true => rfl
    | false => exact (hf ha).symm
  ·have : okPrices st.length (pr.getD m []) = false := by unfold okPrices; rw [decide_eq_false (by omega), Bool.false_and]
   rw [hf this]
   refine Ev.step (f := fun _ => some false) (fun k => ?_) (Ev.now _)
   simp only [spec_l03Ok.l1]
   rw [show rd_L1 pr (m : Int) = pr.getD m [] from rfl, if_pos (by omega), if_pos (by omega), if_neg hl]
 have hp1 : Ev (fun k => spec_l03Ok.l1 k 0 st pr) (if pr.all (okPrices st.length) = true then (inR (st.length : Int) 1 10 && inR (pr.length : Int) 1 6) else false) := by
  refine all_ev (fun k i => spec_l03Ok.l1 k i st pr) pr [] (okPrices st.length) false _ (fun m hm hq => ?_) (fun m hm hq r hr => ?_) (fun _ => ?_)
  ·exact hrow m hm false (fun h => by rw [hq] at h; cases h) (fun _ => rfl)
  ·exact hrow m hm r (fun _ => hr) (fun h => by rw [hq] at h; cases h)
  ·refine Ev.step (f := fun _ => some (inR (st.length : Int) 1 10 && inR (pr.length : Int) 1 6)) (fun k => ?_) (Ev.now _)
   simp only [spec_l03Ok.l1]; rw [if_neg (by omega), l00In_eq, l00In_eq]
   cases inR (st.length : Int) 1 10 <;> rfl
 have hp0 : Ev (fun k => spec_l03Ok.l0 k ((0 : Nat) : Int) st pr) (if allIx 0 st.length q0 = true then (if pr.all (okPrices st.length) = true then (inR (st.length : Int) 1 10 && inR (pr.length : Int) 1 6) else false) else false) := by
  have hstep : ∀ k m, m < st.length → spec_l03Ok.l0 (k + 1) (m : Int) st pr = if q0 m = true then spec_l03Ok.l0 k ((m + 1 : Nat) : Int) st pr else some false := by
   intro k m hm
   simp only [spec_l03Ok.l0]
   rw [if_pos (by omega), if_pos (by omega), show rd st (m : Int) = st.getD m 0 from rfl, wrap16 (mem16 hws m), l00In_eq, Option.bind_some, wrap_sm (i := (m : Int) + 1) (by omega) (by omega), wrap_sm (i := (m : Int) - 1) (by omega) (by omega)]
   show _ = if (inR (st.getD m 0) 1 2000 && (decide (m = 0) || risesAt st m)) = true then _ else _
   cases inR (st.getD m 0) 1 2000 with
   | false => rfl
   | true =>
    by_cases e : m = 0
    ·subst e; rfl
    ·rw [if_pos rfl, if_pos (by omega), if_pos (by omega), if_pos (by omega), show ((m : Int) - 1) = ((m - 1 : Nat) : Int) by omega, show rd st ((m - 1 : Nat) : Int) = st.getD (m - 1) 0 from rfl]
     unfold risesAt
     by_cases c : st.getD m 0 ≤ st.getD (m - 1) 0
     ·rw [if_pos c, decide_eq_false e, decide_eq_false (by omega)]; rfl
     ·rw [if_neg c, decide_eq_false e, decide_eq_true (by omega)]; rfl
  refine all_ix (fun k i => spec_l03Ok.l0 k i st pr) st.length q0 false _ 0 (fun m _ hm hq => ?_) (fun m _ hm hq r hr => ?_) (fun m hm _ _ _ => ?_)
  ·exact Ev.step (f := fun _ => some false) (fun k => by rw [hstep k m hm, hq]; rfl) (Ev.now _)
  ·exact Ev.step (f := fun k => spec_l03Ok.l0 k ((m + 1 : Nat) : Int) st pr) (fun k => by rw [hstep k m hm, hq]; rfl) hr
  ·refine Ev.step (f := fun k => spec_l03Ok.l1 k 0 st pr) (fun k => ?_) hp1
   simp only [spec_l03Ok.l0]; rw [if_neg (by omega)]
 refine Ev.eq hp0 ?_
 rw [hq0]
 unfold okT
 cases okSteps st <;> cases pr.all (okPrices st.length) <;> cases inR (st.length : Int) 1 10 <;> cases inR (pr.length : Int) 1 6 <;> rfl
theorem okT_bd {st : List Int} {pr : List (List Int)} (h : okT st pr = true) : (1 ≤ st.length ∧ st.length ≤ 10) ∧ (1 ≤ pr.length ∧ pr.length ≤ 6) ∧ (∀ n ∈ st, 1 ≤ n ∧ n ≤ 2000) ∧ (∀ i, 1 ≤ i → i < st.length → st.getD (i - 1) 0 < st.getD i 0) ∧ ∀ p ∈ pr, p.length = st.length ∧ ∀ x ∈ p, 0 ≤ x ∧ x ≤ 10000 := by
 unfold okT okSteps at h
 simp only [Bool.and_eq_true, inR_iff, List.all_eq_true, allIx_iff] at h
 obtain ⟨⟨h1, h2, h3⟩, h4, h5⟩ := h
 refine ⟨by omega, by omega, h2, fun i h0 hi => of_decide_eq_true (h3 i h0 hi), fun p hp => ?_⟩
 have := h5 p hp
 unfold okPrices at this
 simp only [Bool.and_eq_true, decide_eq_true_eq, List.all_eq_true, inR_iff] at this
 exact this
theorem okT_row {st : List Int} {pr : List (List Int)} (h : okT st pr = true) {z : Int} (hz : 0 ≤ z ∧ z ≤ (pr.length : Int) - 1) : (pr.getD z.toNat []).length = st.length ∧ ∀ i, i < st.length → 0 ≤ (pr.getD z.toNat []).getD i 0 ∧ (pr.getD z.toNat []).getD i 0 ≤ 10000 := by
 have hb := (okT_bd h).2.2.2.2 _ (get_mem [] (show z.toNat < pr.length by omega)).1
 exact ⟨hb.1, fun i hi => hb.2 _ (get_mem 0 (by omega)).1⟩
end Go.Proofs.YtdeipindfhkioaaDoor.Pure
