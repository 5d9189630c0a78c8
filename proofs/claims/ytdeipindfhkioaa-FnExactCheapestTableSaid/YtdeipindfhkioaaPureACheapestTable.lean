/- CheapestTable: the reference and the program. -/
import Derived.Test.YtdeipindfhkioaaQ3
import Derived.Test.YtdeipindfhkioaaQ5
import Derived.Test.YtdeipindfhkioaaPureCPrice
import Derived.Test.YtdeipindfhkioaaPureToTableS
set_option linter.unusedVariables false
set_option linter.unusedSimpArgs false
namespace Go.Proofs.Ytdeipindfhkioaa.Pure
open Go.RowKit Go.Proofs.Ytdeipindfhkioaa.Q Go.Proofs.YtdeipindfhkioaaMine Go.Proofs.YtdeipindfhkioaaW.PrintWords Go.Proofs.YtdeipindfhkioaaW.PrintMore
section
variable {l : List (S38)}
def okTs (l : List (S38)) : Bool := l.all (fun x => okT x.f0 x.f1)
def chStep (z w : Int) (m : Nat) (s : Int × Int) (x : S38) : Int × Int :=
  if z < (x.f1.length : Int) then (if priceOf x.f0 x.f1 z w ≥ 0 then (if s.1 < 0 ∨ priceOf x.f0 x.f1 z w < s.2 then ((m : Int), priceOf x.f0 x.f1 z w) else s) else s) else s
def chEnd (s : Int × Int) : Int × Int × Int := if s.1 < 0 then (0, 0, 6) else (s.1, s.2, 0)
def rCheap (l : List (S38)) (z w : Int) : Int × Int × Int :=
  if okTs l = true then (if inR w 1 2000 = true ∧ 0 ≤ z then (if (l.length : Int) > 6 then (0, 0, 3) else chEnd (foldi (chStep z w) 0 l (-1, 0))) else (0, 0, 2)) else (0, 0, 1)
theorem cheap_ok (h : okTs l = true) (hw : wfTs l) {m : Nat} (hm : m < l.length) : okT (l.getD m z38).f0 (l.getD m z38).f1 = true ∧ wfTable (l.getD m z38).f0 (l.getD m z38).f1 := by
  have hmem := (get_mem z38 hm).1
  exact ⟨(List.all_eq_true.1 h) _ hmem, hw.2 _ hmem⟩
theorem specLoop (h : okTs l = true) (hw : wfTs l) (z w : Int) (hz : 0 ≤ z) : Ev (fun k => spec_CheapestTable.l1 k l z w (-1) 0 0) (chEnd (foldi (chStep z w) 0 l (-1, 0))) := by
  have hl := hw.1
  refine fold_in (fun k (s : Int × Int) i => spec_CheapestTable.l1 k l z w s.1 s.2 i) l z38 (fun _ _ => True) (chStep z w) _ (fun m s hm _ => ⟨trivial, fun r hr => ?_⟩) (-1, 0) trivial (fun _ => ?_)
  · obtain ⟨ho, hwt⟩ := cheap_ok h hw hm
    have e0 : rd_T38 l (m : Int) = l.getD m z38 := by unfold rd_T38; rw [Int.toNat_natCast]
    have ew : wrap64 ((m : Int) + 1) = ((m + 1 : Nat) : Int) := by rw [wrap_sm (i := (m : Int) + 1) (by omega) (by omega)]; rfl
    have hm1 : (m : Int) < l.length := by omega
    have hb := (okT_bd ho).2.1
    generalize l.getD m z38 = x at *
    have hz1 : wrap64 ((x.f1.length : Int) - 1) = (x.f1.length : Int) - 1 := wrap_sm (by omega) (by omega)
    have hzone : spec_l03Zone.f x.f0 x.f1 z = some (decide (z < (x.f1.length : Int))) := by
      unfold spec_l03Zone.f
      rw [hz1, l00In_eq, Option.bind_some]
      congr 1
      by_cases c : z < (x.f1.length : Int)
      · rw [decide_eq_true c]; exact inR_iff.2 ⟨hz, by omega⟩
      · rw [decide_eq_false c]; exact inR_false.2 (.inr (by omega))
    have hstep : ∀ k, spec_CheapestTable.l1 (k + 1) l z w s.1 s.2 (m : Int) = (spec_l03Zone.f x.f0 x.f1 z).bind fun t133 => (if t133 = true then ((spec_l03Price.f k x.f0 x.f1 z w).bind fun t135 => (if t135 ≥ 0 then (if s.1 < 0 then (spec_CheapestTable.l1 k l z w m t135 ((m + 1 : Nat) : Int)) else (if t135 < s.2 then (spec_CheapestTable.l1 k l z w m t135 ((m + 1 : Nat) : Int)) else (spec_CheapestTable.l1 k l z w s.1 s.2 ((m + 1 : Nat) : Int)))) else (spec_CheapestTable.l1 k l z w s.1 s.2 ((m + 1 : Nat) : Int)))) else (spec_CheapestTable.l1 k l z w s.1 s.2 ((m + 1 : Nat) : Int))) := by
      intro k
      simp only [spec_CheapestTable.l1]
      rw [if_pos hm1, if_pos (Int.natCast_nonneg m), e0, ew]
    refine Ev.step hstep ?_
    simp only [hzone, Option.bind_some]
    unfold chStep at hr
    by_cases c : z < (x.f1.length : Int)
    · rw [if_pos c] at hr
      simp only [decide_eq_true c, if_true]
      refine Ev.bind (specPrice hwt ho ⟨hz, by omega⟩ w) ?_
      by_cases c1 : priceOf x.f0 x.f1 z w ≥ 0
      · rw [if_pos c1] at hr; simp only [if_pos c1]
        by_cases c2 : s.1 < 0
        · rw [if_pos (.inl c2)] at hr; simp only [if_pos c2]; exact hr
        · simp only [if_neg c2]
          by_cases c3 : priceOf x.f0 x.f1 z w < s.2
          · rw [if_pos (.inr c3)] at hr; simp only [if_pos c3]; exact hr
          · rw [if_neg (fun hh => hh.elim c2 c3)] at hr; simp only [if_neg c3]; exact hr
      · rw [if_neg c1] at hr; simp only [if_neg c1]; exact hr
    · rw [if_neg c] at hr
      simp only [decide_eq_false c, Bool.false_eq_true, if_false]; exact hr
  · unfold chEnd
    generalize foldi (chStep z w) 0 l (-1, 0) = s
    refine Ev.step (f := fun _ => if s.1 < 0 then some (0, 0, 6) else some (s.1, s.2, 0)) (fun k => ?_) ?_
    · simp only [spec_CheapestTable.l1]
      rw [if_neg (Int.lt_irrefl _)]
    · split <;> exact Ev.now _
theorem implLoop (h : okTs l = true) (hw : wfTs l) (z w : Int) (hz : 0 ≤ z) : Ev (fun k => impl_CheapestTable.l0 k z w (-1) 0 l (l.length : Int) 0) (chEnd (foldi (chStep z w) 0 l (-1, 0))) := by
  have hl := hw.1
  refine fold_in (fun k (s : Int × Int) i => impl_CheapestTable.l0 k z w s.1 s.2 l (l.length : Int) i) l z38 (fun _ _ => True) (chStep z w) _ (fun m s hm _ => ⟨trivial, fun r hr => ?_⟩) (-1, 0) trivial (fun _ => ?_)
  · obtain ⟨ho, hwt⟩ := cheap_ok h hw hm
    have e0 : rd_T38 l (m : Int) = l.getD m z38 := by unfold rd_T38; rw [Int.toNat_natCast]
    have ew : wrap64 ((m : Int) + 1) = ((m + 1 : Nat) : Int) := by rw [wrap_sm (i := (m : Int) + 1) (by omega) (by omega)]; rfl
    have hm1 : (m : Int) < l.length := by omega
    generalize l.getD m z38 = x at *
    have hsize : impl_size_int16S.f x.f1 = some (x.f1.length : Int) := by unfold impl_size_int16S.f; rfl
    have hstep : ∀ k, impl_CheapestTable.l0 (k + 1) z w s.1 s.2 l (l.length : Int) (m : Int) = (impl_size_int16S.f x.f1).bind fun t215 => (if z ≥ t215 then (impl_CheapestTable.l0 k z w s.1 s.2 l (l.length : Int) ((m + 1 : Nat) : Int)) else ((impl_Table_price.f x.f0 x.f1 z w).bind fun bt216 => (if bt216.2 = true then (if s.1 < 0 then (impl_CheapestTable.l0 k z w m bt216.1 l (l.length : Int) ((m + 1 : Nat) : Int)) else (if bt216.1 < s.2 then (impl_CheapestTable.l0 k z w m bt216.1 l (l.length : Int) ((m + 1 : Nat) : Int)) else (impl_CheapestTable.l0 k z w s.1 s.2 l (l.length : Int) ((m + 1 : Nat) : Int)))) else (impl_CheapestTable.l0 k z w s.1 s.2 l (l.length : Int) ((m + 1 : Nat) : Int))))) := by
      intro k
      simp only [impl_CheapestTable.l0]
      rw [if_pos hm1, if_pos (Int.natCast_nonneg m), if_pos hm1, e0, ew]
    refine Ev.step hstep ?_
    simp only [hsize, Option.bind_some]
    unfold chStep at hr
    by_cases c : z < (x.f1.length : Int)
    · rw [if_pos c] at hr
      simp only [if_neg (show ¬ z ≥ (x.f1.length : Int) by omega), implPrice hwt ho ⟨hz, by omega⟩ w, Option.bind_some]
      have hrow := (okT_row ho (z := z) ⟨hz, by omega⟩)
      have hlo := stepOf_lo x.f0 w
      have hhi := stepOf_hi x.f0 w
      unfold priceOf at hr
      by_cases c1 : stepOf x.f0 w < 0
      · simp only [if_pos c1, Bool.false_eq_true, if_false]
        rw [if_pos c1, if_neg (by omega)] at hr
        exact hr
      · simp only [if_neg c1, if_true]
        have hp : priceAt x.f1 z (stepOf x.f0 w) ≥ 0 := (hrow.2 (stepOf x.f0 w).toNat (by omega)).1
        rw [if_neg c1, if_pos hp] at hr
        by_cases c2 : s.1 < 0
        · rw [if_pos (.inl c2)] at hr; simp only [if_pos c2]; exact hr
        · simp only [if_neg c2]
          by_cases c3 : priceAt x.f1 z (stepOf x.f0 w) < s.2
          · rw [if_pos (.inr c3)] at hr; simp only [if_pos c3]; exact hr
          · rw [if_neg (fun hh => hh.elim c2 c3)] at hr; simp only [if_neg c3]; exact hr
    · rw [if_neg c] at hr
      simp only [if_pos (show z ≥ (x.f1.length : Int) by omega)]; exact hr
  · unfold chEnd
    generalize foldi (chStep z w) 0 l (-1, 0) = s
    refine Ev.step (f := fun _ => if s.1 < 0 then some (0, 0, 6) else some (s.1, s.2, 0)) (fun k => ?_) ?_
    · simp only [impl_CheapestTable.l0]
      rw [if_neg (Int.lt_irrefl _)]
    · split <;> exact Ev.now _
theorem specCheapestTable (hw : wfTs l) (z w : Int) : Ev (fun k => spec_CheapestTable.f k l z w) (rCheap l z w) := by
  have hl := hw.1
  unfold spec_CheapestTable.f rCheap okTs
  by_cases hok : l.all (fun x => okT x.f0 x.f1) = true
  · refine Ev.eq (all_ev (fun k i => spec_CheapestTable.l0 k l z w i) l z38 (fun x => okT x.f0 x.f1) (0, 0, 1) (if inR w 1 2000 = true ∧ 0 ≤ z then (if (l.length : Int) > 6 then (0, 0, 3) else chEnd (foldi (chStep z w) 0 l (-1, 0))) else (0, 0, 2)) (fun m hm hq => ?_) (fun m hm hq r hr => ?_) (fun _ => ?_)) rfl
    · exact absurd ((List.all_eq_true.1 hok) _ (get_mem z38 hm).1) (by rw [hq]; simp)
    · have e0 : rd_T38 l (m : Int) = l.getD m z38 := by unfold rd_T38; rw [Int.toNat_natCast]
      have ew : wrap64 ((m : Int) + 1) = ((m + 1 : Nat) : Int) := by rw [wrap_sm (i := (m : Int) + 1) (by omega) (by omega)]; rfl
      have hm1 : (m : Int) < l.length := by omega
      have hT := specT (hw.2 _ (get_mem z38 hm).1)
      generalize l.getD m z38 = x at *
      refine Ev.step (f := fun k => (spec_l03Ok.f k x.f0 x.f1).bind fun t130 => (if t130 = true then (spec_CheapestTable.l0 k l z w ((m + 1 : Nat) : Int)) else (some (0, 0, 1)))) (fun k => ?_) ?_
      · simp only [spec_CheapestTable.l0]
        rw [if_pos hm1, if_pos (Int.natCast_nonneg m), e0, ew]
      · refine Ev.bind hT ?_
        rw [hq]; simp only [if_true]; exact hr
    · have hwt : spec_l03Weight.f w = some (inR w 1 2000) := by
        unfold spec_l03Weight.f
        try rw [l00In_eq]
        try rfl
      refine Ev.step (f := fun k => if inR w 1 2000 = true then (spec_CheapestTable.j1 k l z w (decide (z < 0))) else (spec_CheapestTable.j1 k l z w true)) (fun k => ?_) ?_
      · simp only [spec_CheapestTable.l0]
        rw [if_neg (Int.lt_irrefl _), hwt, Option.bind_some]
      · by_cases c : inR w 1 2000 = true
        · simp only [if_pos c]
          by_cases c2 : z < 0
          · rw [decide_eq_true c2, if_neg (fun hh => by have := hh.2; omega)]
            exact Ev.step (f := fun _ => some (0, 0, 2)) (fun k => by simp only [spec_CheapestTable.j1, if_true]) (Ev.now _)
          · rw [decide_eq_false c2, if_pos ⟨c, by omega⟩]
            refine Ev.step (f := fun k => if (l.length : Int) > 6 then some (0, 0, 3) else spec_CheapestTable.l1 k l z w (-1) 0 0) (fun k => by simp only [spec_CheapestTable.j1, Bool.false_eq_true, if_false]) ?_
            by_cases c3 : (l.length : Int) > 6
            · simp only [if_pos c3]; exact Ev.now _
            · simp only [if_neg c3]; exact specLoop hok hw z w (by omega)
        · simp only [if_neg c]
          rw [if_neg (fun hh => c hh.1)]
          exact Ev.step (f := fun _ => some (0, 0, 2)) (fun k => by simp only [spec_CheapestTable.j1, if_true]) (Ev.now _)
  · rw [if_neg hok]
    refine Ev.eq (all_ev (fun k i => spec_CheapestTable.l0 k l z w i) l z38 (fun x => okT x.f0 x.f1) (0, 0, 1) (0, 0, 1) (fun m hm hq => ?_) (fun m hm hq r hr => ?_) (fun hh => absurd hh hok)) (by split <;> rfl)
    all_goals
      have e0 : rd_T38 l (m : Int) = l.getD m z38 := by unfold rd_T38; rw [Int.toNat_natCast]
      have ew : wrap64 ((m : Int) + 1) = ((m + 1 : Nat) : Int) := by rw [wrap_sm (i := (m : Int) + 1) (by omega) (by omega)]; rfl
      have hm1 : (m : Int) < l.length := by omega
      have hT := specT (hw.2 _ (get_mem z38 hm).1)
      generalize l.getD m z38 = x at *
      refine Ev.step (f := fun k => (spec_l03Ok.f k x.f0 x.f1).bind fun t130 => (if t130 = true then (spec_CheapestTable.l0 k l z w ((m + 1 : Nat) : Int)) else (some (0, 0, 1)))) (fun k => ?_) ?_
      · simp only [spec_CheapestTable.l0]
        rw [if_pos hm1, if_pos (Int.natCast_nonneg m), e0, ew]
      · refine Ev.bind hT ?_
        rw [hq]
        first | exact Ev.now _ | (simp only [if_true]; exact hr)
theorem implCheapestTable (hw : wfTs l) (z w : Int) : Ev (fun k => impl_CheapestTable.f k l z w) (rCheap l z w) := by
  unfold impl_CheapestTable.f rCheap
  have hA : Ev (fun k => slices_ContainsFunc_Table_at_impl_CheapestTable_1.f k l) (l.any (fun x => !okT x.f0 x.f1)) := by
    unfold slices_ContainsFunc_Table_at_impl_CheapestTable_1.f
    refine anyO_ev l (fun x hx => ?_)
    unfold impl_CheapestTable_1.f
    exact Ev.bind (implT (hw.2 x hx)) (Ev.now _)
  refine Ev.bind hA ?_
  have hany : (l.any fun x => !okT x.f0 x.f1) = !okTs l := by unfold okTs; rw [← List.not_all_eq_any_not]
  rw [hany]
  by_cases hok : okTs l = true
  · rw [hok]
    simp only [Bool.not_true, Bool.false_eq_true, if_false, if_true]
    have hwt : impl_within.f w 1 2000 = some (inR w 1 2000) := by
      unfold impl_within.f; exact inR_some _ _ _
    simp only [hwt, Option.bind_some]
    by_cases c : inR w 1 2000 = true
    · simp only [if_pos c]
      by_cases c2 : z < 0
      · rw [decide_eq_true c2, if_neg (fun hh => by have := hh.2; omega)]
        exact Ev.step (f := fun _ => some (0, 0, 2)) (fun k => by simp only [impl_CheapestTable.j0, if_true]) (Ev.now _)
      · rw [decide_eq_false c2, if_pos ⟨c, by omega⟩]
        refine Ev.step (f := fun k => if (l.length : Int) > 6 then some (0, 0, 3) else impl_CheapestTable.l0 k z w (-1) 0 l (l.length : Int) 0) (fun k => by simp only [impl_CheapestTable.j0, Bool.false_eq_true, if_false]) ?_
        by_cases c3 : (l.length : Int) > 6
        · simp only [if_pos c3]; exact Ev.now _
        · simp only [if_neg c3]; exact implLoop hok hw z w (by omega)
    · simp only [if_neg c]
      rw [if_neg (fun hh => c hh.1)]
      exact Ev.step (f := fun _ => some (0, 0, 2)) (fun k => by simp only [impl_CheapestTable.j0, if_true]) (Ev.now _)
  · rw [Bool.eq_false_iff.2 hok]
    simp only [Bool.not_false, if_true, Bool.false_eq_true, if_false]
    exact Ev.now _
end
end Go.Proofs.Ytdeipindfhkioaa.Pure
