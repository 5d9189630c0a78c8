/- LeastHeaviest: the reference and the program. -/
import Derived.Test.YtihnefkkgbokcaaQ6
import Derived.Test.YtihnefkkgbokcaaPureCSplit
set_option linter.unusedVariables false
set_option linter.unusedSimpArgs false
namespace Go.Proofs.Ytihnefkkgbokcaa.Pure
open Go.RowKit Go.Proofs.Ytihnefkkgbokcaa.Q Go.Proofs.YtihnefkkgbokcaaMine Go.Proofs.YtihnefkkgbokcaaW.PrintWords Go.Proofs.YtihnefkkgbokcaaW.PrintMore
section
variable {l : List (S82)}
/-- Whether bags of so much are enough. -/
def enough (l : List (S82)) (bags M : Int) : Bool := spOk l M && decide (bagsN M (owns l) ≤ bags)
def leastB (l : List (S82)) (bags : Int) : Int := leastP (enough l bags) 1 49999
theorem enough_mono (h : okPs l = true) {bags M M' : Int} (hM : M ≤ M') (he : enough l bags M = true) : enough l bags M' = true := by
  unfold enough spOk at he ⊢
  rw [Bool.and_eq_true, List.all_eq_true, decide_eq_true_eq] at he ⊢
  refine ⟨fun x hx => ?_, ?_⟩
  · have := of_decide_eq_true (he.1 x hx)
    exact decide_eq_true (by omega)
  · have := bagsN_mono hM (owns l) (fun x hx => ((owns_bd h).1 x hx).1)
    omega
theorem enough_all (h : okPs l = true) {bags M : Int} (hb : 1 ≤ bags) (hM : totN l ≤ M) : enough l bags M = true := by
  obtain ⟨o1, o2, o3, o4⟩ := owns_bd h
  unfold enough spOk
  rw [Bool.and_eq_true, List.all_eq_true, decide_eq_true_eq]
  refine ⟨fun x hx => decide_eq_true ?_, ?_⟩
  · have := sumI_ge (owns l) (fun y hy => by have := (o1 y hy).1; omega) x hx
    omega
  · have := bagsN_all (M := M) (owns l) (fun y hy => (o1 y hy).1) (by omega)
    omega
theorem leastB_spec (h : okPs l = true) {bags : Int} (hb : 1 ≤ bags) : 1 ≤ leastB l bags ∧ leastB l bags ≤ 50000 ∧ leastB l bags ≤ 1 + totN l ∧ (∀ m, 1 ≤ m → m < leastB l bags → enough l bags m = false) ∧ ∀ m, leastB l bags ≤ m → enough l bags m = true := by
  obtain ⟨o1, o2, o3, o4⟩ := owns_bd h
  obtain ⟨h1, h2, h3, h4⟩ := leastP_spec (enough l bags) 49999 1
  have hall := enough_all (l := l) h hb (M := 50000) (by omega)
  unfold leastB
  refine ⟨h1, by omega, ?_, h3, fun m hm => ?_⟩
  · by_cases c : leastP (enough l bags) 1 49999 ≤ 1 + totN l
    · exact c
    · have := h3 (1 + totN l) (by omega) (by omega)
      rw [enough_all h hb (by omega)] at this; cases this
  · by_cases c : leastP (enough l bags) 1 49999 < 1 + (49999 : Nat)
    · exact enough_mono h hm (h4 c)
    · exact enough_mono h (M := 50000) (by omega) hall
def rLeastHeaviest (l : List (S82)) (bags : Int) : Int × Int := if okPs l = true then (if inR bags 1 10 = true then (leastB l bags, 0) else (0, 2)) else (0, 1)
theorem mid_eq {a b : Int} (h0 : 1 ≤ a) (h1 : a ≤ b) (h2 : b ≤ 1000000) : wrap64 (Int.tdiv (wrap64 (a + b)) 2) = (a + b) / 2 := by
  rw [wrap_sm (i := a + b) (by omega) (by omega), Int.tdiv_eq_ediv_of_nonneg (by omega), wrap_sm (by omega) (by omega)]
theorem specLeastHeaviest (hl : l.length ≤ 2097152) (h : ∀ x ∈ l, wfParcel x) (bags : Int) : Ev (fun k => spec_LeastHeaviest.f k l bags) (rLeastHeaviest l bags) := by
  unfold spec_LeastHeaviest.f rLeastHeaviest
  refine Ev.bind (spec_okValidParcels hl h) ?_
  cases ho : okPs l with
  | false => exact Ev.now _
  | true =>
    obtain ⟨hl, hok⟩ := okPs_all ho
    simp only [if_true, l00In_eq, Option.bind_some]
    cases hb : inR bags 1 10 with
    | false => exact Ev.now _
    | true =>
      obtain ⟨b1, b2⟩ := inR_iff.1 hb
      obtain ⟨o1, o2, o3, o4⟩ := owns_bd ho
      obtain ⟨q1, q2, q3, q4, q5⟩ := leastB_spec ho b1
      simp only [if_true]
      suffices hh : Ev (fun k => spec_LeastHeaviest.l1 k l bags 1 (1 + totN l)) (leastB l bags, 0) by
        suffices hs : ∀ (d m : Nat), m + d = l.length → ∀ a : Int, a + totN (l.drop m) = 1 + totN l → 1 ≤ a → Ev (fun k => spec_LeastHeaviest.l0 k l bags 1 a (m : Int)) (leastB l bags, 0) from hs l.length 0 (by omega) 1 rfl (by omega)
        intro d
        induction d with
        | zero =>
          intro m hm a ha h1
          rw [List.drop_eq_nil_of_le (by omega)] at ha
          simp only [totN, Int.add_zero] at ha
          subst ha
          refine Ev.step (fun k => ?_) hh
          simp only [spec_LeastHeaviest.l0]; rw [if_neg (by omega)]
        | succ d ih =>
          intro m hm a ha h1
          have hmem := (get_mem z82 (show m < l.length by omega)).1
          have hp := okP_bd (hok _ hmem)
          rw [drop_step z82 (show m < l.length by omega)] at ha
          simp only [totN] at ha
          have hrest : 0 ≤ totN (l.drop (m + 1)) := by
            have := wN_bd 0 (l.drop (m + 1)) (fun x hx => hok x (List.mem_of_mem_drop hx)); omega
          have erd : rd_T82 l (m : Int) = l.getD m z82 := by unfold rd_T82; rw [Int.toNat_natCast]
          refine Ev.step (fun k => ?_) (ih (m + 1) (by omega) (a + (l.getD m z82).f1) (by omega) (by omega))
          simp only [spec_LeastHeaviest.l0]
          rw [if_pos (by omega), if_pos (by omega), erd, wrap_sm (i := (l.getD m z82).f1) (by omega) (by omega), wrap_sm (i := a + (l.getD m z82).f1) (by omega) (by omega), wrap_sm (i := (m : Int) + 1) (by omega) (by omega)]
          rfl
      have hspl : ∀ M : Int, 1 ≤ M → M ≤ 9223372036854775807 → Ev (fun k => spec_l04Split.f k l M) (if spOk l M = true then (outS l (spR l M).1, (spR l M).2.1) else ([], -1)) := fun M h1 h2 => specSplit ho ⟨h1, h2⟩
      refine halves_ev (fun k lo hi => spec_LeastHeaviest.l1 k l bags lo hi) (enough l bags) (fun r => (r, 0)) 1 (1 + totN l) (leastB l bags) (by omega) (by omega) q4 (fun m h1 _ => q5 m h1) ?_ (fun lo hi m h0 h1 h2 hm hp q hq => ?_) (fun lo hi m h0 h1 h2 hm hp q hq => ?_) (totN l).toNat 1 (1 + totN l) (by omega) (by omega) q1 q3 (by omega)
      · refine Ev.step (f := fun _ => some (leastB l bags, 0)) (fun k => ?_) (Ev.now _)
        simp only [spec_LeastHeaviest.l1]; rw [if_neg (by omega)]
      all_goals
        have em := mid_eq h0 (show lo ≤ hi by omega) (by omega)
        rw [← hm] at em
        refine Ev.step (f := fun k => (spec_l04Split.f k l m).bind fun bt146 => (if bt146.2 ≥ 0 then (if bt146.2 ≤ bags then (spec_LeastHeaviest.l1 k l bags lo m) else (spec_LeastHeaviest.l1 k l bags (m + 1) hi)) else (spec_LeastHeaviest.l1 k l bags (m + 1) hi))) (fun k => ?_) (Ev.bind (hspl m (by omega) (by omega)) ?_)
        · simp only [spec_LeastHeaviest.l1]
          rw [if_pos h1, em, wrap_sm (i := m + 1) (by omega) (by omega)]
        · unfold enough at hp
          have hn := fun hd => spR_nonneg ho (show 1 ≤ m by omega) hd
          rw [← spR_bags] at hp
          cases hd : spOk l m with
          | false =>
            rw [hd] at hp
            first
            | (simp at hp; done)
            | (simp only [Bool.false_eq_true, if_false, if_neg (show ¬ (-1 : Int) ≥ 0 by omega)]; exact hq)
          | true =>
            have hn' := hn hd
            rw [hd, Bool.true_and] at hp
            simp only [if_true, if_pos (show (spR l m).2.1 ≥ 0 by omega)]
            first
            | (have hp' := of_decide_eq_true hp; simp only [if_pos hp']; exact hq)
            | (have hp' := of_decide_eq_false hp; simp only [if_neg hp']; exact hq)
theorem implLeastHeaviest (hl : l.length ≤ 2097152) (h : ∀ x ∈ l, wfParcel x) (bags : Int) : Ev (fun k => impl_LeastHeaviest.f k l bags) (rLeastHeaviest l bags) := by
  unfold impl_LeastHeaviest.f rLeastHeaviest
  simp only [impl_okValidParcels h, Option.bind_some, within_eq]
  cases ho : okPs l with
  | false => exact Ev.now _
  | true =>
    obtain ⟨hl, hok⟩ := okPs_all ho
    simp only [if_true]
    cases hb : inR bags 1 10 with
    | false => exact Ev.now _
    | true =>
      obtain ⟨b1, b2⟩ := inR_iff.1 hb
      obtain ⟨q1, q2, q3, q4, q5⟩ := leastB_spec ho b1
      simp only [if_true]
      have hspl : ∀ M : Int, 1 ≤ M → M ≤ 9223372036854775807 → Ev (fun k => impl_bagged.f k l M) (if spOk l M = true then ((spR l M).1, (spR l M).2.1, true) else ([], 0, false)) := fun M h1 h2 => implBagged ho ⟨h1, h2⟩
      refine halves_ev (fun k lo hi => impl_LeastHeaviest.l0 k l bags lo hi) (enough l bags) (fun r => (r, 0)) 1 50000 (leastB l bags) (by omega) (by omega) q4 (fun m h1 _ => q5 m h1) ?_ (fun lo hi m h0 h1 h2 hm hp q hq => ?_) (fun lo hi m h0 h1 h2 hm hp q hq => ?_) 49999 1 50000 (by omega) (by omega) q1 q2 (by omega)
      · refine Ev.step (f := fun _ => some (leastB l bags, 0)) (fun k => ?_) (Ev.now _)
        simp only [impl_LeastHeaviest.l0]; rw [if_neg (by omega)]
      all_goals
        have em := mid_eq h0 (show lo ≤ hi by omega) (by omega)
        rw [← hm] at em
        refine Ev.step (f := fun k => (impl_bagged.f k l m).bind fun bt307 => (if bt307.2.2 = true then (if bt307.2.1 ≤ bags then (impl_LeastHeaviest.l0 k l bags lo m) else (impl_LeastHeaviest.l0 k l bags (m + 1) hi)) else (impl_LeastHeaviest.l0 k l bags (m + 1) hi))) (fun k => ?_) (Ev.bind (hspl m (by omega) (by omega)) ?_)
        · simp only [impl_LeastHeaviest.l0]
          rw [if_pos h1, em, wrap_sm (i := m + 1) (by omega) (by omega)]
        · unfold enough at hp
          rw [← spR_bags] at hp
          cases hd : spOk l m with
          | false =>
            rw [hd] at hp
            first
            | (simp at hp; done)
            | (simp only [Bool.false_eq_true, if_false]; exact hq)
          | true =>
            rw [hd, Bool.true_and] at hp
            simp only [if_true]
            first
            | (have hp' := of_decide_eq_true hp; simp only [if_pos hp']; exact hq)
            | (have hp' := of_decide_eq_false hp; simp only [if_neg hp']; exact hq)
end
end Go.Proofs.Ytihnefkkgbokcaa.Pure
