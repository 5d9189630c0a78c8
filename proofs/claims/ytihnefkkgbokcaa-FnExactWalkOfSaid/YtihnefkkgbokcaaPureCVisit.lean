/- A visit that has each stop once. -/
import Derived.Test.YtihnefkkgbokcaaQ3
import Derived.Test.YtihnefkkgbokcaaPureCEach
set_option linter.unusedVariables false
set_option linter.unusedSimpArgs false
namespace Go.Proofs.Ytihnefkkgbokcaa.Pure
open Go.RowKit Go.Proofs.Ytihnefkkgbokcaa.Q Go.Proofs.YtihnefkkgbokcaaMine Go.Proofs.YtihnefkkgbokcaaW.PrintWords Go.Proofs.YtihnefkkgbokcaaW.PrintMore
theorem visitEv (m x : List Int) (hm : m.length ≤ 2097152) (hx : x.length ≤ 2097152) : Ev (fun k => spec_l04Visit.f k m x) (eachOf x m) := by
  unfold spec_l04Visit.f
  have h := all_ix (fun k i => spec_l04Visit.l0 k m x i) x.length (fun j => decide (x.getD j 0 ∈ m) && !decide (x.getD j 0 ∈ x.take j)) false ((x.length : Int) == (m.length : Int)) 0 (fun j _ hj hq => ?_) (fun j _ hj hq r hr => ?_) (fun j hj _ hh _ => ?_)
  · refine Ev.eq h ?_
    unfold eachOf
    by_cases hh : allIx 0 x.length (fun j => decide (x.getD j 0 ∈ m) && !decide (x.getD j 0 ∈ x.take j)) = true
    · rw [if_pos hh]
      have h1 : x.Nodup := (nodupIx x).2 (fun j hj => by have := allIx_iff.1 hh j (Nat.zero_le _) hj; simp only [Bool.and_eq_true, Bool.not_eq_true', decide_eq_false_iff_not] at this; exact this.2)
      have h2 : ∀ a ∈ x, a ∈ m := fun a ha => by
        obtain ⟨j, hj, e⟩ := List.mem_iff_getElem.1 ha
        have := allIx_iff.1 hh j (Nat.zero_le _) hj
        rw [Bool.and_eq_true, decide_eq_true_eq, List.getD_eq_getElem?_getD, List.getElem?_eq_getElem hj, Option.getD_some, e] at this
        exact this.1
      by_cases e : x.length = m.length
      · rw [decide_eq_true ⟨e, h1, h2⟩]; simp [e]
      · rw [decide_eq_false (fun hc => e hc.1)]; simp; omega
    · rw [if_neg hh, eq_comm, decide_eq_false_iff_not]
      rintro ⟨_, h1, h2⟩
      refine hh (allIx_iff.2 (fun j _ hj => ?_))
      have := (nodupIx x).1 h1 j hj
      rw [Bool.and_eq_true, decide_eq_true_eq, Bool.not_eq_true', decide_eq_false_iff_not]
      refine ⟨h2 _ ?_, this⟩
      rw [List.getD_eq_getElem?_getD, List.getElem?_eq_getElem hj]; exact List.getElem_mem hj
  · have e0 : rd x (j : Int) = x.getD j 0 := by unfold rd; rw [Int.toNat_natCast]
    refine Ev.step (f := fun k => (spec_l00Has.f k m (x.getD j 0)).bind fun t133 => (if t133 = true then ((spec_l00Has.f k (x.take j) (x.getD j 0)).bind fun t136 => (if t136 = true then (some false) else (spec_l04Visit.l0 k m x (wrap64 ((j : Int) + 1))))) else (some false))) (fun k => ?_) ?_
    · simp only [spec_l04Visit.l0]
      rw [if_pos (by omega), if_pos (by omega), e0, if_pos (by omega), Int.toNat_natCast]
    · refine Ev.bind (hasEv m hm _) ?_
      by_cases c : x.getD j 0 ∈ m
      · simp only [decide_eq_true c, if_true]
        refine Ev.bind (hasEv _ (by rw [List.length_take]; omega) _) ?_
        rw [decide_eq_true c, Bool.true_and, Bool.not_eq_false'] at hq
        rw [hq]; exact Ev.now _
      · simp only [decide_eq_false c, Bool.false_eq_true, if_false]; exact Ev.now _
  · have e0 : rd x (j : Int) = x.getD j 0 := by unfold rd; rw [Int.toNat_natCast]
    rw [Bool.and_eq_true, decide_eq_true_eq, Bool.not_eq_true'] at hq
    refine Ev.step (f := fun k => (spec_l00Has.f k m (x.getD j 0)).bind fun t133 => (if t133 = true then ((spec_l00Has.f k (x.take j) (x.getD j 0)).bind fun t136 => (if t136 = true then (some false) else (spec_l04Visit.l0 k m x ((j + 1 : Nat) : Int)))) else (some false))) (fun k => ?_) ?_
    · simp only [spec_l04Visit.l0]
      rw [if_pos (by omega), if_pos (by omega), e0, if_pos (by omega), Int.toNat_natCast, wrap_sm (i := (j : Int) + 1) (by omega) (by omega)]
      rfl
    · refine Ev.bind (hasEv m hm _) ?_
      simp only [decide_eq_true hq.1, if_true]
      refine Ev.bind (hasEv _ (by rw [List.length_take]; omega) _) ?_
      rw [hq.2]
      simp only [Bool.false_eq_true, if_false]
      exact hr
  · refine Ev.step (f := fun _ => some ((x.length : Int) == (m.length : Int))) (fun k => ?_) (Ev.now _)
    simp only [spec_l04Visit.l0]
    rw [if_neg (by omega)]
end Go.Proofs.Ytihnefkkgbokcaa.Pure
