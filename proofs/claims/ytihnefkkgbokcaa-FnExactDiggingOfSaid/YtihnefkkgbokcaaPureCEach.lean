/- Each element once. -/
import Derived.Test.YtihnefkkgbokcaaQ2
import Derived.Test.YtihnefkkgbokcaaQ7
import Derived.Test.YtihnefkkgbokcaaPureB0
set_option linter.unusedVariables false
set_option linter.unusedSimpArgs false
namespace Go.Proofs.Ytihnefkkgbokcaa.Pure
open Go.RowKit Go.Proofs.Ytihnefkkgbokcaa.Q Go.Proofs.YtihnefkkgbokcaaMine Go.Proofs.YtihnefkkgbokcaaW.PrintWords Go.Proofs.YtihnefkkgbokcaaW.PrintMore
theorem hasEv (x : List Int) (hx : x.length ≤ 2097152) (a : Int) : Ev (fun k => spec_l00Has.f k x a) (decide (a ∈ x)) := by
  unfold spec_l00Has.f
  have h := all_ix (fun k i => spec_l00Has.l0 k x a i) x.length (fun j => !decide (x.getD j 0 = a)) true false 0 (fun m _ hm hq => ?_) (fun m _ hm hq r hr => ?_) (fun m hm _ hh _ => ?_)
  · refine Ev.eq h ?_
    by_cases hm : a ∈ x
    · obtain ⟨j, hj, e⟩ := List.mem_iff_getElem.1 hm
      rw [if_neg (fun hh => ?_), decide_eq_true hm]
      have := allIx_iff.1 hh j (Nat.zero_le _) hj
      rw [List.getD_eq_getElem?_getD, List.getElem?_eq_getElem hj, Option.getD_some, e] at this
      simp at this
    · rw [if_pos (allIx_iff.2 (fun j _ hj => ?_)), decide_eq_false hm]
      rw [List.getD_eq_getElem?_getD, List.getElem?_eq_getElem hj, Option.getD_some]
      simp only [Bool.not_eq_true', decide_eq_false_iff_not]
      intro e
      exact hm (e ▸ List.getElem_mem hj)
  · have e : x.getD m 0 = a := by simpa using hq
    refine Ev.step (f := fun _ => some true) (fun k => ?_) (Ev.now _)
    simp only [spec_l00Has.l0]
    rw [if_pos (by omega), if_pos (by omega), if_pos (by unfold rd; rw [Int.toNat_natCast]; exact e)]
  · have e : ¬ x.getD m 0 = a := by simpa using hq
    refine Ev.step (fun k => ?_) hr
    simp only [spec_l00Has.l0]
    rw [if_pos (by omega), if_pos (by omega), if_neg (by unfold rd; rw [Int.toNat_natCast]; exact e), wrap_sm (i := (m : Int) + 1) (by omega) (by omega)]
    rfl
  · refine Ev.step (f := fun _ => some false) (fun k => ?_) (Ev.now _)
    simp only [spec_l00Has.l0]
    rw [if_neg (by omega)]
theorem equalEv (x y : List Int) (hx : x.length ≤ 2097152) : Ev (fun k => slices_Equal_int64.f k x y) (decide (x = y)) := by
  unfold slices_Equal_int64.f
  by_cases hl : x.length = y.length
  · simp only [if_pos (show (x.length : Int) = (y.length : Int) by omega)]
    have h := all_ix (fun k i => slices_Equal_int64.l0 k x y (x.length : Int) i) x.length (fun j => decide (x.getD j 0 = y.getD j 0)) false true 0 (fun m _ hm hq => ?_) (fun m _ hm hq r hr => ?_) (fun m hm _ hh _ => ?_)
    · refine Ev.eq h ?_
      by_cases e : x = y
      · rw [decide_eq_true e, if_pos (allIx_iff.2 (fun j _ _ => by rw [e]; exact decide_eq_true rfl))]
      · rw [decide_eq_false e, if_neg (fun hh => e ?_)]
        apply List.ext_getElem hl
        intro j h1 h2
        have := of_decide_eq_true (allIx_iff.1 hh j (Nat.zero_le _) h1)
        rwa [List.getD_eq_getElem?_getD, List.getD_eq_getElem?_getD, List.getElem?_eq_getElem h1, List.getElem?_eq_getElem h2] at this
    · have e : ¬ x.getD m 0 = y.getD m 0 := by simpa using hq
      refine Ev.step (f := fun _ => some false) (fun k => ?_) (Ev.now _)
      simp only [slices_Equal_int64.l0]
      rw [if_pos (by omega), if_pos (by omega), if_pos (by omega), if_pos (by omega), if_neg (by unfold rd; rw [Int.toNat_natCast]; exact e)]
    · have e : x.getD m 0 = y.getD m 0 := by simpa using hq
      refine Ev.step (fun k => ?_) hr
      simp only [slices_Equal_int64.l0]
      rw [if_pos (by omega), if_pos (by omega), if_pos (by omega), if_pos (by omega), if_pos (by unfold rd; rw [Int.toNat_natCast]; exact e), wrap_sm (i := (m : Int) + 1) (by omega) (by omega)]
      rfl
    · refine Ev.step (f := fun _ => some true) (fun k => ?_) (Ev.now _)
      simp only [slices_Equal_int64.l0]
      rw [if_neg (by omega)]
  · simp only [if_neg (show ¬ (x.length : Int) = (y.length : Int) by omega)]
    rw [decide_eq_false (fun e => hl (by rw [e]))]
    exact Ev.now _
theorem perm_of : ∀ (l m : List Int), l.Nodup → (∀ a ∈ l, a ∈ m) → l.length = m.length → l.Perm m
  | [], m, _, _, h => by rw [List.eq_nil_of_length_eq_zero (show m.length = 0 by simpa using h.symm)]
  | x :: xs, m, h1, h2, h3 => by
    obtain ⟨hx, hn⟩ := List.nodup_cons.1 h1
    have hm : x ∈ m := h2 x List.mem_cons_self
    have hp := List.perm_cons_erase hm
    have hl := hp.length_eq
    refine List.Perm.trans (List.Perm.cons x (perm_of xs (m.erase x) hn (fun a ha => ?_) ?_)) hp.symm
    · exact (List.mem_erase_of_ne (fun e : a = x => hx (by rw [← e]; exact ha))).2 (h2 a (List.mem_cons_of_mem _ ha))
    · simp only [List.length_cons] at h3 hl; omega
theorem sorted_one : ∀ (l m : List Int), l.Pairwise (· ≤ ·) → m.Pairwise (· ≤ ·) → l.Perm m → l = m
  | [], m, _, _, h => by rw [List.Perm.eq_nil h.symm]
  | x :: xs, [], _, _, h => by have := h.length_eq; simp at this
  | x :: xs, y :: ys, h1, h2, h => by
    obtain ⟨hx, hxs⟩ := List.pairwise_cons.1 h1
    obtain ⟨hy, hys⟩ := List.pairwise_cons.1 h2
    have e : x = y := by
      have a1 : x ∈ y :: ys := h.mem_iff.1 List.mem_cons_self
      have a2 : y ∈ x :: xs := h.mem_iff.2 List.mem_cons_self
      rcases List.mem_cons.1 a1 with e | a1
      · exact e
      · rcases List.mem_cons.1 a2 with e | a2
        · exact e.symm
        · have := hx y a2; have := hy x a1; omega
    subst e
    rw [sorted_one xs ys hxs hys ((List.perm_cons x).1 h)]
theorem eachIff (l m : List Int) (hm : m.Pairwise (· < ·)) : (l.mergeSort fun x y => decide (x ≤ y)) = m ↔ (l.length = m.length ∧ l.Nodup ∧ ∀ a ∈ l, a ∈ m) := by
  have hp := List.mergeSort_perm l (fun x y => decide (x ≤ y))
  have hn : m.Nodup := hm.imp (fun h => by omega)
  constructor
  · intro e
    rw [e] at hp
    exact ⟨hp.length_eq.symm, hp.nodup hn, fun a ha => hp.mem_iff.2 ha⟩
  · rintro ⟨h1, h2, h3⟩
    have h4 := perm_of l m h2 h3 h1
    refine sorted_one _ _ ?_ (hm.imp (fun h => by omega)) (hp.trans h4)
    refine (List.pairwise_mergeSort (le := fun x y => decide (x ≤ y)) (fun a b c h1 h2 => ?_) (fun a b => ?_) l).imp (fun h => of_decide_eq_true h)
    · have := of_decide_eq_true h1; have := of_decide_eq_true h2; exact decide_eq_true (by omega)
    · by_cases h : a ≤ b
      · simp [h]
      · simp [show b ≤ a by omega]
theorem nodupIx (x : List Int) : x.Nodup ↔ ∀ j, j < x.length → ¬ x.getD j 0 ∈ x.take j := by
  constructor
  · intro h j hj hm
    rw [List.getD_eq_getElem?_getD, List.getElem?_eq_getElem hj, Option.getD_some] at hm
    obtain ⟨i, hi, e⟩ := List.mem_iff_getElem.1 hm
    rw [List.length_take] at hi
    rw [List.getElem_take] at e
    have := (List.pairwise_iff_getElem.1 h) i j (by omega) hj (by omega)
    exact this e
  · intro h
    refine List.pairwise_iff_getElem.2 (fun i j hi hj hij e => h j hj ?_)
    rw [List.getD_eq_getElem?_getD, List.getElem?_eq_getElem hj, Option.getD_some, ← e]
    exact List.mem_iff_getElem.2 ⟨i, by rw [List.length_take]; omega, by rw [List.getElem_take]⟩
/-- As many as m, all different, each of m. -/
def eachOf (l m : List Int) : Bool := decide (l.length = m.length ∧ l.Nodup ∧ ∀ a ∈ l, a ∈ m)
theorem isEachEv (l m : List Int) (hm : m.Pairwise (· < ·)) (hl : l.length ≤ 2097152) : Ev (fun k => impl_isEach.f k l m) (eachOf l m) := by
  unfold impl_isEach.f eachOf
  simp only [if_pos (show l.length ≤ 17592186043904 by omega)]
  refine Ev.eq (equalEv _ _ (by rw [List.length_mergeSort]; exact hl)) ?_
  exact decide_eq_decide.2 (eachIff l m hm)
end Go.Proofs.Ytihnefkkgbokcaa.Pure
