/- All stops to which a parcel goes. -/
import Derived.Test.YtihnefkkgbokcaaQ2
import Derived.Test.YtihnefkkgbokcaaQ4
import Derived.Test.YtihnefkkgbokcaaPureCParcels
import Derived.Test.YtihnefkkgbokcaaPureCAt
import Derived.Test.YtihnefkkgbokcaaPureCSort
import Derived.Test.YtihnefkkgbokcaaPureCCompact
set_option linter.unusedVariables false
set_option linter.unusedSimpArgs false
namespace Go.Proofs.Ytihnefkkgbokcaa.Pure
open Go.RowKit Go.Proofs.Ytihnefkkgbokcaa.Q Go.Proofs.YtihnefkkgbokcaaMine Go.Proofs.YtihnefkkgbokcaaW.PrintWords Go.Proofs.YtihnefkkgbokcaaW.PrintMore
section
variable {l : List (S82)}
def addS (l : List (S82)) (out : List Int) (s : Nat) : List Int := if wAt l (s : Int) > 0 then out ++ [(s : Int)] else out
/-- All stops to which a parcel goes. -/
def stps (l : List (S82)) : List Int := (List.range 9).foldl (addS l) []
theorem specStops (hl : l.length ≤ 2097152) : Ev (fun k => spec_l04Stops.f k l) (stps l) := by
  unfold spec_l04Stops.f stps
  refine Ev.eq (fold_ev (fun k s i => spec_l04Stops.l0 k l s i) (List.range 9) 0 (fun j (s : List Int) => s.length ≤ j) (addS l) id (fun j s hj hs => ?_) (fun s hs => ?_) [] (Nat.zero_le _)) rfl
  · rw [List.length_range] at hj
    have hg : (List.range 9).getD j 0 = j := by rw [List.getD_eq_getElem?_getD, List.getElem?_range hj]; rfl
    rw [hg]
    refine ⟨?_, fun r hr => ?_⟩
    · unfold addS; split
      · simp; omega
      · omega
    · have hstep : ∀ k, spec_l04Stops.l0 (k + 1) l s (j : Int) = (spec_l04At.f k l (j : Int)).bind fun t => (if t > 0 then (if s.length < 17592186044416 then (spec_l04Stops.l0 k l (s ++ [(j : Int)]) ((j + 1 : Nat) : Int)) else (none)) else (spec_l04Stops.l0 k l s ((j + 1 : Nat) : Int))) := by
        intro k
        simp only [spec_l04Stops.l0]
        rw [if_pos (by omega), wrap_sm (i := (j : Int) + 1) (by omega) (by omega)]; rfl
      refine Ev.step hstep (Ev.bind (specAt hl _) ?_)
      unfold addS at hr
      by_cases h : wAt l (j : Int) > 0
      · rw [if_pos h] at hr; simp only [if_pos h, if_pos (show s.length < 17592186044416 by omega)]; exact hr
      · rw [if_neg h] at hr; simp only [if_neg h]; exact hr
  · rw [List.length_range]
    exact Ev.step (f := fun _ => some s) (fun k => by simp only [spec_l04Stops.l0]; rw [if_neg (by omega)]) (Ev.now _)
theorem stps_gen : ∀ (n : Nat), ((List.range n).foldl (addS l) []).Pairwise (· < ·) ∧ (∀ a, a ∈ (List.range n).foldl (addS l) [] ↔ (0 ≤ a ∧ a < n) ∧ wAt l a > 0)
  | 0 => ⟨List.Pairwise.nil, fun a => by simp only [List.range_zero, List.foldl_nil, List.not_mem_nil, false_iff]; omega⟩
  | n + 1 => by
    obtain ⟨h1, h2⟩ := stps_gen n
    rw [List.range_succ, List.foldl_append, List.foldl_cons, List.foldl_nil]
    unfold addS
    by_cases h : wAt l (n : Int) > 0
    · rw [if_pos h]
      refine ⟨List.pairwise_append.2 ⟨h1, List.pairwise_singleton _ _, fun a ha b hb => ?_⟩, fun a => ?_⟩
      · rw [List.mem_singleton] at hb; subst hb
        have := ((h2 a).1 ha).1; omega
      · rw [List.mem_append, List.mem_singleton]
        constructor
        · rintro (h3 | h3)
          · have := (h2 a).1 h3; exact ⟨by omega, this.2⟩
          · subst h3; exact ⟨by omega, h⟩
        · rintro ⟨h3, h4⟩
          by_cases e : a = (n : Int)
          · exact .inr e
          · exact .inl ((h2 a).2 ⟨by omega, h4⟩)
    · rw [if_neg h]
      refine ⟨h1, fun a => ?_⟩
      constructor
      · intro h3
        have := (h2 a).1 h3; exact ⟨by omega, this.2⟩
      · rintro ⟨h3, h4⟩
        have e : a ≠ (n : Int) := fun e => by rw [e] at h4; exact h h4
        exact (h2 a).2 ⟨by omega, h4⟩
theorem wAt_pos (s : Int) : ∀ (l : List (S82)) (a : Int), (∀ x ∈ l, okP x = true) → 0 ≤ a → a + 5000 * (l.length : Int) ≤ 1000000 → (l.foldl (fun a x => if wrap64 x.f0 = s then wrap64 (a + wrap64 x.f1) else a) a > 0 ↔ a > 0 ∨ ∃ x ∈ l, x.f0 = s) ∧ 0 ≤ l.foldl (fun a x => if wrap64 x.f0 = s then wrap64 (a + wrap64 x.f1) else a) a
  | [], a, _, h0, _ => by simp [h0]
  | x :: xs, a, h, h0, h1 => by
    have hx := h x List.mem_cons_self
    unfold okP at hx
    rw [Bool.and_eq_true, inR_iff, inR_iff] at hx
    simp only [List.length_cons] at h1
    rw [List.foldl_cons, wrap_id (i := x.f0) (by omega) (by omega)]
    by_cases e : x.f0 = s
    · rw [if_pos e, wrap_id (i := x.f1) (by omega) (by omega), wrap_id (i := a + x.f1) (by omega) (by omega)]
      obtain ⟨i1, i2⟩ := wAt_pos s xs (a + x.f1) (fun y hy => h y (List.mem_cons_of_mem _ hy)) (by omega) (by omega)
      refine ⟨⟨fun _ => .inr ⟨x, List.mem_cons_self, e⟩, fun _ => i1.2 (.inl (by omega))⟩, i2⟩
    · rw [if_neg e]
      obtain ⟨i1, i2⟩ := wAt_pos s xs a (fun y hy => h y (List.mem_cons_of_mem _ hy)) h0 (by omega)
      refine ⟨?_, i2⟩
      rw [i1]
      constructor
      · rintro (h3 | ⟨y, hy, h3⟩)
        · exact .inl h3
        · exact .inr ⟨y, List.mem_cons_of_mem _ hy, h3⟩
      · rintro (h3 | ⟨y, hy, h3⟩)
        · exact .inl h3
        · rcases List.mem_cons.1 hy with rfl | hy
          · exact (e h3).elim
          · exact .inr ⟨y, hy, h3⟩
theorem okPs_all (h : okPs l = true) : l.length ≤ 10 ∧ ∀ x ∈ l, okP x = true := by
  unfold okPs at h
  rw [Bool.and_eq_true, decide_eq_true_eq, List.all_eq_true] at h
  exact ⟨by omega, h.2⟩
theorem implStops (h : okPs l = true) : Ev (fun k => impl_stops.f k l) (stps l) := by
  obtain ⟨hl, hok⟩ := okPs_all h
  unfold impl_stops.f
  have hb := build_ev (fun k s i => impl_stops.l0 k s l (l.length : Int) i) l z82 (fun x => wrap64 x.f0) (fun _ => stps l) (fun m s hm hs r hr => ?_) ?_
  · exact hb
  · refine Ev.step (fun k => ?_) hr
    simp only [impl_stops.l0]
    rw [if_pos (by omega), if_pos (by omega), if_pos (by omega), if_pos (by omega), wrap_sm (i := (m : Int) + 1) (by omega) (by omega)]
    rfl
  · obtain ⟨y, hy, hs, hp⟩ := sort64 (x := l.map (fun x => wrap64 x.f0)) (by rw [List.length_map]; omega)
    have hyl : y.length ≤ 2097152 := by rw [hp.length_eq, List.length_map]; omega
    obtain ⟨c1, c2⟩ := cpt_sorted hs
    obtain ⟨s1, s2⟩ := stps_gen (l := l) 9
    have e : cpt y = stps l := by
      refine rising_one _ _ c1 s1 (fun a => ?_)
      unfold stps
      rw [c2, hp.mem_iff, s2, List.mem_map]
      have hw := (wAt_pos a l 0 hok (by omega) (by omega)).1
      rw [show wAt l a = l.foldl (fun b x => if wrap64 x.f0 = a then wrap64 (b + wrap64 x.f1) else b) 0 from rfl, hw]
      constructor
      · rintro ⟨x, hx, rfl⟩
        have h3 := hok x hx
        unfold okP at h3
        rw [Bool.and_eq_true, inR_iff, inR_iff] at h3
        have e := wrap_id (i := x.f0) (by omega) (by omega)
        exact ⟨by omega, .inr ⟨x, hx, e.symm⟩⟩
      · rintro ⟨h2, h3 | ⟨x, hx, h3⟩⟩
        · omega
        · exact ⟨x, hx, by rw [h3]; exact wrap_id (by omega) (by omega)⟩
    refine Ev.step (f := fun k => (slices_Sort_int64.f k (l.map (fun x => wrap64 x.f0))).bind fun t => (slices_Compact_int64.f k t).bind fun u => some u) (fun k => ?_) ?_
    · simp only [impl_stops.l0]
      rw [if_neg (by omega)]
    · refine Ev.bind hy ?_
      refine Ev.bind (comp64 hyl) ?_
      exact Ev.eq (Ev.now _) e
theorem addS_len : ∀ (cs : List Nat) (out : List Int), (cs.foldl (addS l) out).length ≤ out.length + cs.length
  | [], out => by simp
  | c :: cs, out => by
    have h := addS_len cs (addS l out c)
    rw [List.foldl_cons]
    have h2 : (addS l out c).length ≤ out.length + 1 := by unfold addS; split <;> simp
    simp only [List.length_cons]; omega
end
end Go.Proofs.Ytihnefkkgbokcaa.Pure
