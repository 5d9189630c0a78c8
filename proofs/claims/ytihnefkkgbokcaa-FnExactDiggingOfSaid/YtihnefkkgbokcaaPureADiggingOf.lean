/- DiggingOf: the reference and the program. -/
import Derived.Test.YtihnefkkgbokcaaQ10
import Derived.Test.YtihnefkkgbokcaaQ11
import Derived.Test.YtihnefkkgbokcaaPureCStops
import Derived.Test.YtihnefkkgbokcaaPureCVisit
set_option linter.unusedVariables false
set_option linter.unusedSimpArgs false
namespace Go.Proofs.Ytihnefkkgbokcaa.Pure
open Go.RowKit Go.Proofs.Ytihnefkkgbokcaa.Q Go.Proofs.YtihnefkkgbokcaaMine Go.Proofs.YtihnefkkgbokcaaW.PrintWords Go.Proofs.YtihnefkkgbokcaaW.PrintMore
section
variable {l : List (S82)}
theorem mem_ups {i : Int} {n : Nat} : i ∈ (List.range n).map (fun i : Nat => (i : Int)) ↔ 0 ≤ i ∧ i < n := by
  rw [List.mem_map]
  constructor
  · rintro ⟨a, ha, rfl⟩; have := List.mem_range.1 ha; omega
  · rintro ⟨h0, h1⟩; exact ⟨i.toNat, List.mem_range.2 (by omega), by omega⟩
def ups (n : Nat) : List Int := (List.range n).map (fun i : Nat => (i : Int))
theorem ups_rising : ∀ n : Nat, (ups n).Pairwise (· < ·)
  | 0 => List.Pairwise.nil
  | n + 1 => by
    have e : ups (n + 1) = ups n ++ [(n : Int)] := by unfold ups; rw [List.range_succ, List.map_append]; rfl
    rw [e]
    refine List.pairwise_append.2 ⟨ups_rising n, List.pairwise_singleton _ _, fun a ha b hb => ?_⟩
    rw [List.mem_singleton] at hb; subst hb
    exact (mem_ups.1 ha).2
theorem implIndices {n : Nat} (hn : n ≤ 2097152) : Ev (fun k => impl_indices.f k (n : Int)) (ups n) := by
  unfold impl_indices.f
  refine Ev.eq (fold_ev (fun k s i => impl_indices.l0 k s (n : Int) i) (List.range n) 0 (fun j (s : List Int) => s.length ≤ j) (fun (s : List Int) (j : Nat) => s ++ [(j : Int)]) id (fun j s hj hs => ?_) (fun s hs => ?_) [] (Nat.zero_le _)) ?_
  · rw [List.length_range] at hj
    have hg : (List.range n).getD j 0 = j := by rw [List.getD_eq_getElem?_getD, List.getElem?_range hj]; rfl
    rw [hg]
    refine ⟨by simp; omega, fun r hr => Ev.step (fun k => ?_) hr⟩
    simp only [impl_indices.l0]
    rw [if_pos (by omega), if_pos (by omega), wrap_sm (i := (j : Int) + 1) (by omega) (by omega)]; rfl
  · rw [List.length_range]
    exact Ev.step (f := fun _ => some s) (fun k => by simp only [impl_indices.l0]; rw [if_neg (by omega)]) (Ev.now _)
  · unfold ups id
    have : ∀ (x : List Nat) (s : List Int), x.foldl (fun (s : List Int) (j : Nat) => s ++ [(j : Int)]) s = s ++ x.map (fun i : Nat => (i : Int)) := by
      intro x
      induction x with
      | nil => intro s; simp
      | cons y ys ih => intro s; rw [List.foldl_cons, ih]; simp
    rw [this]; rfl
theorem eachEv (n : Nat) (x : List Int) (hn : n ≤ 2097152) (hx : x.length ≤ 2097152) : Ev (fun k => spec_l04Each.f k (n : Int) x) (eachOf x (ups n)) := by
  unfold spec_l04Each.f
  have hun : (ups n).length = n := by unfold ups; simp
  have hin : ∀ a, spec_l00In.f a 0 (wrap64 ((n : Int) - 1)) = some (decide (a ∈ ups n)) := by
    intro a
    rw [wrap_sm (i := (n : Int) - 1) (by omega) (by omega)]
    rw [l00In_eq]
    congr 1
    unfold ups
    by_cases h : 0 ≤ a ∧ a < n
    · rw [decide_eq_true (mem_ups.2 h)]; exact inR_iff.2 ⟨h.1, by omega⟩
    · rw [decide_eq_false (fun hh => h (mem_ups.1 hh))]
      cases e : inR a 0 ((n : Int) - 1) with
      | false => rfl
      | true => have := inR_iff.1 e; exact absurd ⟨this.1, by omega⟩ h
  have h := all_ix (fun k i => spec_l04Each.l0 k (n : Int) x i) x.length (fun j => decide (x.getD j 0 ∈ ups n) && !decide (x.getD j 0 ∈ x.take j)) false ((x.length : Int) == (n : Int)) 0 (fun j _ hj hq => ?_) (fun j _ hj hq r hr => ?_) (fun j hj _ hh _ => ?_)
  · refine Ev.eq h ?_
    unfold eachOf
    rw [hun]
    by_cases hh : allIx 0 x.length (fun j => decide (x.getD j 0 ∈ ups n) && !decide (x.getD j 0 ∈ x.take j)) = true
    · rw [if_pos hh]
      have h1 : x.Nodup := (nodupIx x).2 (fun j hj => by have := allIx_iff.1 hh j (Nat.zero_le _) hj; simp only [Bool.and_eq_true, Bool.not_eq_true', decide_eq_false_iff_not] at this; exact this.2)
      have h2 : ∀ a ∈ x, a ∈ ups n := fun a ha => by
        obtain ⟨j, hj, e⟩ := List.mem_iff_getElem.1 ha
        have := allIx_iff.1 hh j (Nat.zero_le _) hj
        rw [Bool.and_eq_true, decide_eq_true_eq, List.getD_eq_getElem?_getD, List.getElem?_eq_getElem hj, Option.getD_some, e] at this
        exact this.1
      by_cases e : x.length = n
      · rw [decide_eq_true ⟨e, h1, h2⟩]; simp [e]
      · rw [decide_eq_false (fun hc => e hc.1)]; simp; omega
    · rw [if_neg hh, eq_comm, decide_eq_false_iff_not]
      rintro ⟨_, h1, h2⟩
      refine hh (allIx_iff.2 (fun j _ hj => ?_))
      have := (nodupIx x).1 h1 j hj
      rw [Bool.and_eq_true, decide_eq_true_eq, Bool.not_eq_true', decide_eq_false_iff_not]
      refine ⟨h2 _ ?_, this⟩
      rw [List.getD_eq_getElem?_getD, List.getElem?_eq_getElem hj]; exact List.getElem_mem hj
  · have e0 : rd x (j : Int) = x.getD j 0 := by unfold rd; rw [Int.toNat_natCast]
    refine Ev.step (f := fun k => (spec_l00In.f (x.getD j 0) 0 (wrap64 ((n : Int) - 1))).bind fun t324 => (if t324 = true then ((spec_l00Has.f k (x.take j) (x.getD j 0)).bind fun t136 => (if t136 = true then (some false) else (spec_l04Each.l0 k (n : Int) x (wrap64 ((j : Int) + 1))))) else (some false))) (fun k => ?_) ?_
    · simp only [spec_l04Each.l0]
      rw [if_pos (by omega), if_pos (by omega), e0, if_pos (by omega), Int.toNat_natCast]
    · simp only [hin, Option.bind_some]
      by_cases c : x.getD j 0 ∈ ups n
      · simp only [decide_eq_true c, if_true]
        refine Ev.bind (hasEv _ (by rw [List.length_take]; omega) _) ?_
        rw [decide_eq_true c, Bool.true_and, Bool.not_eq_false'] at hq
        rw [hq]; exact Ev.now _
      · simp only [decide_eq_false c, Bool.false_eq_true, if_false]; exact Ev.now _
  · have e0 : rd x (j : Int) = x.getD j 0 := by unfold rd; rw [Int.toNat_natCast]
    rw [Bool.and_eq_true, decide_eq_true_eq, Bool.not_eq_true'] at hq
    refine Ev.step (f := fun k => (spec_l00In.f (x.getD j 0) 0 (wrap64 ((n : Int) - 1))).bind fun t324 => (if t324 = true then ((spec_l00Has.f k (x.take j) (x.getD j 0)).bind fun t136 => (if t136 = true then (some false) else (spec_l04Each.l0 k (n : Int) x ((j + 1 : Nat) : Int)))) else (some false))) (fun k => ?_) ?_
    · simp only [spec_l04Each.l0]
      rw [if_pos (by omega), if_pos (by omega), e0, if_pos (by omega), Int.toNat_natCast, wrap_sm (i := (j : Int) + 1) (by omega) (by omega)]
      rfl
    · simp only [hin, Option.bind_some, decide_eq_true hq.1, if_true]
      refine Ev.bind (hasEv _ (by rw [List.length_take]; omega) _) ?_
      rw [hq.2]
      simp only [Bool.false_eq_true, if_false]
      exact hr
  · refine Ev.step (f := fun _ => some ((x.length : Int) == (n : Int))) (fun k => ?_) (Ev.now _)
    simp only [spec_l04Each.l0]
    rw [if_neg (by omega)]
/-- One parcel of the load, at a stop: how many are lifted, what is left, whether one has been met. -/
def ownAt (l : List (S82)) (s i : Int) : Bool := decide (wrap64 (l.getD i.toNat z82).f0 = s)
def dgStep (l : List (S82)) (s : Int) (st : Int × List Int × Bool) (i : Int) : Int × List Int × Bool :=
  if ownAt l s i = true then (st.1, st.2.1, true) else ((if st.2.2 = true then st.1 + 1 else st.1), st.2.1 ++ [i], st.2.2)
theorem dg_shift (s : Int) : ∀ (now : List Int) (c : Int) (out : List Int) (met : Bool), now.foldl (dgStep l s) (c, out, met) = (c + (now.foldl (dgStep l s) (0, out, met)).1, (now.foldl (dgStep l s) (0, out, met)).2)
  | [], c, out, met => by simp
  | i :: is, c, out, met => by
    rw [List.foldl_cons, List.foldl_cons]
    unfold dgStep
    by_cases h : ownAt l s i = true
    · simp only [if_pos h]
      have := dg_shift s is c out true
      unfold dgStep at this
      exact this
    · simp only [if_neg h]
      cases met with
      | false =>
        simp only [Bool.false_eq_true, if_false]
        have := dg_shift s is c (out ++ [i]) false
        unfold dgStep at this
        exact this
      | true =>
        simp only [if_true]
        have h1 := dg_shift s is (c + 1) (out ++ [i]) true
        have h2 := dg_shift s is (0 + 1) (out ++ [i]) true
        unfold dgStep at h1 h2
        rw [h1, h2]
        exact Prod.ext (by dsimp only; omega) rfl
theorem dg_bounds (s : Int) : ∀ (now : List Int) (c : Int) (out : List Int) (met : Bool), c ≤ (now.foldl (dgStep l s) (c, out, met)).1 ∧ (now.foldl (dgStep l s) (c, out, met)).1 ≤ c + now.length ∧ (now.foldl (dgStep l s) (c, out, met)).2.1.length ≤ out.length + now.length ∧ ∀ a ∈ (now.foldl (dgStep l s) (c, out, met)).2.1, a ∈ out ∨ a ∈ now
  | [], c, out, met => by simp
  | i :: is, c, out, met => by
    rw [List.foldl_cons]
    by_cases h : ownAt l s i = true
    · have e : dgStep l s (c, out, met) i = (c, out, true) := by unfold dgStep; rw [if_pos h]
      rw [e]
      obtain ⟨h1, h2, h3, h4⟩ := dg_bounds s is c out true
      simp only [List.length_cons]
      exact ⟨h1, by omega, by omega, fun a ha => (h4 a ha).imp id (List.mem_cons_of_mem _)⟩
    · have e : dgStep l s (c, out, met) i = ((if met = true then c + 1 else c), out ++ [i], met) := by unfold dgStep; rw [if_neg h]
      rw [e]
      obtain ⟨h1, h2, h3, h4⟩ := dg_bounds s is (if met = true then c + 1 else c) (out ++ [i]) met
      rw [List.length_append] at h3
      simp only [List.length_cons, List.length_nil] at h3 ⊢
      refine ⟨?_, ?_, by omega, fun a ha => ?_⟩
      · cases met with
        | false => simpa using h1
        | true => simp only [if_true] at h1 ⊢; omega
      · cases met with
        | false => simp only [Bool.false_eq_true, if_false] at h2 ⊢; omega
        | true => simp only [if_true] at h2 ⊢; omega
      · rcases h4 a ha with h5 | h5
        · rcases List.mem_append.1 h5 with h6 | h6
          · exact .inl h6
          · rw [List.mem_singleton] at h6; subst h6; exact .inr List.mem_cons_self
        · exact .inr (List.mem_cons_of_mem _ h5)
def inL (l : List (S82)) (x : List Int) : Prop := x.length ≤ 10 ∧ ∀ a ∈ x, 0 ≤ a ∧ a < (l.length : Int)
theorem getD_in {x : List Int} (h : inL l x) {j : Nat} (hj : j < x.length) : 0 ≤ x.getD j 0 ∧ x.getD j 0 < (l.length : Int) := by
  rw [List.getD_eq_getElem?_getD, List.getElem?_eq_getElem hj]; exact h.2 _ (List.getElem_mem hj)
theorem dgStep_own {s i : Int} (h : wrap64 (rd_T82 l i).f0 = s) (st : Int × List Int × Bool) : dgStep l s st i = (st.1, st.2.1, true) := by
  unfold dgStep; exact if_pos (decide_eq_true h)
theorem dgStep_not {s i : Int} (h : ¬ wrap64 (rd_T82 l i).f0 = s) (st : Int × List Int × Bool) : dgStep l s st i = ((if st.2.2 = true then st.1 + 1 else st.1), st.2.1 ++ [i], st.2.2) := by
  unfold dgStep; exact if_neg (fun hh => h (of_decide_eq_true hh))
theorem implDig {now : List Int} (hn : inL l now) (s : Int) : Ev (fun k => impl_dig.f k l now s) ((now.foldl (dgStep l s) (0, [], false)).1, (now.foldl (dgStep l s) (0, [], false)).2.1) := by
  unfold impl_dig.f
  have hl := hn.1
  refine fold_in (fun k (st : Int × List Int × Bool) i => impl_dig.l0 k l s st.1 st.2.1 st.2.2 now (now.length : Int) i) now 0 (fun m st => 0 ≤ st.1 ∧ st.1 ≤ m ∧ st.2.1.length ≤ m) (fun _ st x => dgStep l s st x) _ (fun m st hm hp => ?_) (0, [], false) ⟨by simp, by simp, by simp⟩ (fun _ => ?_)
  · obtain ⟨c, out, met⟩ := st
    obtain ⟨p1, p2, p3⟩ := hp
    dsimp only at p1 p2 p3 ⊢
    have hg := getD_in hn hm
    have e0 : rd now (m : Int) = now.getD m 0 := by unfold rd; rw [Int.toNat_natCast]
    have ew : wrap64 ((m : Int) + 1) = ((m + 1 : Nat) : Int) := by rw [wrap_sm (i := (m : Int) + 1) (by omega) (by omega)]; rfl
    have hc : c ≤ 10 := by omega
    have ho : out.length ≤ 10 := by omega
    by_cases h : wrap64 (rd_T82 l (now.getD m 0)).f0 = s
    · rw [dgStep_own h]
      refine ⟨⟨p1, by dsimp only; omega, by dsimp only; omega⟩, fun r hr => Ev.step (fun k => ?_) hr⟩
      simp only [impl_dig.l0]
      rw [if_pos (by omega), if_pos (by omega), if_pos (by omega), e0, if_pos hg.1, if_pos hg.2, ew]
      cases met with
      | true => rw [if_pos rfl, if_pos h]
      | false => rw [if_neg (by simp), if_pos h, show ((wrap64 (rd_T82 l (now.getD m 0)).f0) == s) = true from beq_iff_eq.2 h]
    · rw [dgStep_not h]
      refine ⟨⟨?_, ?_, by simp; omega⟩, fun r hr => Ev.step (fun k => ?_) hr⟩
      · dsimp only; split <;> omega
      · dsimp only; split <;> omega
      · simp only [impl_dig.l0]
        rw [if_pos (by omega), if_pos (by omega), if_pos (by omega), e0, if_pos hg.1, if_pos hg.2, ew]
        cases met with
        | true =>
          rw [if_pos rfl, if_neg h, if_pos (by omega)]
          unfold impl_bit.f
          simp only [if_true, Option.bind_some]
          rw [wrap_sm (i := c + 1) (by omega) (by omega)]
        | false =>
          rw [if_neg (by simp), if_neg h, if_pos (by omega), show ((wrap64 (rd_T82 l (now.getD m 0)).f0) == s) = false from beq_eq_false_iff_ne.2 h]
          unfold impl_bit.f
          simp only [Bool.false_eq_true, if_false, Option.bind_some]
          rw [wrap_sm (i := c + 0) (by omega) (by omega), Int.add_zero]
  · refine Ev.step (f := fun _ => some ((foldi (fun _ st x => dgStep l s st x) 0 now (0, [], false)).1, (foldi (fun _ st x => dgStep l s st x) 0 now (0, [], false)).2.1)) (fun k => ?_) ?_
    · simp only [impl_dig.l0]
      rw [if_neg (by omega)]
    · rw [foldi_foldl]; exact Ev.now _
/-- One stop. -/
def dgOut (l : List (S82)) (st : Int × List Int) (s : Int) : Int × List Int := ((st.2.foldl (dgStep l s) (st.1, [], false)).1, (st.2.foldl (dgStep l s) (st.1, [], false)).2.1)
def digAll (l : List (S82)) (load v : List Int) : Int := (v.foldl (dgOut l) (0, load)).1
def digP (l : List (S82)) (m : Nat) (st : Int × List Int) : Prop := 0 ≤ st.1 ∧ st.1 ≤ 10 * (m : Int) ∧ inL l st.2
theorem digP_step {m : Nat} {st : Int × List Int} (h : digP l m st) (s : Int) : digP l (m + 1) (dgOut l st s) := by
  obtain ⟨h1, h2, h3, h4⟩ := h
  obtain ⟨b1, b2, b3, b4⟩ := dg_bounds (l := l) s st.2 st.1 [] false
  unfold dgOut
  refine ⟨by dsimp only; omega, by dsimp only; omega, ?_, fun a ha => ?_⟩
  · dsimp only; simp only [List.length_nil] at b3; omega
  · rcases b4 a ha with h5 | h5
    · cases h5
    · exact h4 a h5
theorem implDigAll {load v : List Int} (hn : inL l load) (hv : v.length ≤ 10) : Ev (fun k => impl_DiggingOf.l0 k l load 0 v (v.length : Int) 0) (digAll l load v, 0) := by
  unfold digAll
  refine fold_in (fun k (st : Int × List Int) i => impl_DiggingOf.l0 k l st.2 st.1 v (v.length : Int) i) v 0 (digP l) (fun _ st x => dgOut l st x) _ (fun m st hm hp => ⟨digP_step hp _, fun r hr => ?_⟩) (0, load) ⟨by simp, by simp, hn⟩ (fun _ => ?_)
  · refine Ev.step (f := fun k => (impl_dig.f k l st.2 (v.getD m 0)).bind fun bt387 => (impl_DiggingOf.l0 k l bt387.2 (wrap64 (st.1 + bt387.1)) v (v.length : Int) ((m + 1 : Nat) : Int))) (fun k => ?_) ?_
    · simp only [impl_DiggingOf.l0]
      rw [if_pos (by omega), if_pos (by omega), if_pos (by omega), wrap_sm (i := (m : Int) + 1) (by omega) (by omega)]
      unfold rd; rw [Int.toNat_natCast]; rfl
    · refine Ev.bind (implDig hp.2.2 _) ?_
      obtain ⟨b1, b2, b3, b4⟩ := dg_bounds (l := l) (v.getD m 0) st.2 0 [] false
      have hq := hp.2.2.1
      have hp1 := hp.1; have hp2 := hp.2.1
      have e := dg_shift (l := l) (v.getD m 0) st.2 st.1 [] false
      dsimp only
      rw [wrap_sm (by omega) (by omega)]
      have e2 : dgOut l st (v.getD m 0) = (st.1 + (st.2.foldl (dgStep l (v.getD m 0)) (0, [], false)).1, (st.2.foldl (dgStep l (v.getD m 0)) (0, [], false)).2.1) := by
        unfold dgOut; rw [e]
      rw [e2] at hr
      exact hr
  · refine Ev.step (f := fun _ => some ((foldi (fun _ st x => dgOut l st x) 0 v (0, load)).1, 0)) (fun k => ?_) ?_
    · simp only [impl_DiggingOf.l0]
      rw [if_neg (by omega)]
    · rw [foldi_foldl]; exact Ev.now _
theorem specDigIn {now v : List Int} (hq : inL l now) (c0 : Int) (h0 : 0 ≤ c0) (h1 : c0 ≤ 100) (m : Nat) (hm : (m : Int) < v.length) (hm2 : m < 10) (s : Int) (hs : rd v (m : Int) = s) (r : Int)
    (hr : Ev (fun k => spec_l04Digging.l0 k l v (now.foldl (dgStep l s) (c0, [], false)).1 (now.foldl (dgStep l s) (c0, [], false)).2.1 ((m + 1 : Nat) : Int)) r) : Ev (fun k => spec_l04Digging.l1 k l v c0 now (m : Int) [] false 0) r := by
  have hl := hq.1
  refine fold_in (fun k (st : Int × List Int × Bool) i => spec_l04Digging.l1 k l v st.1 now (m : Int) st.2.1 st.2.2 i) now 0 (fun j st => 0 ≤ st.1 ∧ st.1 ≤ 100 + j ∧ st.2.1.length ≤ j) (fun _ st x => dgStep l s st x) r (fun j st hj hp => ?_) (c0, [], false) ⟨h0, by simp; exact h1, by simp⟩ (fun _ => ?_)
  · obtain ⟨c, out, met⟩ := st
    obtain ⟨p1, p2, p3⟩ := hp
    dsimp only at p1 p2 p3 ⊢
    have hc : c ≤ 110 := by clear hs hr hm; omega
    have ho : out.length ≤ 10 := by clear hs hr hm; omega
    have hjn : (j : Int) < now.length := Int.ofNat_lt.2 hj
    have hj10 : j < 10 := Nat.lt_of_lt_of_le hj hl
    have hg := getD_in hq hj
    have e0 : rd now (j : Int) = now.getD j 0 := by unfold rd; rw [Int.toNat_natCast]
    have ew : wrap64 ((j : Int) + 1) = ((j + 1 : Nat) : Int) := by clear e0 hs hr hg; rw [wrap_sm (i := (j : Int) + 1) (by omega) (by omega)]; rfl
    have q1 : 0 ≤ c + 1 := by clear hs e0 ew hg hr; omega
    have q2 : c + 1 ≤ 100 + ((j + 1 : Nat) : Int) := by clear hs e0 ew hg hr; omega
    have q3 : c ≤ 100 + ((j + 1 : Nat) : Int) := by clear hs e0 ew hg hr; omega
    have q4 : out.length ≤ j + 1 := Nat.le_succ_of_le p3
    have q5 : out.length < 17592186044416 := by clear hs e0 ew hg hr; omega
    have q6 : wrap64 (c + 1) = c + 1 := by clear hs e0 ew hg hr; exact wrap_sm (by omega) (by omega)
    by_cases h : wrap64 (rd_T82 l (now.getD j 0)).f0 = s
    · rw [dgStep_own h]
      refine ⟨⟨p1, q3, q4⟩, fun r hr => Ev.step (fun k => ?_) hr⟩
      simp only [spec_l04Digging.l1]
      rw [if_pos hjn, if_pos (Int.natCast_nonneg j), e0, if_pos hg.1, if_pos hg.2, if_pos (Int.natCast_nonneg m), if_pos hm, hs, if_pos h, ew]
    · rw [dgStep_not h]
      refine ⟨⟨?_, ?_, by rw [List.length_append]; exact Nat.succ_le_succ p3⟩, fun r hr => Ev.step (fun k => ?_) hr⟩
      · dsimp only; split
        · exact q1
        · exact p1
      · dsimp only; split
        · exact q2
        · exact q3
      · simp only [spec_l04Digging.l1]
        rw [if_pos hjn, if_pos (Int.natCast_nonneg j), e0, if_pos hg.1, if_pos hg.2, if_pos (Int.natCast_nonneg m), if_pos hm, hs, if_neg h, ew]
        cases met with
        | true => rw [if_pos rfl, if_pos q5, q6, if_pos rfl]
        | false => rw [if_neg (by simp), if_pos q5, if_neg (by simp)]
  · refine Ev.step (f := fun k => spec_l04Digging.l0 k l v (foldi (fun _ st x => dgStep l s st x) 0 now (c0, [], false)).1 (foldi (fun _ st x => dgStep l s st x) 0 now (c0, [], false)).2.1 ((m + 1 : Nat) : Int)) (fun k => ?_) ?_
    · simp only [spec_l04Digging.l1]
      rw [if_neg (Int.lt_irrefl _), show wrap64 ((m : Int) + 1) = ((m + 1 : Nat) : Int) from by clear hs hr; rw [wrap_sm (i := (m : Int) + 1) (by omega) (by omega)]; rfl]
    · rw [foldi_foldl]; exact hr
theorem specDigAll {load v : List Int} (hn : inL l load) (hv : v.length ≤ 10) : Ev (fun k => spec_l04Digging.f k l load v) (digAll l load v) := by
  have hln := hn.1
  have e : ∀ k, spec_l04Digging.f k l load v = spec_l04Digging.l0 k l v 0 load 0 := by
    intro k
    unfold spec_l04Digging.f spec_l00Own.f
    simp only [Option.bind_some]
    rw [if_pos (by simp only [List.length_nil]; omega)]
    rfl
  refine Ev.congr e ?_
  unfold digAll
  refine fold_in (fun k (st : Int × List Int) i => spec_l04Digging.l0 k l v st.1 st.2 i) v 0 (digP l) (fun _ st x => dgOut l st x) _ (fun m st hm hp => ⟨digP_step hp _, fun r hr => ?_⟩) (0, load) ⟨by simp, by simp, hn⟩ (fun _ => ?_)
  · obtain ⟨c0, now⟩ := st
    have hp1 : 0 ≤ c0 := hp.1
    have hp2 : c0 ≤ 10 * (m : Int) := hp.2.1
    have hq : inL l now := hp.2.2
    refine Ev.step (f := fun k => spec_l04Digging.l1 k l v c0 now (m : Int) [] false 0) (fun k => ?_) ?_
    · simp only [spec_l04Digging.l0]
      rw [if_pos (by omega)]
    · exact specDigIn hq c0 hp1 (by omega) m (by omega) (by omega) (v.getD m 0) (by unfold rd; rw [Int.toNat_natCast]) r hr
  · refine Ev.step (f := fun _ => some (foldi (fun _ st x => dgOut l st x) 0 v (0, load)).1) (fun k => ?_) ?_
    · simp only [spec_l04Digging.l0]
      rw [if_neg (by omega)]
    · rw [foldi_foldl]; exact Ev.now _
theorem stps_rising (l : List (S82)) : (stps l).Pairwise (· < ·) := (stps_gen (l := l) 9).1
theorem stps_len (l : List (S82)) : (stps l).length ≤ 9 := by
  have := addS_len (l := l) (List.range 9) []
  simp only [List.length_nil, List.length_range] at this
  unfold stps; omega
def rDiggingOf (l : List (S82)) (load v : List Int) : Int × Int := if okPs l = true then (if eachOf load (ups l.length) = true then (if eachOf v (stps l) = true then (digAll l load v, 0) else (0, 4)) else (0, 4)) else (0, 1)
theorem each_in {load : List Int} (hl : l.length ≤ 10) (h : eachOf load (ups l.length) = true) : inL l load := by
  obtain ⟨h1, _, h3⟩ := of_decide_eq_true h
  have : (ups l.length).length = l.length := by unfold ups; simp
  exact ⟨by omega, fun a ha => mem_ups.1 (h3 a ha)⟩
theorem each_len {v : List Int} (h : eachOf v (stps l) = true) : v.length ≤ 10 := by
  obtain ⟨h1, _, _⟩ := of_decide_eq_true h
  have := stps_len l; omega
theorem specDiggingOf (hl : l.length ≤ 2097152) (h : ∀ x ∈ l, wfParcel x) (load : List Int) (h1 : load.length ≤ 2097152) (v : List Int) (hv : v.length ≤ 2097152) : Ev (fun k => spec_DiggingOf.f k l load v) (rDiggingOf l load v) := by
  unfold spec_DiggingOf.f rDiggingOf
  refine Ev.bind (spec_okValidParcels hl h) ?_
  cases ho : okPs l with
  | false => exact Ev.now _
  | true =>
    simp only [if_true]
    refine Ev.bind (eachEv l.length load hl h1) ?_
    cases hb : eachOf load (ups l.length) with
    | false => exact Ev.now _
    | true =>
      simp only [if_true]
      refine Ev.bind (specStops hl) (Ev.bind (visitEv (stps l) v (by have := stps_len l; omega) hv) ?_)
      cases he : eachOf v (stps l) with
      | false => exact Ev.now _
      | true => simp only [if_true]; exact Ev.bind (specDigAll (each_in (okPs_all ho).1 hb) (each_len he)) (Ev.now _)
theorem implDiggingOf (hl : l.length ≤ 2097152) (h : ∀ x ∈ l, wfParcel x) (load : List Int) (h1 : load.length ≤ 2097152) (v : List Int) (hv : v.length ≤ 2097152) : Ev (fun k => impl_DiggingOf.f k l load v) (rDiggingOf l load v) := by
  unfold impl_DiggingOf.f rDiggingOf
  simp only [impl_okValidParcels h, Option.bind_some]
  cases ho : okPs l with
  | false => exact Ev.now _
  | true =>
    simp only [if_true]
    refine Ev.bind (implIndices hl) (Ev.bind (isEachEv load (ups l.length) (ups_rising _) h1) ?_)
    cases hb : eachOf load (ups l.length) with
    | false => exact Ev.now _
    | true =>
      simp only [if_true]
      refine Ev.bind (implStops ho) (Ev.bind (isEachEv v (stps l) (stps_rising l) hv) ?_)
      cases he : eachOf v (stps l) with
      | false => exact Ev.now _
      | true => simp only [if_true]; exact implDigAll (each_in (okPs_all ho).1 hb) (each_len he)
end
end Go.Proofs.Ytihnefkkgbokcaa.Pure
