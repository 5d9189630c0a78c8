/- LoadFor: the reference and the program. -/
import Derived.Test.YtihnefkkgbokcaaQ1
import Derived.Test.YtihnefkkgbokcaaQ4
import Derived.Test.YtihnefkkgbokcaaPureCParcels
import Derived.Test.YtihnefkkgbokcaaPureB1
set_option linter.unusedVariables false
set_option linter.unusedSimpArgs false
namespace Go.Proofs.Ytihnefkkgbokcaa.Pure
open Go.RowKit Go.Proofs.Ytihnefkkgbokcaa.Q Go.Proofs.YtihnefkkgbokcaaMine Go.Proofs.YtihnefkkgbokcaaW.PrintWords Go.Proofs.YtihnefkkgbokcaaW.PrintMore
section
variable (l : List (S82))
def stp (i : Int) : Int := (l.getD i.toNat z82).f0
def lts (a b : Int) : Bool := decide (stp l b < stp l a ∨ (stp l b = stp l a ∧ b < a))
def desc : Nat → List Int
  | 0 => []
  | m + 1 => (m : Int) :: desc m
def ups (n : Nat) : List Int := (List.range n).map (fun i : Nat => (i : Int))
def filt (s : Int) (m : Nat) : List Int := (desc m).filter (fun i => decide (stp l i = s))
/-- All indices, stop by stop from c - 1 down. -/
def byStop (n : Nat) : Nat → List Int
  | 0 => []
  | c + 1 => filt l (c : Int) n ++ byStop n c
end
theorem mem_desc {i : Int} : ∀ m : Nat, i ∈ desc m ↔ 0 ≤ i ∧ i < m
  | 0 => by simp only [desc, List.not_mem_nil, false_iff]; omega
  | m + 1 => by
    unfold desc
    rw [List.mem_cons, mem_desc m]
    omega
theorem desc_sorted : ∀ m : Nat, (desc m).Pairwise (fun a b => b < a)
  | 0 => List.Pairwise.nil
  | m + 1 => List.pairwise_cons.2 ⟨fun b hb => ((mem_desc m).1 hb).2, desc_sorted m⟩
theorem mem_ups {i : Int} {n : Nat} : i ∈ ups n ↔ 0 ≤ i ∧ i < n := by
  unfold ups
  simp only [List.mem_map, List.mem_range]
  exact ⟨fun ⟨a, h, e⟩ => by omega, fun h => ⟨i.toNat, by omega, by omega⟩⟩
theorem ups_nodup (n : Nat) : (ups n).Nodup := by
  unfold ups
  exact (List.pairwise_map).2 ((List.nodup_range (n := n)).imp (fun h e => h (by omega)))
theorem mem_byStop {l : List (S82)} {n : Nat} {i : Int} : ∀ c : Nat, i ∈ byStop l n c ↔ (0 ≤ i ∧ i < n) ∧ 0 ≤ stp l i ∧ stp l i < c
  | 0 => by simp only [byStop, List.not_mem_nil, false_iff]; omega
  | c + 1 => by
    unfold byStop filt
    rw [List.mem_append, mem_byStop c, List.mem_filter, mem_desc, decide_eq_true_eq]
    omega
theorem byStop_sorted {l : List (S82)} {n : Nat} : ∀ c : Nat, (byStop l n c).Pairwise (fun a b => lts l a b = true)
  | 0 => List.Pairwise.nil
  | c + 1 => by
    unfold byStop
    refine List.pairwise_append.2 ⟨?_, byStop_sorted c, fun a ha b hb => ?_⟩
    · unfold filt
      refine List.Pairwise.imp_of_mem (fun {a b} ha hb h => ?_) (List.Pairwise.filter _ (desc_sorted n))
      have h1 := of_decide_eq_true (List.mem_filter.1 ha).2
      have h2 := of_decide_eq_true (List.mem_filter.1 hb).2
      unfold lts; rw [decide_eq_true_eq]; omega
    · unfold filt at ha
      have h1 := of_decide_eq_true (List.mem_filter.1 ha).2
      have h2 := ((mem_byStop c).1 hb).2
      unfold lts; rw [decide_eq_true_eq]; omega
def cmpO (a b : Int) : Int := if a < b then -1 else if a > b then 1 else 0
theorem cmp8 (a b : Int) : cmp_Compare_int8.f a b = some (cmpO a b) := by
  unfold cmp_Compare_int8.f cmp_isNaN_int8.f cmpO
  by_cases h : a < b
  · simp [h]
  · by_cases h2 : a > b
    · simp [h, h2]
    · simp [h, h2]
theorem cmp64 (a b : Int) : cmp_Compare_int64.f a b = some (cmpO a b) := by
  unfold cmp_Compare_int64.f cmp_isNaN_int64.f cmpO
  by_cases h : a < b
  · simp [h]
  · by_cases h2 : a > b
    · simp [h, h2]
    · simp [h, h2]
theorem orTwo (a b : Int) : Ev (fun k => cmp_Or_int.f k [a, b]) (if a = 0 then b else a) := by
  unfold cmp_Or_int.f
  by_cases h : a = 0
  · subst h
    refine Ev.step (f := fun k => cmp_Or_int.l0 k 0 [0, b] 2 1) (fun k => by simp [cmp_Or_int.l0, rd, wrap64]) ?_
    by_cases hb : b = 0
    · subst hb
      refine Ev.step (f := fun k => cmp_Or_int.l0 k 0 [0, 0] 2 2) (fun k => by simp [cmp_Or_int.l0, rd, wrap64]) ?_
      exact Ev.step (f := fun _ => some 0) (fun k => by simp [cmp_Or_int.l0]) (Ev.now _)
    · exact Ev.step (f := fun _ => some b) (fun k => by simp [cmp_Or_int.l0, rd, hb]) (Ev.now _)
  · exact Ev.step (f := fun _ => some a) (fun k => by simp [cmp_Or_int.l0, rd, h]) (Ev.eq (Ev.now _) (by rw [if_neg h]))
def ordO (l : List (S82)) (a b : Int) : Int := if cmpO (stp l b) (stp l a) = 0 then cmpO b a else cmpO (stp l b) (stp l a)
theorem implOrd {l : List (S82)} {a b : Int} (ha : 0 ≤ a ∧ a < l.length) (hb : 0 ≤ b ∧ b < l.length) : Ev (fun k => impl_LoadFor_1.f k a b l) (ordO l a b) := by
  unfold impl_LoadFor_1.f
  simp only [if_pos ha.1, if_pos ha.2, if_pos hb.1, if_pos hb.2, cmp8, cmp64, Option.bind_some]
  exact Ev.bind (orTwo _ _) (Ev.now _)
theorem ordO_lt (l : List (S82)) (a b : Int) : ordO l a b < 0 ↔ lts l a b = true := by
  unfold ordO cmpO lts
  rw [decide_eq_true_eq]
  repeat' split
  all_goals omega
theorem implIndices {n : Nat} (hn : n ≤ 2097152) : Ev (fun k => impl_indices.f k (n : Int)) (ups n) := by
  unfold impl_indices.f
  suffices hh : ∀ (d m : Nat), m + d = n → Ev (fun k => impl_indices.l0 k (ups m) (n : Int) (m : Int)) (ups n) from hh n 0 (by omega)
  intro d
  induction d with
  | zero =>
    intro m hm
    obtain rfl : m = n := by omega
    exact Ev.step (f := fun _ => some (ups m)) (fun k => by simp only [impl_indices.l0]; rw [if_neg (by omega)]) (Ev.now _)
  | succ d ih =>
    intro m hm
    refine Ev.step (fun k => ?_) (ih (m + 1) (by omega))
    simp only [impl_indices.l0]
    have hlen : (ups m).length = m := by simp [ups]
    rw [if_pos (by omega), if_pos (by omega), wrap_sm (i := (m : Int) + 1) (by omega) (by omega)]
    have : ups (m + 1) = ups m ++ [(m : Int)] := by simp [ups, List.range_succ]
    rw [this]; rfl
theorem implSortL {l : List (S82)} (hl : l.length ≤ 12) (hs : ∀ i : Int, 0 ≤ i → i < l.length → 0 ≤ stp l i ∧ stp l i < 9) : Ev (fun k => slices_SortFunc_int64_at_impl_LoadFor_1.f k (ups l.length) l) (byStop l l.length 9) := by
  have hlen : (ups l.length).length = l.length := by simp [ups]
  have hins : Ev (fun k => slices_insertionSortCmpFunc_int64_at_impl_LoadFor_1.f k (ups l.length) 0 (l.length : Int) l) (byStop l l.length 9) := by
    unfold slices_insertionSortCmpFunc_int64_at_impl_LoadFor_1.f
    have h1 : wrap64 (0 + 1) = ((1 : Nat) : Int) := by unfold wrap64; omega
    rw [h1]
    refine insSort (fun k x i => slices_insertionSortCmpFunc_int64_at_impl_LoadFor_1.l0 k x 0 (l.length : Int) i l) (fun k x i j => slices_insertionSortCmpFunc_int64_at_impl_LoadFor_1.l1 k x 0 (l.length : Int) i j l) (lts l) (fun i => 0 ≤ i ∧ i < l.length) (ups l.length) (byStop l l.length 9) ?_ ?_ ?_ (fun a ha => mem_ups.1 ha) (ups_nodup _) ?_ ?_ ?_ ?_ ?_ 1 (by omega)
    · intro a b h1 h2; unfold lts at h1 h2; rw [decide_eq_true_eq] at h1 h2; omega
    · intro a b c h1 h2; unfold lts at *; rw [decide_eq_true_eq] at *; omega
    · intro a b _ _ hne h; unfold lts at *; rw [decide_eq_false_iff_not] at h; rw [decide_eq_true_eq]; omega
    · intro x i hx hi h
      refine Ev.step (fun k => ?_) h
      simp only [slices_insertionSortCmpFunc_int64_at_impl_LoadFor_1.l0]; rw [if_pos (by omega)]
    · intro x i hx hi hsort hperm
      have e : x = byStop l l.length 9 := by
        refine sorted_one (lt := lts l) (fun a b h1 h2 => by unfold lts at h1 h2; rw [decide_eq_true_eq] at h1 h2; omega) _ _ hsort (byStop_sorted 9) (hperm.trans ?_)
        refine (List.perm_ext_iff_of_nodup (ups_nodup _) ?_).2 (fun a => ?_)
        · exact (byStop_sorted 9).imp (fun {a b} h e => by subst e; unfold lts at h; rw [decide_eq_true_eq] at h; omega)
        · rw [mem_ups, mem_byStop]
          exact ⟨fun h => ⟨h, hs a h.1 h.2⟩, fun h => h.1⟩
      refine Ev.step (f := fun _ => some x) (fun k => ?_) (Ev.eq (Ev.now _) e)
      simp only [slices_insertionSortCmpFunc_int64_at_impl_LoadFor_1.l0]; rw [if_neg (by omega)]
    · intro x i hx hi h
      refine Ev.step (fun k => ?_) h
      simp only [slices_insertionSortCmpFunc_int64_at_impl_LoadFor_1.l1]; rw [if_neg (by omega), wrap_sm (i := (i : Int) + 1) (by omega) (by omega)]; rfl
    · intro x i j hx hi hj hv1 hv0 hlt h
      refine Ev.step (f := fun k => (impl_LoadFor_1.f k (x.getD (j + 1) 0) (x.getD j 0) l).bind fun t => if t < 0 then slices_insertionSortCmpFunc_int64_at_impl_LoadFor_1.l1 k ((x.set (j + 1) (x.getD j 0)).set j (x.getD (j + 1) 0)) 0 (l.length : Int) (i : Int) (j : Int) l else slices_insertionSortCmpFunc_int64_at_impl_LoadFor_1.l0 k x 0 (l.length : Int) ((i + 1 : Nat) : Int) l) (fun k => ?_) (Ev.bind (implOrd hv1 hv0) ?_)
      · simp only [slices_insertionSortCmpFunc_int64_at_impl_LoadFor_1.l1]
        rw [wrap_sm (i := ((j + 1 : Nat) : Int) - 1) (by omega) (by omega), show ((j + 1 : Nat) : Int) - 1 = (j : Int) by omega, if_pos (by omega), if_pos (by omega), if_pos (by omega), if_pos (by omega), if_pos (by omega), wrap_sm (i := (i : Int) + 1) (by omega) (by omega)]
        rfl
      · simp only [if_pos ((ordO_lt l _ _).2 hlt)]; exact h
    · intro x i j hx hi hj hv1 hv0 hlt h
      refine Ev.step (f := fun k => (impl_LoadFor_1.f k (x.getD (j + 1) 0) (x.getD j 0) l).bind fun t => if t < 0 then slices_insertionSortCmpFunc_int64_at_impl_LoadFor_1.l1 k ((x.set (j + 1) (x.getD j 0)).set j (x.getD (j + 1) 0)) 0 (l.length : Int) (i : Int) (j : Int) l else slices_insertionSortCmpFunc_int64_at_impl_LoadFor_1.l0 k x 0 (l.length : Int) ((i + 1 : Nat) : Int) l) (fun k => ?_) (Ev.bind (implOrd hv1 hv0) ?_)
      · simp only [slices_insertionSortCmpFunc_int64_at_impl_LoadFor_1.l1]
        rw [wrap_sm (i := ((j + 1 : Nat) : Int) - 1) (by omega) (by omega), show ((j + 1 : Nat) : Int) - 1 = (j : Int) by omega, if_pos (by omega), if_pos (by omega), if_pos (by omega), if_pos (by omega), if_pos (by omega), wrap_sm (i := (i : Int) + 1) (by omega) (by omega)]
        rfl
      · have : ¬ ordO l (x.getD (j + 1) 0) (x.getD j 0) < 0 := fun h' => by rw [(ordO_lt l _ _).1 h'] at hlt; cases hlt
        simp only [if_neg this]; exact h
  unfold slices_SortFunc_int64_at_impl_LoadFor_1.f bits_Len.f
  have hu : IntKind.u64.wrap ((ups l.length).length : Int) = (l.length : Int) := by rw [hlen]; simp [IntKind.wrap, IntKind.signed, IntKind.bits]; omega
  rw [hu, hlen, if_pos (by omega), if_pos (by omega)]
  simp only [Option.bind_some]
  refine Ev.bind (Ev.step (f := fun k => slices_pdqsortCmpFunc_int64_at_impl_LoadFor_1.l0 k (ups l.length) 0 (l.length : Int) _ true l) (fun k => rfl) (Ev.step (f := fun k => (slices_insertionSortCmpFunc_int64_at_impl_LoadFor_1.f k (ups l.length) 0 (l.length : Int) l).bind fun t => some t) (fun k => ?_) (Ev.bind hins (Ev.now _)))) (Ev.now _)
  simp only [slices_pdqsortCmpFunc_int64_at_impl_LoadFor_1.l0]
  rw [if_pos (by unfold wrap64; omega)]
def rLoadFor (l : List (S82)) : List Int × Int := if okPs l = true then (byStop l l.length 9, 0) else ([], 1)
theorem okPs_bd {l : List (S82)} (h : okPs l = true) : l.length ≤ 10 ∧ ∀ i : Int, 0 ≤ i → i < l.length → 0 ≤ stp l i ∧ stp l i < 9 := by
  unfold okPs at h
  rw [Bool.and_eq_true, decide_eq_true_eq, List.all_eq_true] at h
  refine ⟨by omega, fun i h0 h1 => ?_⟩
  have := h.2 _ (get_mem z82 (show i.toNat < l.length by omega)).1
  unfold okP at this
  rw [Bool.and_eq_true, inR_iff] at this
  unfold stp; omega
theorem implLoadFor {l : List (S82)} (hl : l.length ≤ 2097152) (h : ∀ x ∈ l, wfParcel x) : Ev (fun k => impl_LoadFor.f k l) (rLoadFor l) := by
  unfold impl_LoadFor.f rLoadFor
  simp only [impl_okValidParcels h, Option.bind_some]
  cases ho : okPs l with
  | false => exact Ev.now _
  | true =>
    obtain ⟨h1, h2⟩ := okPs_bd ho
    simp only [if_true]
    exact Ev.bind (implIndices hl) (Ev.bind (implSortL (by omega) h2) (Ev.now _))
theorem specLoadFor {l : List (S82)} (hl : l.length ≤ 2097152) (h : ∀ x ∈ l, wfParcel x) : Ev (fun k => spec_LoadFor.f k l) (rLoadFor l) := by
  unfold spec_LoadFor.f rLoadFor
  refine Ev.bind (spec_okValidParcels hl h) ?_
  cases ho : okPs l with
  | false => exact Ev.now _
  | true =>
    simp only [if_true]
    have hin : ∀ (m : Nat), m ≤ l.length → ∀ (acc : List Int) (s : Int) (r : List Int × Int), acc.length + m ≤ 8796093022208 → Ev (fun k => spec_LoadFor.l0 k l (acc ++ filt l s m) (IntKind.i8.wrap (s - 1))) r → Ev (fun k => spec_LoadFor.l1 k l acc s ((m : Int) - 1)) r := by
      intro m
      induction m with
      | zero =>
        intro _ acc s r _ hr
        refine Ev.step (fun k => ?_) hr
        simp only [spec_LoadFor.l1]
        rw [if_neg (by omega)]
        simp [filt, desc]
      | succ m ih =>
        intro hm acc s r hacc hr
        have e : ((m + 1 : Nat) : Int) - 1 = (m : Int) := by omega
        rw [e]
        by_cases hs : stp l (m : Int) = s
        · refine Ev.step (f := fun k => spec_LoadFor.l1 k l (acc ++ [(m : Int)]) s ((m : Int) - 1)) (fun k => ?_) (ih (by omega) _ s r (by simp; omega) ?_)
          · simp only [spec_LoadFor.l1]
            rw [if_pos (by omega), if_pos (by omega), if_pos (by omega), if_pos (show (rd_T82 l (m : Int)).f0 = s from hs), if_pos (by omega), wrap_sm (i := (m : Int) - 1) (by omega) (by omega)]
          · have : acc ++ [(m : Int)] ++ filt l s m = acc ++ filt l s (m + 1) := by
              unfold filt
              rw [show desc (m + 1) = (m : Int) :: desc m from rfl, List.filter_cons_of_pos (by simpa using hs)]; simp
            rw [this]; exact hr
        · refine Ev.step (f := fun k => spec_LoadFor.l1 k l acc s ((m : Int) - 1)) (fun k => ?_) (ih (by omega) _ s r (by omega) ?_)
          · simp only [spec_LoadFor.l1]
            rw [if_pos (by omega), if_pos (by omega), if_pos (by omega), if_neg (show ¬ (rd_T82 l (m : Int)).f0 = s from hs), wrap_sm (i := (m : Int) - 1) (by omega) (by omega)]
          · have : filt l s m = filt l s (m + 1) := by
              unfold filt
              rw [show desc (m + 1) = (m : Int) :: desc m from rfl, List.filter_cons_of_neg (by simpa using hs)]
            rw [this]; exact hr
    have hlenf : ∀ s m, (filt l s m).length ≤ m := by
      intro s m
      have h1 : (desc m).length = m := by induction m with
        | zero => rfl
        | succ m ih => simp [desc, ih]
      have := List.length_filter_le (fun i => decide (stp l i = s)) (desc m)
      unfold filt; omega
    suffices hh : ∀ c : Nat, c ≤ 9 → ∀ acc : List Int, acc.length + c * l.length ≤ 4398046511104 → Ev (fun k => spec_LoadFor.l0 k l acc ((c : Int) - 1)) (acc ++ byStop l l.length c, 0) by
      exact hh 9 (by omega) [] (by simp; omega)
    intro c
    induction c with
    | zero =>
      intro _ acc _
      refine Ev.step (f := fun _ => some (acc, 0)) (fun k => ?_) (Ev.eq (Ev.now _) (by simp [byStop]))
      simp only [spec_LoadFor.l0]; rw [if_neg (by omega)]
    | succ c ih =>
      intro hc acc hacc
      have e : ((c + 1 : Nat) : Int) - 1 = (c : Int) := by omega
      rw [e]
      refine Ev.step (f := fun k => spec_LoadFor.l1 k l acc (c : Int) ((l.length : Int) - 1)) (fun k => ?_) (hin l.length (by omega) acc (c : Int) _ (by have := Nat.zero_le c; rw [Nat.add_mul] at hacc; omega) ?_)
      · simp only [spec_LoadFor.l0]; rw [if_pos (by omega), wrap_sm (i := (l.length : Int) - 1) (by omega) (by omega)]
      · have hw : IntKind.i8.wrap ((c : Int) - 1) = (c : Int) - 1 := by simp [IntKind.wrap, IntKind.signed, IntKind.bits]; omega
        rw [hw]
        refine Ev.eq (ih (by omega) _ ?_) ?_
        · rw [List.length_append]; have := hlenf (c : Int) l.length; rw [Nat.add_mul] at hacc; omega
        · rw [show byStop l l.length (c + 1) = filt l (c : Int) l.length ++ byStop l l.length c from rfl, List.append_assoc]
end Go.Proofs.Ytihnefkkgbokcaa.Pure
