/- Stops put into bags, one after the other: the reference and the program. -/
import Derived.Test.YtihnefkkgbokcaaQ2
import Derived.Test.YtihnefkkgbokcaaQ5
import Derived.Test.YtihnefkkgbokcaaPureCStops
import Derived.Test.YtihnefkkgbokcaaPureCImplAt
import Derived.Test.YtihnefkkgbokcaaPureCGreedy
set_option linter.unusedVariables false
set_option linter.unusedSimpArgs false
namespace Go.Proofs.Ytihnefkkgbokcaa.Pure
open Go.RowKit Go.Proofs.Ytihnefkkgbokcaa.Q Go.Proofs.YtihnefkkgbokcaaMine Go.Proofs.YtihnefkkgbokcaaW.PrintWords Go.Proofs.YtihnefkkgbokcaaW.PrintMore
section
variable {l : List (S82)}
def wN (s : Int) : List (S82) → Int
  | [] => 0
  | x :: xs => (if x.f0 = s then x.f1 else 0) + wN s xs
def totN : List (S82) → Int
  | [] => 0
  | x :: xs => x.f1 + totN xs
theorem okP_bd {x : S82} (h : okP x = true) : (0 ≤ x.f0 ∧ x.f0 ≤ 8) ∧ 1 ≤ x.f1 ∧ x.f1 ≤ 5000 := by
  unfold okP at h
  rw [Bool.and_eq_true, inR_iff, inR_iff] at h
  exact h
theorem wN_bd (s : Int) : ∀ (l : List (S82)), (∀ x ∈ l, okP x = true) → 0 ≤ wN s l ∧ wN s l ≤ totN l ∧ totN l ≤ 5000 * (l.length : Int)
  | [], _ => by simp [wN, totN]
  | x :: xs, h => by
    obtain ⟨_, h1, h2⟩ := okP_bd (h x List.mem_cons_self)
    have := wN_bd s xs (fun y hy => h y (List.mem_cons_of_mem _ hy))
    simp only [wN, totN, List.length_cons]
    split <;> omega
theorem wAt_from (s : Int) : ∀ (l : List (S82)) (a : Int), (∀ x ∈ l, okP x = true) → 0 ≤ a → a + 5000 * (l.length : Int) ≤ 1000000 → l.foldl (fun a x => if wrap64 x.f0 = s then wrap64 (a + wrap64 x.f1) else a) a = a + wN s l
  | [], a, _, _, _ => by simp [wN]
  | x :: xs, a, h, h0, h1 => by
    obtain ⟨p0, p1, p2⟩ := okP_bd (h x List.mem_cons_self)
    simp only [List.length_cons] at h1
    rw [List.foldl_cons, wrap_id (i := x.f0) (by omega) (by omega)]
    unfold wN
    by_cases e : x.f0 = s
    · rw [if_pos e, if_pos e, wrap_id (i := x.f1) (by omega) (by omega), wrap_id (i := a + x.f1) (by omega) (by omega), wAt_from s xs (a + x.f1) (fun y hy => h y (List.mem_cons_of_mem _ hy)) (by omega) (by omega)]
      omega
    · rw [if_neg e, if_neg e, wAt_from s xs a (fun y hy => h y (List.mem_cons_of_mem _ hy)) h0 (by omega)]
      omega
theorem wAt_eq (h : okPs l = true) (s : Int) : wAt l s = wN s l := by
  obtain ⟨hl, hok⟩ := okPs_all h
  unfold wAt
  rw [wAt_from s l 0 hok (by omega) (by omega)]; omega
/-- What all parcels for different stops weigh. -/
theorem sum_wN : ∀ (l : List (S82)) (S : List Int), (∀ x ∈ l, okP x = true) → S.Pairwise (· < ·) → sumI (S.map (fun s => wN s l)) ≤ totN l
  | [], S, _, _ => by
    have : ∀ S : List Int, sumI (S.map (fun s => wN s [])) = 0 := by
      intro S
      induction S with
      | nil => rfl
      | cons x xs ih =>
        unfold sumI at ih ⊢
        rw [List.map_cons, List.foldl_cons, sum_from]
        unfold sumI; rw [ih]; rfl
    rw [this]; simp [totN]
  | x :: xs, S, h, hS => by
    have ih := sum_wN xs S (fun y hy => h y (List.mem_cons_of_mem _ hy)) hS
    obtain ⟨_, p1, _⟩ := okP_bd (h x List.mem_cons_self)
    have hx : ∀ T : List Int, T.Pairwise (· < ·) → sumI (T.map (fun s => wN s (x :: xs))) ≤ x.f1 + sumI (T.map (fun s => wN s xs)) ∧ ((∀ s ∈ T, s ≠ x.f0) → sumI (T.map (fun s => wN s (x :: xs))) = sumI (T.map (fun s => wN s xs))) := by
      intro T
      induction T with
      | nil => intro _; exact ⟨by simp [sumI]; omega, fun _ => rfl⟩
      | cons t ts iht =>
        intro hT
        obtain ⟨i1, i2⟩ := iht (List.pairwise_cons.1 hT).2
        have e : ∀ (m : List (S82)), sumI ((t :: ts).map (fun s => wN s m)) = wN t m + sumI (ts.map (fun s => wN s m)) := fun m => by
          unfold sumI; rw [List.map_cons, List.foldl_cons, sum_from]; unfold sumI; omega
        rw [e, e]
        by_cases c : x.f0 = t
        · have hne : ∀ s ∈ ts, s ≠ x.f0 := fun s hs => by have := (List.pairwise_cons.1 hT).1 s hs; omega
          rw [i2 hne]
          have hw : wN t (x :: xs) = x.f1 + wN t xs := by simp [wN, c]
          rw [hw]
          exact ⟨by omega, fun hh => absurd c.symm (hh t List.mem_cons_self)⟩
        · have hw : wN t (x :: xs) = wN t xs := by simp [wN, c]
          rw [hw]
          exact ⟨by omega, fun hh => by rw [i2 (fun s hs => hh s (List.mem_cons_of_mem _ hs))]⟩
    have := (hx S hS).1
    simp only [totN]; omega
/-- What the parcels of each stop weigh. -/
def owns (l : List (S82)) : List Int := (stps l).map (wAt l)
theorem owns_bd (h : okPs l = true) : (∀ x ∈ owns l, 1 ≤ x ∧ x ≤ 50000) ∧ sumI (owns l) ≤ totN l ∧ 0 ≤ totN l ∧ totN l ≤ 49999 + 1 := by
  obtain ⟨hl, hok⟩ := okPs_all h
  obtain ⟨s1, s2⟩ := stps_gen (l := l) 9
  have hb := wN_bd 0 l hok
  refine ⟨fun x hx => ?_, ?_, by omega, by omega⟩
  · obtain ⟨s, hs, rfl⟩ := List.mem_map.1 hx
    have h1 := ((s2 s).1 hs).2
    have h2 := wN_bd s l hok
    rw [wAt_eq h] at h1 ⊢
    omega
  · have e : owns l = (stps l).map (fun s => wN s l) := by
      unfold owns
      exact List.map_congr_left (fun s _ => wAt_eq h s)
    rw [e]
    exact sum_wN l _ hok s1
/-- One stop more in its bag. -/
def spS (l : List (S82)) (M : Int) (t : List (Int × Int) × (Int × Int)) (s : Int) : List (Int × Int) × (Int × Int) := (t.1 ++ [(s, (stepG M t.2 (wAt l s)).1 - 1)], stepG M t.2 (wAt l s))
def spR (l : List (S82)) (M : Int) : List (Int × Int) × (Int × Int) := (stps l).foldl (spS l M) ([], (0, M))
def spOk (l : List (S82)) (M : Int) : Bool := (owns l).all (fun n => decide (n ≤ M))
theorem spR_runG (M : Int) : ∀ (S : List Int) (t : List (Int × Int) × (Int × Int)), (S.foldl (spS l M) t).2 = runG M (S.map (wAt l)) t.2
  | [], t => rfl
  | s :: ss, t => by
    rw [List.foldl_cons, spR_runG M ss, List.map_cons]
    rfl
theorem spR_bags (M : Int) : (spR l M).2.1 = bagsN M (owns l) := by
  unfold spR bagsN owns
  rw [spR_runG]
/-- What is known of a state. -/
def spI (M : Int) (m : Nat) (t : List (Int × Int) × (Int × Int)) : Prop := t.1.length = m ∧ 0 ≤ t.2.1 ∧ t.2.1 ≤ (m : Int) ∧ 0 ≤ t.2.2 ∧ t.2.2 ≤ M ∧ (t.2.1 = 0 → t.2.2 = M) ∧ (0 < t.2.1 → t.2.2 ≤ 50000 * (m : Int))
theorem spI_step {M : Int} {m : Nat} {t : List (Int × Int) × (Int × Int)} {s : Int} (h : spI M m t) (h1 : 1 ≤ wAt l s) (h2 : wAt l s ≤ 50000) (h3 : wAt l s ≤ M) : spI M (m + 1) (spS l M t s) ∧ 1 ≤ (spS l M t s).2.1 := by
  obtain ⟨a1, a2, a3, a4, a5, a6, a7⟩ := h
  unfold spI spS stepG
  simp only [List.length_append, List.length_singleton]
  by_cases c : t.2.2 + wAt l s > M
  · rw [if_pos c]; simp only
    refine ⟨⟨by omega, by omega, by omega, by omega, by omega, by omega, by omega⟩, by omega⟩
  · rw [if_neg c]; simp only
    have : 0 < t.2.1 := by
      by_cases e : t.2.1 = 0
      · have := a6 e; omega
      · omega
    have := a7 this
    refine ⟨⟨by omega, by omega, by omega, by omega, by omega, by omega, by omega⟩, by omega⟩
theorem stps_len : (stps l).length ≤ 9 := by
  have := addS_len (l := l) (List.range 9) []
  simp only [List.length_nil, List.length_range] at this
  unfold stps; omega
theorem stps_in (h : okPs l = true) {j : Nat} (hj : j < (stps l).length) : (0 ≤ (stps l).getD j 0 ∧ (stps l).getD j 0 ≤ 8) ∧ 1 ≤ wAt l ((stps l).getD j 0) ∧ wAt l ((stps l).getD j 0) ≤ 50000 := by
  have hm := (get_mem (0 : Int) hj).1
  have h1 := (((stps_gen (l := l) 9).2 _).1 hm).1
  exact ⟨by omega, (owns_bd h).1 _ (List.mem_map_of_mem hm)⟩
theorem implBagged (h : okPs l = true) {M : Int} (hM : 1 ≤ M ∧ M ≤ 9223372036854775807) : Ev (fun k => impl_bagged.f k l M) (if spOk l M = true then ((spR l M).1, (spR l M).2.1, true) else ([], 0, false)) := by
  obtain ⟨hl, hok⟩ := okPs_all h
  have hwf : ∀ x ∈ l, wfParcel x := fun x hx => by
    obtain ⟨p0, p1, p2⟩ := okP_bd (hok x hx)
    unfold wfParcel
    simp only [Lit.wf, IntKind.min, IntKind.max, IntKind.signed, IntKind.bits]
    refine ⟨?_, ?_⟩ <;> simp <;> omega
  unfold impl_bagged.f
  refine Ev.bind (implStops h) ?_
  have hsl := stps_len (l := l)
  suffices hh : ∀ (d m : Nat), m + d = (stps l).length → ∀ t, spI M m t → Ev (fun k => impl_bagged.l0 k l M t.1 t.2.1 t.2.2 (stps l) ((stps l).length : Int) (m : Int)) (if ((stps l).drop m).all (fun s => decide (wAt l s ≤ M)) = true then ((((stps l).drop m).foldl (spS l M) t).1, (((stps l).drop m).foldl (spS l M) t).2.1, true) else ([], 0, false)) by
    refine Ev.eq (hh (stps l).length 0 (by omega) ([], (0, M)) ⟨rfl, by simp only; omega, by simp, by simp only; omega, by simp only; omega, fun _ => rfl, fun hc => by simp at hc⟩) ?_
    unfold spOk owns spR
    rw [List.drop_zero, List.all_map]; rfl
  intro d
  induction d with
  | zero =>
    intro m hm t ht
    rw [List.drop_eq_nil_of_le (by omega)]
    refine Ev.step (f := fun _ => some (t.1, t.2.1, true)) (fun k => ?_) (Ev.now _)
    simp only [impl_bagged.l0]; rw [if_neg (by omega)]
  | succ d ih =>
    intro m hm t ht
    have hin := stps_in h (j := m) (by omega)
    rw [drop_step (0 : Int) (show m < (stps l).length by omega), List.all_cons, List.foldl_cons]
    have erd : rd (stps l) (m : Int) = (stps l).getD m 0 := rfl
    generalize (stps l).getD m 0 = s at hin erd ⊢
    obtain ⟨⟨q0, q1⟩, q2, q3⟩ := hin
    obtain ⟨a1, a2, a3, a4, a5, a6, a7⟩ := ht
    have hw1 : wrap64 (M - t.2.2) = M - t.2.2 := wrap_id (by omega) (by omega)
    have hw2 : wrap64 (t.2.1 + 1) = t.2.1 + 1 := wrap_sm (by omega) (by omega)
    have hw3 : wrap64 (t.2.1 + 1 - 1) = t.2.1 + 1 - 1 := wrap_sm (by omega) (by omega)
    have hw4 : wrap64 (t.2.1 - 1) = t.2.1 - 1 := wrap_sm (by omega) (by omega)
    have hw5 : wrap64 (0 + wAt l s) = wAt l s := by rw [Int.zero_add]; exact wrap_sm (by omega) (by omega)
    have hlim : t.1.length < 17592186044416 ∧ (-9223372036854775808 ≤ s ∧ s ≤ 9223372036854775807) := ⟨by omega, by omega, by omega⟩
    have hstep : ∀ k, impl_bagged.l0 (k + 1) l M t.1 t.2.1 t.2.2 (stps l) ((stps l).length : Int) (m : Int) = (impl_weightAt.f k l s).bind fun n => (if n > M then (some (([] : List (Int × Int)), 0, false)) else (if n > M - t.2.2 then impl_bagged.l0 k l M (t.1 ++ [(s, t.2.1 + 1 - 1)]) (t.2.1 + 1) (wrap64 (0 + n)) (stps l) ((stps l).length : Int) ((m + 1 : Nat) : Int) else impl_bagged.l0 k l M (t.1 ++ [(s, t.2.1 - 1)]) t.2.1 (wrap64 (t.2.2 + n)) (stps l) ((stps l).length : Int) ((m + 1 : Nat) : Int))) := by
      intro k
      simp only [impl_bagged.l0]
      rw [if_pos (by omega), if_pos (by omega), if_pos (by omega), erd, hw1, hw2, hw3, hw4, wrap_sm (i := (m : Int) + 1) (by omega) (by omega)]
      simp only [if_pos hlim]; rfl
    refine Ev.step hstep (Ev.bind (implAt (by omega) hwf s) ?_)
    by_cases c : wAt l s > M
    · simp only [if_pos c, decide_eq_false (show ¬ wAt l s ≤ M by omega), Bool.false_and, Bool.false_eq_true, if_false]
      exact Ev.now _
    · simp only [if_neg c, decide_eq_true (show wAt l s ≤ M by omega), Bool.true_and]
      have hi := (spI_step (l := l) (s := s) ⟨a1, a2, a3, a4, a5, a6, a7⟩ q2 q3 (by omega)).1
      have hr := ih (m + 1) (by omega) (spS l M t s) hi
      by_cases c2 : wAt l s > M - t.2.2
      · simp only [if_pos c2, hw5]
        have e : spS l M t s = (t.1 ++ [(s, t.2.1 + 1 - 1)], (t.2.1 + 1, wAt l s)) := by
          unfold spS stepG; rw [if_pos (by omega)]
        rw [e] at hr ⊢; exact hr
      · simp only [if_neg c2]
        have hw6 : wrap64 (t.2.2 + wAt l s) = t.2.2 + wAt l s := wrap_id (by omega) (by omega)
        have e : spS l M t s = (t.1 ++ [(s, t.2.1 - 1)], (t.2.1, t.2.2 + wAt l s)) := by
          unfold spS stepG; rw [if_neg (by omega)]
        rw [hw6]
        rw [e] at hr ⊢; exact hr
/-- The bag of each parcel. -/
def outS (l : List (S82)) (log : List (Int × Int)) : List Int := l.map (fun p => lk log (wrap64 p.f0))
theorem outS_len (log : List (Int × Int)) : (outS l log).length = l.length := by simp [outS]
theorem specFill (hl : l.length ≤ 10) (log : List (Int × Int)) {s b : Int} {M w : Int} {j : Nat} (hj : j < (stps l).length) (hs : (stps l).getD j 0 = s) (r : List Int × Int) (hr : Ev (fun k => spec_l04Split.l0 k l M (outS l (log ++ [(s, b)])) b w (stps l) ((j + 1 : Nat) : Int)) r) :
    Ev (fun k => spec_l04Split.l1 k l M (outS l log) b w (stps l) (j : Int) 0) r := by
  have hsl := stps_len (l := l)
  have erd : rd (stps l) (j : Int) = s := hs
  suffices hh : ∀ (d m : Nat), m + d = l.length → Ev (fun k => spec_l04Split.l1 k l M (outS (l.take m) (log ++ [(s, b)]) ++ outS (l.drop m) log) b w (stps l) (j : Int) (m : Int)) r from hh l.length 0 (by omega)
  intro d
  induction d with
  | zero =>
    intro m hm
    rw [List.drop_eq_nil_of_le (by omega), List.take_of_length_le (by omega)]
    refine Ev.step (f := fun k => spec_l04Split.l0 k l M (outS l (log ++ [(s, b)])) b w (stps l) ((j + 1 : Nat) : Int)) (fun k => ?_) hr
    simp only [spec_l04Split.l1]
    rw [if_neg (by omega), wrap_sm (i := (j : Int) + 1) (by omega) (by omega), show outS ([] : List (S82)) log = [] from rfl, List.append_nil]; rfl
  | succ d ih =>
    intro m hm
    have hmem : l[m]? = some (l.getD m z82) := getD_ge (by omega)
    have ih' := ih (m + 1) (by omega)
    rw [List.take_add_one, hmem] at ih'
    rw [drop_step z82 (show m < l.length by omega)]
    have erd2 : rd_T82 l (m : Int) = l.getD m z82 := by unfold rd_T82; rw [Int.toNat_natCast]
    generalize l.getD m z82 = p at ih' erd2 ⊢
    have htl : (outS (l.take m) (log ++ [(s, b)])).length = m := by rw [outS_len, List.length_take]; omega
    have e1 : outS (l.take m ++ (some p).toList) (log ++ [(s, b)]) = outS (l.take m) (log ++ [(s, b)]) ++ [if s = wrap64 p.f0 then b else lk log (wrap64 p.f0)] := by
      unfold outS; simp [lk_snoc]
    have e2 : outS (p :: l.drop (m + 1)) log = lk log (wrap64 p.f0) :: outS (l.drop (m + 1)) log := rfl
    rw [e1] at ih'
    rw [e2]
    generalize outS (l.take m) (log ++ [(s, b)]) = A at ih' htl ⊢
    generalize hB : outS (l.drop (m + 1)) log = B at ih' ⊢
    have hBl : B.length = l.length - (m + 1) := by rw [← hB, outS_len, List.length_drop]
    have hset : (A ++ lk log (wrap64 p.f0) :: B).set m b = A ++ [b] ++ B := by
      rw [List.set_append_right _ _ (by omega), htl, Nat.sub_self, List.set_cons_zero, List.append_assoc]; rfl
    by_cases c : wrap64 p.f0 = s
    · rw [if_pos c.symm] at ih'
      refine Ev.step (f := fun k => spec_l04Split.l1 k l M (A ++ [b] ++ B) b w (stps l) (j : Int) ((m + 1 : Nat) : Int)) (fun k => ?_) ih'
      simp only [spec_l04Split.l1]
      rw [if_pos (by omega), if_pos (by omega), if_pos (by omega), if_pos (by omega), erd2, erd, if_pos c, if_pos (by simp; omega), wrap_sm (i := (m : Int) + 1) (by omega) (by omega), Int.toNat_natCast, hset]; rfl
    · rw [if_neg (fun e => c e.symm), List.append_assoc] at ih'
      refine Ev.step (f := fun k => spec_l04Split.l1 k l M (A ++ lk log (wrap64 p.f0) :: B) b w (stps l) (j : Int) ((m + 1 : Nat) : Int)) (fun k => ?_) ih'
      simp only [spec_l04Split.l1]
      rw [if_pos (by omega), if_pos (by omega), if_pos (by omega), if_pos (by omega), erd2, erd, if_neg c, wrap_sm (i := (m : Int) + 1) (by omega) (by omega)]; rfl
theorem specSplit (h : okPs l = true) {M : Int} (hM : 1 ≤ M ∧ M ≤ 9223372036854775807) : Ev (fun k => spec_l04Split.f k l M) (if spOk l M = true then (outS l (spR l M).1, (spR l M).2.1) else ([], -1)) := by
  obtain ⟨hl, hok⟩ := okPs_all h
  have hsl := stps_len (l := l)
  unfold spec_l04Split.f
  simp only [if_pos (show 0 ≤ (l.length : Int) by omega), Int.toNat_natCast, if_pos (show l.length ≤ 35184372088832 by omega)]
  refine Ev.bind (specStops (l := l) (by omega)) ?_
  have e0 : List.replicate l.length (0 : Int) = outS l [] := by
    unfold outS
    apply List.ext_getElem
    · simp
    · intro i h1 h2; simp [lk]
  rw [e0]
  suffices hh : ∀ (d m : Nat), m + d = (stps l).length → ∀ t w, spI M m t → (0 ≤ w ∧ w ≤ 50000 * (m : Int)) → (0 < t.2.1 → w = t.2.2) → Ev (fun k => spec_l04Split.l0 k l M (outS l t.1) (t.2.1 - 1) w (stps l) (m : Int)) (if ((stps l).drop m).all (fun s => decide (wAt l s ≤ M)) = true then (outS l (((stps l).drop m).foldl (spS l M) t).1, (((stps l).drop m).foldl (spS l M) t).2.1) else ([], -1)) by
    refine Ev.eq (hh (stps l).length 0 (by omega) ([], (0, M)) 0 ⟨rfl, by simp only; omega, by simp, by simp only; omega, by simp only; omega, fun _ => rfl, fun hc => by simp at hc⟩ (by omega) (fun hc => by simp at hc)) ?_
    unfold spOk owns spR
    rw [List.drop_zero, List.all_map]; rfl
  intro d
  induction d with
  | zero =>
    intro m hm t w ht hw hwe
    rw [List.drop_eq_nil_of_le (by omega)]
    obtain ⟨a1, a2, a3, _⟩ := ht
    refine Ev.step (f := fun _ => some (outS l t.1, t.2.1)) (fun k => ?_) (Ev.now _)
    simp only [spec_l04Split.l0]
    rw [if_neg (by omega), wrap_sm (i := t.2.1 - 1 + 1) (by omega) (by omega), Int.sub_add_cancel]
  | succ d ih =>
    intro m hm t w ht hw hwe
    have hin := stps_in h (j := m) (by omega)
    rw [drop_step (0 : Int) (show m < (stps l).length by omega), List.all_cons, List.foldl_cons]
    have erd : rd (stps l) (m : Int) = (stps l).getD m 0 := rfl
    have hfill := fun (b w' : Int) (r : List Int × Int) => specFill (l := l) hl t.1 (s := (stps l).getD m 0) (b := b) (M := M) (w := w') (j := m) (by omega) rfl r
    generalize (stps l).getD m 0 = s at hin erd hfill ⊢
    obtain ⟨⟨q0, q1⟩, q2, q3⟩ := hin
    have hi := fun hle => (spI_step (l := l) (s := s) ht q2 q3 hle)
    obtain ⟨a1, a2, a3, a4, a5, a6, a7⟩ := ht
    refine Ev.step (f := fun k => (spec_l04At.f k l s).bind fun t136 => (if t136 > M then (some ((([] : List Int)), (-1))) else (if t.2.1 - 1 < 0 then (spec_l04Split.j1 k l M (outS l t.1) (t.2.1 - 1) w (stps l) (m : Int) t136 true) else (spec_l04Split.j1 k l M (outS l t.1) (t.2.1 - 1) w (stps l) (m : Int) t136 (decide ((wrap64 (w + t136)) > M)))))) (fun k => ?_) (Ev.bind (specAt (by omega) s) ?_)
    · simp only [spec_l04Split.l0]
      rw [if_pos (by omega), if_pos (by omega), erd]
    · by_cases c : wAt l s > M
      · simp only [if_pos c, decide_eq_false (show ¬ wAt l s ≤ M by omega), Bool.false_and, Bool.false_eq_true, if_false]
        exact Ev.now _
      · simp only [if_neg c, decide_eq_true (show wAt l s ≤ M by omega), Bool.true_and]
        have hi' := hi (by omega)
        have hw1 : wrap64 (w + wAt l s) = w + wAt l s := wrap_sm (by omega) (by omega)
        have hw2 : wrap64 (t.2.1 - 1 + 1) = t.2.1 - 1 + 1 := wrap_sm (by omega) (by omega)
        have hopen : (t.2.1 - 1 < 0 ∨ w + wAt l s > M) → Ev (fun k => spec_l04Split.j1 k l M (outS l t.1) (t.2.1 - 1) w (stps l) (m : Int) (wAt l s) true) (if ((stps l).drop (m + 1)).all (fun s => decide (wAt l s ≤ M)) = true then (outS l (((stps l).drop (m + 1)).foldl (spS l M) (spS l M t s)).1, (((stps l).drop (m + 1)).foldl (spS l M) (spS l M t s)).2.1) else ([], -1)) := by
          intro ho
          have e : spS l M t s = (t.1 ++ [(s, t.2.1 + 1 - 1)], (t.2.1 + 1, wAt l s)) := by
            unfold spS stepG
            rw [if_pos (by
              rcases ho with ho | ho
              · have := a6 (by omega); omega
              · by_cases e : t.2.1 = 0
                · have := a6 e; omega
                · have := hwe (by omega); omega)]
          have hr := ih (m + 1) (by omega) (spS l M t s) (wAt l s) hi'.1 (by omega) (fun _ => by rw [e])
          rw [e] at hr ⊢
          refine Ev.step (f := fun k => spec_l04Split.j2 k l M (outS l t.1) (t.2.1 - 1 + 1) 0 (stps l) (m : Int) (wAt l s)) (fun k => by simp only [spec_l04Split.j1, if_true, hw2]) (Ev.step (f := fun k => spec_l04Split.l1 k l M (outS l t.1) (t.2.1 - 1 + 1) (wAt l s) (stps l) (m : Int) 0) (fun k => by simp only [spec_l04Split.j2]; rw [Int.zero_add, wrap_sm (i := wAt l s) (by omega) (by omega)]) (hfill _ _ _ ?_))
          rw [show t.2.1 - 1 + 1 = t.2.1 + 1 - 1 by omega]
          exact hr
        by_cases c1 : t.2.1 - 1 < 0
        · simp only [if_pos c1]; exact hopen (.inl c1)
        · simp only [if_neg c1, hw1]
          by_cases c2 : w + wAt l s > M
          · simp only [decide_eq_true c2]; exact hopen (.inr c2)
          · simp only [decide_eq_false c2]
            have hwe' := hwe (by omega)
            have e : spS l M t s = (t.1 ++ [(s, t.2.1 - 1)], (t.2.1, t.2.2 + wAt l s)) := by
              unfold spS stepG; rw [if_neg (by omega)]
            have hr := ih (m + 1) (by omega) (spS l M t s) (w + wAt l s) hi'.1 (by omega) (fun _ => by rw [e, hwe'])
            rw [e] at hr ⊢
            refine Ev.step (f := fun k => spec_l04Split.j2 k l M (outS l t.1) (t.2.1 - 1) w (stps l) (m : Int) (wAt l s)) (fun k => by simp only [spec_l04Split.j1, Bool.false_eq_true, if_false]) (Ev.step (f := fun k => spec_l04Split.l1 k l M (outS l t.1) (t.2.1 - 1) (w + wAt l s) (stps l) (m : Int) 0) (fun k => by simp only [spec_l04Split.j2]; rw [hw1]) (hfill _ _ _ hr))
theorem spR_nonneg (h : okPs l = true) {M : Int} (hM : 1 ≤ M) (ho : spOk l M = true) : 0 ≤ (spR l M).2.1 := by
  unfold spOk owns at ho
  rw [List.all_map, List.all_eq_true] at ho
  unfold spR
  suffices hh : ∀ (S : List Int) (m : Nat) (t : List (Int × Int) × (Int × Int)), (∀ s ∈ S, s ∈ stps l) → spI M m t → 0 ≤ (S.foldl (spS l M) t).2.1 from hh (stps l) 0 ([], (0, M)) (fun s hs => hs) ⟨rfl, by simp only; omega, by simp, by simp only; omega, by simp only; omega, fun _ => rfl, fun hc => by simp at hc⟩
  intro S
  induction S with
  | nil => intro m t _ ht; exact ht.2.1
  | cons s ss ih =>
    intro m t hS ht
    have hs := hS s List.mem_cons_self
    have hb := (owns_bd h).1 _ (List.mem_map_of_mem hs)
    have hle := of_decide_eq_true (ho s hs)
    exact ih (m + 1) _ (fun s hs => hS s (List.mem_cons_of_mem _ hs)) (spI_step (l := l) ht hb.1 hb.2 hle).1
end
end Go.Proofs.Ytihnefkkgbokcaa.Pure
