/- A shift of bags: the reference and the program. -/
import Derived.Test.YtlifofigkllpgaaQ2
import Derived.Test.YtlifofigkllpgaaQ3
import Derived.Test.YtlifofigkllpgaaQ4
import Derived.Test.YtlifofigkllpgaaQ5
import Derived.Test.YtlifofigkllpgaaPureCBags
set_option linter.unusedVariables false
set_option linter.unusedSimpArgs false
namespace Go.Proofs.Ytlifofigkllpgaa.Pure
open Go.RowKit Go.Proofs.Ytlifofigkllpgaa.Q Go.Proofs.YtlifofigkllpgaaMine Go.Proofs.YtlifofigkllpgaaW.PrintWords Go.Proofs.YtlifofigkllpgaaW.PrintMore
def IB (l : List (List Int)) : Prop := (1 ≤ l.length ∧ l.length ≤ 4) ∧ ∀ b ∈ l, b.length ≤ 6
def shTo (l : List (List Int)) (f t : Int) : List (List Int) := l.set t.toNat (rd_L1 l t ++ [rd (rd_L1 l f) (((rd_L1 l f).length : Int) - 1)])
def shPut (l : List (List Int)) (f t : Int) : List (List Int) := (shTo l f t).set f.toNat ((rd_L1 (shTo l f t) f).take (((rd_L1 l f).length : Int) - 1).toNat)
def shCode (l : List (List Int)) (f t : Int) : Int :=
  if inR f 0 ((l.length : Int) - 1) = true then (if inR t 0 ((l.length : Int) - 1) = true then (if f = t then 2 else if ((rd_L1 l f).length : Int) = 0 then 6 else if ((rd_L1 l t).length : Int) = 6 then 3 else 0) else 2) else 2
def rSh (l : List (List Int)) (f t : Int) : List (List Int) × Int := if shCode l f t = 0 then (shPut l f t, 0) else ([], shCode l f t)
theorem row_le {l : List (List Int)} (h : IB l) (i : Int) : (rd_L1 l i).length ≤ 6 := by
  unfold rd_L1
  by_cases c : i.toNat < l.length
  · exact h.2 _ (get_mem [] c).1
  · rw [List.getD_eq_getElem?_getD, List.getElem?_eq_none (by omega)]; simp
theorem shTo_from {l : List (List Int)} {f t : Int} (hf : 0 ≤ f) (ht : 0 ≤ t) (hne : ¬ f = t) : rd_L1 (shTo l f t) f = rd_L1 l f := by
  unfold shTo
  generalize (rd_L1 l t ++ [rd (rd_L1 l f) (((rd_L1 l f).length : Int) - 1)]) = z
  unfold rd_L1
  rw [List.getD_eq_getElem?_getD, List.getElem?_set_ne (by omega), ← List.getD_eq_getElem?_getD]
theorem shTo_length (l : List (List Int)) (f t : Int) : (shTo l f t).length = l.length := by simp [shTo]
theorem shPut_length (l : List (List Int)) (f t : Int) : (shPut l f t).length = l.length := by simp [shPut, shTo_length]
theorem shCode_zero {l : List (List Int)} {f t : Int} (h : shCode l f t = 0) : (0 ≤ f ∧ f ≤ (l.length : Int) - 1) ∧ (0 ≤ t ∧ t ≤ (l.length : Int) - 1) ∧ ¬ f = t ∧ ¬ ((rd_L1 l f).length : Int) = 0 ∧ ¬ ((rd_L1 l t).length : Int) = 6 := by
  unfold shCode at h
  cases c1 : inR f 0 ((l.length : Int) - 1) with
  | false => simp [c1] at h
  | true =>
    cases c2 : inR t 0 ((l.length : Int) - 1) with
    | false => simp [c1, c2] at h
    | true =>
      simp only [c1, c2, if_true] at h
      by_cases c3 : f = t
      · simp [c3] at h
      · rw [if_neg c3] at h
        by_cases c4 : ((rd_L1 l f).length : Int) = 0
        · rw [if_pos c4] at h; omega
        · rw [if_neg c4] at h
          by_cases c5 : ((rd_L1 l t).length : Int) = 6
          · rw [if_pos c5] at h; omega
          · exact ⟨inR_iff.1 c1, inR_iff.1 c2, c3, c4, c5⟩
theorem shPut_IB {l : List (List Int)} (h : IB l) {f t : Int} (hc : shCode l f t = 0) : IB (shPut l f t) := by
  obtain ⟨h1, h2, h3, h4, h5⟩ := shCode_zero hc
  refine ⟨by rw [shPut_length]; exact h.1, ?_⟩
  have hto : ∀ b ∈ shTo l f t, b.length ≤ 6 := by
    intro b hb
    rcases List.mem_or_eq_of_mem_set hb with hb | hb
    · exact h.2 b hb
    · have := row_le h t
      rw [hb, List.length_append]; simp only [List.length_singleton]; omega
  intro b hb
  rcases List.mem_or_eq_of_mem_set hb with hb | hb
  · exact hto b hb
  · rw [hb, shTo_from h1.1 h2.1 h3, List.length_take]
    have := row_le h f
    omega
theorem own_eq {x : List Int} (h : x.length ≤ 6) : spec_l00Own.f x = some x := by
  unfold spec_l00Own.f
  simp only [Option.bind_some, List.nil_append, List.length_nil]
  rw [if_pos (by omega)]
theorem clone_eq {x : List Int} (h : x.length ≤ 6) : slices_Clone_int64.f x = some x := by
  unfold slices_Clone_int64.f
  simp only [Option.bind_some, List.nil_append, List.length_nil]
  rw [if_pos (by omega)]
theorem specOwn {l : List (List Int)} (h : IB l) : Ev (fun k => spec_l04Own.f k l) l := by
  unfold spec_l04Own.f
  have hl := h.1
  refine Ev.eq (build_ev (fun k s i => spec_l04Own.l0 k l s i) l [] (fun x => x) (fun r => r) (fun m s hm hs r hr => ?_) ?_) (by simp)
  · refine Ev.step (fun k => ?_) hr
    simp only [spec_l04Own.l0]
    rw [if_pos (by omega), if_pos (by omega), own_eq (row_le h _), Option.bind_some, if_pos (by omega), wrap_sm (i := (m : Int) + 1) (by omega) (by omega)]
    unfold rd_L1
    rw [Int.toNat_natCast]; rfl
  · refine Ev.step (f := fun _ => some (l.map (fun x => x))) (fun k => ?_) (Ev.now _)
    simp only [spec_l04Own.l0]; rw [if_neg (by omega)]
theorem specShift {l : List (List Int)} (h : IB l) {f t : Int} (hf : -128 ≤ f ∧ f ≤ 127) (ht : -128 ≤ t ∧ t ≤ 127) : Ev (fun k => spec_l04Shift.f k l f t) (rSh l f t) := by
  have hl := h.1
  have hr1 := row_le h f
  have hr2 := row_le h t
  have hwf : wrap64 f = f := wrap_sm (by omega) (by omega)
  have hwt : wrap64 t = t := wrap_sm (by omega) (by omega)
  have hwn : wrap64 ((l.length : Int) - 1) = (l.length : Int) - 1 := wrap_sm (by omega) (by omega)
  have hwr : wrap64 (((rd_L1 l f).length : Int) - 1) = ((rd_L1 l f).length : Int) - 1 := wrap_sm (by omega) (by omega)
  unfold spec_l04Shift.f
  simp only [l00In_eq, Option.bind_some, hwf, hwt, hwn]
  have hbad : shCode l f t = 2 → Ev (fun k => spec_l04Shift.j0 k l true f t) (rSh l f t) := fun hc => by
    refine Ev.step (f := fun _ => some ([], 2)) (fun k => by simp only [spec_l04Shift.j0, if_true]) (Ev.eq (Ev.now _) ?_)
    unfold rSh; rw [hc, if_neg (by omega)]
  cases c1 : inR f 0 ((l.length : Int) - 1) with
  | false =>
    simp only [Bool.false_eq_true, if_false]
    exact hbad (by unfold shCode; simp [c1])
  | true =>
    cases c2 : inR t 0 ((l.length : Int) - 1) with
    | false =>
      simp only [if_true, Bool.false_eq_true, if_false]
      exact hbad (by unfold shCode; simp [c1, c2])
    | true =>
      simp only [if_true]
      obtain ⟨f0, f1⟩ := inR_iff.1 c1
      obtain ⟨t0, t1⟩ := inR_iff.1 c2
      by_cases c3 : f = t
      · rw [show (f == t) = true from beq_iff_eq.2 c3]
        exact hbad (by unfold shCode; simp [c1, c3])
      · rw [show (f == t) = false from beq_eq_false_iff_ne.2 c3]
        by_cases c4 : ((rd_L1 l f).length : Int) = 0
        · refine Ev.step (f := fun _ => some ([], 6)) (fun k => ?_) (Ev.eq (Ev.now _) ?_)
          · simp only [spec_l04Shift.j0, Bool.false_eq_true, if_false, hwr]
            rw [if_pos f0, if_pos (by omega), if_pos (by omega)]
          · have : shCode l f t = 6 := by unfold shCode; simp only [c1, c2, if_true]; rw [if_neg c3, if_pos c4]
            unfold rSh; rw [this, if_neg (by omega)]
        · by_cases c5 : ((rd_L1 l t).length : Int) = 6
          · refine Ev.step (f := fun _ => some ([], 3)) (fun k => ?_) (Ev.eq (Ev.now _) ?_)
            · simp only [spec_l04Shift.j0, Bool.false_eq_true, if_false, hwr]
              rw [if_pos f0, if_pos (by omega), if_neg (by omega), if_pos t0, if_pos (by omega), if_pos c5]
            · have : shCode l f t = 3 := by unfold shCode; simp only [c1, c2, if_true]; rw [if_neg c3, if_neg c4, if_pos c5]
              unfold rSh; rw [this, if_neg (by omega)]
          · have h0 : shCode l f t = 0 := by unfold shCode; simp only [c1, c2, if_true]; rw [if_neg c3, if_neg c4, if_neg c5]
            refine Ev.step (f := fun k => (spec_l04Own.f k l).bind fun t157 => if t157 = l then some (shPut l f t, 0) else spec_l04Shift.j0 (k + 1) l false f t) (fun k => ?_) (Ev.bind (specOwn h) ?_)
            · rw [show spec_l04Shift.j0 (k + 1) l false f t = (spec_l04Own.f k l).bind fun t157 => _ from by
                simp only [spec_l04Shift.j0, Bool.false_eq_true, if_false, hwr]
                rw [if_pos f0, if_pos (by omega), if_neg (by omega), if_pos t0, if_pos (by omega), if_neg c5]]
              cases ho : spec_l04Own.f k l with
              | none => rfl
              | some o =>
                simp only [Option.bind_some]
                by_cases e : o = l
                · subst e
                  rw [if_pos rfl]
                  have hy := shTo_from (l := o) f0 t0 c3
                  rw [if_pos (by omega), if_pos (by omega), if_pos (by omega), if_pos (by omega), if_pos (by omega), if_neg c3]
                  show (if ((rd_L1 o f).length : Int) - 1 ≤ ((rd_L1 (shTo o f t) f).length : Int) then _ else none) = _
                  rw [hy, if_pos (by omega), if_neg (fun q => c3 q.symm)]
                  unfold shPut; rfl
                · rw [if_neg e]
            · simp only [eq_self_iff_true, if_true]
              unfold rSh; rw [h0, if_pos rfl]; exact Ev.now _
theorem implCode {l : List (List Int)} (h : IB l) {f t : Int} (hf : -128 ≤ f ∧ f ≤ 127) (ht : -128 ≤ t ∧ t ≤ 127) : Ev (fun k => impl_shiftCode.f k l f t) (shCode l f t) := by
  have hl := h.1
  have hr1 := row_le h f
  have hr2 := row_le h t
  have hwf : wrap64 f = f := wrap_sm (by omega) (by omega)
  have hwt : wrap64 t = t := wrap_sm (by omega) (by omega)
  have hwn : wrap64 ((l.length : Int) - 1) = (l.length : Int) - 1 := wrap_sm (by omega) (by omega)
  unfold impl_shiftCode.f impl_size_int64S.f
  simp only [within_eq, Option.bind_some, hwf, hwt, hwn]
  have hbad : shCode l f t = 2 → Ev (fun k => impl_shiftCode.j0 k l true f t) (shCode l f t) := fun hc => by
    refine Ev.step (f := fun _ => some 2) (fun k => by simp only [impl_shiftCode.j0, if_true]) (Ev.eq (Ev.now _) hc.symm)
  cases c1 : inR f 0 ((l.length : Int) - 1) with
  | false =>
    simp only [Bool.false_eq_true, if_false]
    exact hbad (by unfold shCode; simp [c1])
  | true =>
    cases c2 : inR t 0 ((l.length : Int) - 1) with
    | false =>
      simp only [if_true, Bool.false_eq_true, if_false]
      exact hbad (by unfold shCode; simp [c1, c2])
    | true =>
      simp only [if_true]
      obtain ⟨f0, f1⟩ := inR_iff.1 c1
      obtain ⟨t0, t1⟩ := inR_iff.1 c2
      by_cases c3 : f = t
      · rw [show (f == t) = true from beq_iff_eq.2 c3]
        exact hbad (by unfold shCode; simp [c1, c3])
      · rw [show (f == t) = false from beq_eq_false_iff_ne.2 c3]
        refine Ev.step (f := fun _ => some (shCode l f t)) (fun k => ?_) (Ev.now _)
        simp only [impl_shiftCode.j0, Bool.false_eq_true, if_false]
        unfold shCode
        simp only [c1, c2, if_true]
        rw [if_pos f0, if_pos (by omega), if_neg c3]
        by_cases c4 : ((rd_L1 l f).length : Int) = 0
        · rw [if_pos c4, if_pos c4]
        · rw [if_neg c4, if_neg c4, if_pos t0, if_pos (by omega)]
          unfold impl_unless.f
          by_cases c5 : ((rd_L1 l t).length : Int) = 6
          · rw [if_pos c5, decide_eq_false (by omega)]; rfl
          · rw [if_neg c5, decide_eq_true (by omega)]; rfl
theorem implShifted {l : List (List Int)} (h : IB l) {f t : Int} (hc : shCode l f t = 0) : Ev (fun k => impl_shifted.f k l f t) (shPut l f t) := by
  have hl := h.1
  have hr1 := row_le h f
  have hr2 := row_le h t
  obtain ⟨h1, h2, c3, c4, c5⟩ := shCode_zero hc
  have hwr : wrap64 (((rd_L1 l f).length : Int) - 1) = ((rd_L1 l f).length : Int) - 1 := wrap_sm (by omega) (by omega)
  unfold impl_shifted.f
  have hy := shTo_from (l := l) h1.1 h2.1 c3
  refine Ev.eq (build_ev (fun k s i => impl_shifted.l0 k s l (l.length : Int) i f t) l [] (fun x => x) (fun r => shPut r f t) (fun m s hm hs r hr => ?_) ?_) (by simp)
  · refine Ev.step (fun k => ?_) hr
    simp only [impl_shifted.l0]
    rw [if_pos (by omega), if_pos (by omega), if_pos (by omega), clone_eq (row_le h _), Option.bind_some, if_pos (by omega), wrap_sm (i := (m : Int) + 1) (by omega) (by omega)]
    unfold rd_L1
    rw [Int.toNat_natCast]; rfl
  · rw [show l.map (fun x => x) = l by simp]
    refine Ev.step (f := fun _ => some (shPut l f t)) (fun k => ?_) (Ev.now _)
    simp only [impl_shifted.l0, hwr]
    rw [if_neg (by omega), if_pos h1.1, if_pos (by omega), if_pos h2.1, if_pos (by omega), if_pos (by omega), if_pos (by omega), if_pos (by omega), if_neg c3]
    show (if ((rd_L1 l f).length : Int) - 1 ≤ ((rd_L1 (shTo l f t) f).length : Int) then _ else none) = _
    rw [hy, if_pos (by omega), if_neg (fun q => c3 q.symm)]
    unfold shPut; rfl
theorem okBs_IB {l : List (List Int)} (h : okBs l = true) : IB l := ⟨(okBs_bd h).1, fun b hb => ((okBs_bd h).2 b hb).1⟩
end Go.Proofs.Ytlifofigkllpgaa.Pure
