/- ShiftAll, ShiftBag: the reference and the program. -/
import Derived.Test.YtlifofigkllpgaaQ6
import Derived.Test.YtlifofigkllpgaaQ7
import Derived.Test.YtlifofigkllpgaaQ9
import Derived.Test.YtlifofigkllpgaaPureCShift
import Derived.Test.YtlifofigkllpgaaPureToShift
set_option linter.unusedVariables false
set_option linter.unusedSimpArgs false
namespace Go.Proofs.Ytlifofigkllpgaa.Pure
open Go.RowKit Go.Proofs.Ytlifofigkllpgaa.Q Go.Proofs.YtlifofigkllpgaaMine Go.Proofs.YtlifofigkllpgaaW.PrintWords Go.Proofs.YtlifofigkllpgaaW.PrintMore
def shFrom : List (S46) → List (List Int) → List (List Int) × Int
  | [], l => (l, 0)
  | s :: ss, l => if shCode l s.f0 s.f1 = 0 then shFrom ss (shPut l s.f0 s.f1) else ([], shCode l s.f0 s.f1)
def rShiftAll (l : List (List Int)) (L : List (S46)) : List (List Int) × Int := if okBs l = true then (if (L.length : Int) > 100 then ([], 3) else shFrom L l) else ([], 1)
theorem shFrom_IB : ∀ (L : List (S46)) (l : List (List Int)), IB l → (shFrom L l).1.length ≤ 4 ∧ ∀ b ∈ (shFrom L l).1, b.length ≤ 6
  | [], l, h => ⟨h.1.2, h.2⟩
  | s :: ss, l, h => by
    unfold shFrom
    by_cases c : shCode l s.f0 s.f1 = 0
    · rw [if_pos c]; exact shFrom_IB ss _ (shPut_IB h c)
    · rw [if_neg c]; exact ⟨by simp, fun b hb => by simp at hb⟩
theorem rShiftAll_bd (l : List (List Int)) (L : List (S46)) : (rShiftAll l L).1.length ≤ 4 ∧ ∀ b ∈ (rShiftAll l L).1, b.length ≤ 6 := by
  unfold rShiftAll
  cases ho : okBs l with
  | false => exact ⟨by simp, fun b hb => by simp at hb⟩
  | true =>
    simp only [if_true]
    split
    · exact ⟨by simp, fun b hb => by simp at hb⟩
    · exact shFrom_IB L l (okBs_IB ho)
section
variable {l : List (List Int)} {L : List (S46)}
theorem specShiftAll (hl : l.length ≤ 2097152) (hy : ∀ y ∈ l, y.length ≤ 2097152) (hw : ∀ s ∈ L, wfShift s) : Ev (fun k => spec_ShiftAll.f k l L) (rShiftAll l L) := by
  unfold spec_ShiftAll.f rShiftAll
  refine Ev.bind (specBags hl hy) ?_
  cases ho : okBs l with
  | false => exact Ev.now _
  | true =>
    simp only [if_true]
    by_cases c : (L.length : Int) > 100
    · simp only [if_pos c]; exact Ev.now _
    · simp only [if_neg c]
      refine Ev.bind (specOwn (okBs_IB ho)) ?_
      suffices hh : ∀ (d m : Nat), m + d = L.length → ∀ x, IB x → Ev (fun k => spec_ShiftAll.l0 k L x (m : Int)) (shFrom (L.drop m) x) from hh L.length 0 (by omega) l (okBs_IB ho)
      intro d
      induction d with
      | zero =>
        intro m hm x hx
        rw [List.drop_eq_nil_of_le (by omega)]
        refine Ev.step (f := fun _ => some (x, 0)) (fun k => ?_) (Ev.now _)
        simp only [spec_ShiftAll.l0]; rw [if_neg (by omega)]
      | succ d ih =>
        intro m hm x hx
        rw [drop_step z46 (show m < L.length by omega)]
        have hs := hw _ (get_mem z46 (show m < L.length by omega)).1
        have erd : rd_T46 L (m : Int) = L.getD m z46 := by unfold rd_T46; rw [Int.toNat_natCast]
        have ih' := ih (m + 1) (by omega)
        generalize L.getD m z46 = s at hs erd ⊢
        refine Ev.step (f := fun k => (spec_l04Shift.f k x s.f0 s.f1).bind fun bt => (if bt.2 = 0 then (spec_ShiftAll.l0 k L bt.1 ((m + 1 : Nat) : Int)) else (some ((([] : List (List Int))), bt.2)))) (fun k => ?_) (Ev.bind (specShift hx (wf_i8 hs.1) (wf_i8 hs.2)) ?_)
        · simp only [spec_ShiftAll.l0]
          rw [if_pos (by omega), if_pos (by omega), erd, wrap_sm (i := (m : Int) + 1) (by omega) (by omega)]; rfl
        · unfold rSh shFrom
          by_cases q : shCode x s.f0 s.f1 = 0
          · simp only [if_pos q, if_true, eq_self_iff_true]; exact ih' _ (shPut_IB hx q)
          · simp only [if_neg q]; exact Ev.now _
theorem implShiftAll (hl : l.length ≤ 2097152) (hw : ∀ s ∈ L, wfShift s) : Ev (fun k => impl_ShiftAll.f k l L) (rShiftAll l L) := by
  unfold impl_ShiftAll.f rShiftAll
  simp only [implBags hl, Option.bind_some]
  cases ho : okBs l with
  | false => exact Ev.now _
  | true =>
    simp only [if_true]
    by_cases c : (L.length : Int) > 100
    · simp only [if_pos c]; exact Ev.now _
    · simp only [if_neg c]
      have hI := okBs_IB ho
      have hlen := hI.1
      refine Ev.eq (build_ev (fun k s i => impl_ShiftAll.l0 k L s l (l.length : Int) i) l [] (fun x => x) (fun r => shFrom L r) (fun m s hm hs r hr => ?_) ?_) (by simp)
      · refine Ev.step (fun k => ?_) hr
        simp only [impl_ShiftAll.l0]
        rw [if_pos (by omega), if_pos (by omega), if_pos (by omega), clone_eq (row_le hI _), Option.bind_some, if_pos (by omega), wrap_sm (i := (m : Int) + 1) (by omega) (by omega)]
        unfold rd_L1
        rw [Int.toNat_natCast]; rfl
      · rw [show l.map (fun x => x) = l by simp]
        refine Ev.step (f := fun k => impl_ShiftAll.l1 k l L (L.length : Int) 0) (fun k => by simp only [impl_ShiftAll.l0]; rw [if_neg (by omega)]) ?_
        suffices hh : ∀ (d m : Nat), m + d = L.length → ∀ x, IB x → Ev (fun k => impl_ShiftAll.l1 k x L (L.length : Int) (m : Int)) (shFrom (L.drop m) x) from hh L.length 0 (by omega) l hI
        intro d
        induction d with
        | zero =>
          intro m hm x hx
          rw [List.drop_eq_nil_of_le (by omega)]
          refine Ev.step (f := fun _ => some (x, 0)) (fun k => ?_) (Ev.now _)
          simp only [impl_ShiftAll.l1]; rw [if_neg (by omega)]
        | succ d ih =>
          intro m hm x hx
          rw [drop_step z46 (show m < L.length by omega)]
          have hs := hw _ (get_mem z46 (show m < L.length by omega)).1
          have erd : rd_T46 L (m : Int) = L.getD m z46 := by unfold rd_T46; rw [Int.toNat_natCast]
          have ih' := ih (m + 1) (by omega)
          generalize L.getD m z46 = s at hs erd ⊢
          refine Ev.step (f := fun k => (impl_shiftCode.f k x s.f0 s.f1).bind fun t => (if t = 0 then ((impl_shifted.f k x s.f0 s.f1).bind fun t2 => (impl_ShiftAll.l1 k t2 L (L.length : Int) ((m + 1 : Nat) : Int))) else (some (([] : List (List Int)), t)))) (fun k => ?_) (Ev.bind (implCode hx (wf_i8 hs.1) (wf_i8 hs.2)) ?_)
          · simp only [impl_ShiftAll.l1]
            rw [if_pos (by omega), if_pos (by omega), if_pos (by omega), erd, wrap_sm (i := (m : Int) + 1) (by omega) (by omega)]; rfl
          · unfold shFrom
            by_cases q : shCode x s.f0 s.f1 = 0
            · simp only [if_pos q]; exact Ev.bind (implShifted hx q) (ih' _ (shPut_IB hx q))
            · simp only [if_neg q]; exact Ev.now _
def rShiftBag (l : List (List Int)) (f t : Int) : List (List Int) × Int := if okBs l = true then rSh l f t else ([], 1)
theorem shFrom_one (l : List (List Int)) (f t : Int) : shFrom [⟨f, t⟩] l = rSh l f t := by unfold shFrom rSh; rfl
theorem rShiftBag_eq (l : List (List Int)) (f t : Int) : rShiftAll l [⟨f, t⟩] = rShiftBag l f t := by
  unfold rShiftAll rShiftBag
  rw [shFrom_one, List.length_singleton]
  rfl
theorem specShiftBag (hl : l.length ≤ 2097152) (hy : ∀ y ∈ l, y.length ≤ 2097152) {f t : Int} (hf : (Lit.int .i8 f).wf = true) (ht : (Lit.int .i8 t).wf = true) : Ev (fun k => spec_ShiftBag.f k l f t) (rShiftBag l f t) := by
  unfold spec_ShiftBag.f rShiftBag
  refine Ev.bind (specBags hl hy) ?_
  cases ho : okBs l with
  | false => exact Ev.now _
  | true =>
    simp only [if_true]
    exact Ev.bind (specShift (okBs_IB ho) (wf_i8 hf) (wf_i8 ht)) (Ev.now _)
theorem implShiftBag (hl : l.length ≤ 2097152) {f t : Int} (hf : (Lit.int .i8 f).wf = true) (ht : (Lit.int .i8 t).wf = true) : Ev (fun k => impl_ShiftBag.f k l f t) (rShiftBag l f t) := by
  unfold impl_ShiftBag.f
  rw [← rShiftBag_eq]
  exact Ev.bind (implShiftAll hl (fun s hs => by
    rw [List.mem_singleton] at hs; subst hs; exact ⟨hf, ht⟩)) (Ev.now _)
theorem rShiftBag_bd (l : List (List Int)) (f t : Int) : (rShiftBag l f t).1.length ≤ 4 ∧ ∀ b ∈ (rShiftBag l f t).1, b.length ≤ 6 := by
  rw [← rShiftBag_eq]; exact rShiftAll_bd l _
end
end Go.Proofs.Ytlifofigkllpgaa.Pure
