/- WeightAt: the reference and the program. -/
import Derived.Test.YtlifofigkllpgaaQ4
import Derived.Test.YtlifofigkllpgaaPureAValidParcels
set_option linter.unusedVariables false
set_option linter.unusedSimpArgs false
namespace Go.Proofs.Ytlifofigkllpgaa.Pure
open Go.RowKit Go.Proofs.Ytlifofigkllpgaa.Q Go.Proofs.YtlifofigkllpgaaMine Go.Proofs.YtlifofigkllpgaaW.PrintWords Go.Proofs.YtlifofigkllpgaaW.PrintMore
/-- The weight for a stop. -/
def wAt (l : List (S73)) (s : Int) : Int := l.foldl (fun a x => if wrap64 x.f0 = s then wrap64 (a + wrap64 x.f1) else a) 0
theorem specAt {l : List (S73)} (hl : l.length ≤ 2097152) (s : Int) : Ev (fun k => spec_l04At.f k l s) (wAt l s) := by
  unfold spec_l04At.f wAt
  refine fold_all (fun k a i => spec_l04At.l0 k l s a i) l z73 (by omega) _ id (fun k a i h0 h1 => ?_) 0
  simp only [spec_l04At.l0]
  by_cases hi : i < (l.length : Int)
  · simp only [if_pos hi, if_pos h0]
    unfold rd_T73
    split <;> rfl
  · simp only [if_neg hi]; rfl
theorem addBit {x : S73} (h : wfParcel x) {a : Int} (ha : -9223372036854775808 ≤ a ∧ a ≤ 9223372036854775807) (s : Int) : (impl_bit.f ((wrap64 x.f0) == s)).bind (fun t => some (wrap64 (a + (wrap64 ((wrap64 x.f1) * t))))) = some (if wrap64 x.f0 = s then wrap64 (a + wrap64 x.f1) else a) := by
  unfold impl_bit.f
  have := wf_i16 h.2
  by_cases e : wrap64 x.f0 = s
  · simp only [e, beq_self_eq_true, if_true, Option.bind_some, Int.mul_one]
    rw [wrap_id (i := wrap64 x.f1) (by unfold wrap64; omega) (by unfold wrap64; omega)]
  · have e' : (wrap64 x.f0 == s) = false := by simp [e]
    simp only [e', if_neg e, Bool.false_eq_true, if_false, Option.bind_some, Int.mul_zero]
    rw [wrap_id (i := 0) (by omega) (by omega), Int.add_zero, wrap_id ha.1 ha.2]
theorem implAt {l : List (S73)} (hl : l.length ≤ 2097152) (h : ∀ x ∈ l, wfParcel x) (s : Int) : Ev (fun k => impl_weightAt.f k l s) (wAt l s) := by
  unfold impl_weightAt.f wAt
  suffices hh : ∀ (d m : Nat), m + d = l.length → ∀ a : Int, (-9223372036854775808 ≤ a ∧ a ≤ 9223372036854775807) → Ev (fun k => impl_weightAt.l0 k s a l (l.length : Int) (m : Int)) ((l.drop m).foldl (fun a x => if wrap64 x.f0 = s then wrap64 (a + wrap64 x.f1) else a) a) from hh l.length 0 (by omega) 0 ⟨by omega, by omega⟩
  intro d
  induction d with
  | zero =>
    intro m hm a ha
    rw [List.drop_eq_nil_of_le (by omega)]
    refine Ev.step (f := fun _ => some a) (fun k => ?_) (Ev.now _)
    simp only [impl_weightAt.l0]; rw [if_neg (by omega)]
  | succ d ih =>
    intro m hm a ha
    rw [drop_step z73 (by omega), List.foldl_cons]
    have hx := h _ (get_mem z73 (show m < l.length by omega)).1
    have hb := addBit hx ha s
    refine Ev.step (f := fun k => impl_weightAt.l0 k s (if wrap64 (l.getD m z73).f0 = s then wrap64 (a + wrap64 (l.getD m z73).f1) else a) l (l.length : Int) ((m + 1 : Nat) : Int)) (fun k => ?_) (ih (m + 1) (by omega) _ ?_)
    · simp only [impl_weightAt.l0]
      rw [if_pos (by omega), if_pos (by omega), if_pos (by omega), wrap_sm (i := (m : Int) + 1) (by omega) (by omega)]
      unfold rd_T73
      simp only [Int.toNat_natCast]
      obtain ⟨t, ht, hv⟩ := Option.bind_eq_some_iff.1 hb
      rw [ht, Option.bind_some, Option.some.inj hv]; rfl
    · split
      · unfold wrap64; omega
      · exact ha
def rWeightAt (l : List (S73)) (s : Int) : Int × Int := if okPs l = true then (if inR s 0 8 = true then (wAt l s, 0) else (0, 2)) else (0, 1)
theorem specWeightAt {l : List (S73)} (hl : l.length ≤ 2097152) (h : ∀ x ∈ l, wfParcel x) (s : Int) : Ev (fun k => spec_WeightAt.f k l s) (rWeightAt l s) := by
  unfold spec_WeightAt.f rWeightAt
  refine Ev.bind (spec_okValidParcels hl h) ?_
  simp only [l00In_eq, Option.bind_some]
  cases okPs l with
  | false => exact Ev.now _
  | true =>
    cases inR s 0 8 with
    | false => exact Ev.now _
    | true => exact Ev.bind (specAt hl s) (Ev.now _)
theorem implWeightAt {l : List (S73)} (hl : l.length ≤ 2097152) (h : ∀ x ∈ l, wfParcel x) (s : Int) : Ev (fun k => impl_WeightAt.f k l s) (rWeightAt l s) := by
  unfold impl_WeightAt.f rWeightAt
  simp only [impl_okValidParcels h, within_eq, Option.bind_some]
  cases okPs l with
  | false => exact Ev.now _
  | true =>
    cases inR s 0 8 with
    | false => exact Ev.now _
    | true => exact Ev.bind (implAt hl h s) (Ev.now _)
end Go.Proofs.Ytlifofigkllpgaa.Pure
