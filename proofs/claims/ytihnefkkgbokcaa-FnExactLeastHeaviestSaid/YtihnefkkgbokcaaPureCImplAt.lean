/- The weight for a stop, by the program. -/
import Derived.Test.YtihnefkkgbokcaaQ5
import Derived.Test.YtihnefkkgbokcaaPureCParcels
import Derived.Test.YtihnefkkgbokcaaPureCAt
set_option linter.unusedVariables false
set_option linter.unusedSimpArgs false
namespace Go.Proofs.Ytihnefkkgbokcaa.Pure
open Go.RowKit Go.Proofs.Ytihnefkkgbokcaa.Q Go.Proofs.YtihnefkkgbokcaaMine Go.Proofs.YtihnefkkgbokcaaW.PrintWords Go.Proofs.YtihnefkkgbokcaaW.PrintMore
theorem addBit {x : S82} (h : wfParcel x) {a : Int} (ha : -9223372036854775808 ≤ a ∧ a ≤ 9223372036854775807) (s : Int) : (impl_bit.f ((wrap64 x.f0) == s)).bind (fun t => some (wrap64 (a + (wrap64 ((wrap64 x.f1) * t))))) = some (if wrap64 x.f0 = s then wrap64 (a + wrap64 x.f1) else a) := by
  unfold impl_bit.f
  have := wf_i16 h.2
  by_cases e : wrap64 x.f0 = s
  · simp only [e, beq_self_eq_true, if_true, Option.bind_some, Int.mul_one]
    rw [wrap_id (i := wrap64 x.f1) (by unfold wrap64; omega) (by unfold wrap64; omega)]
  · have e' : (wrap64 x.f0 == s) = false := by simp [e]
    simp only [e', if_neg e, Bool.false_eq_true, if_false, Option.bind_some, Int.mul_zero]
    rw [wrap_id (i := 0) (by omega) (by omega), Int.add_zero, wrap_id ha.1 ha.2]
theorem implAt {l : List (S82)} (hl : l.length ≤ 2097152) (h : ∀ x ∈ l, wfParcel x) (s : Int) : Ev (fun k => impl_weightAt.f k l s) (wAt l s) := by
  unfold impl_weightAt.f wAt
  suffices hh : ∀ (d m : Nat), m + d = l.length → ∀ a : Int, (-9223372036854775808 ≤ a ∧ a ≤ 9223372036854775807) → Ev (fun k => impl_weightAt.l0 k s a l (l.length : Int) (m : Int)) ((l.drop m).foldl (fun a x => if wrap64 x.f0 = s then wrap64 (a + wrap64 x.f1) else a) a) from hh l.length 0 (by omega) 0 ⟨by omega, by omega⟩
  intro d
  induction d with
  | zero =>
    intro m hm a ha
    rw [List.drop_eq_nil_of_le (by omega)]
    refine Ev.step (f := fun _ => some a) (fun k => ?_) (Ev.now _)
    simp only [impl_weightAt.l0]; rw [if_neg (by omega)]
  | succ d ih =>
    intro m hm a ha
    rw [drop_step z82 (by omega), List.foldl_cons]
    have hx := h _ (get_mem z82 (show m < l.length by omega)).1
    have hb := addBit hx ha s
    refine Ev.step (f := fun k => impl_weightAt.l0 k s (if wrap64 (l.getD m z82).f0 = s then wrap64 (a + wrap64 (l.getD m z82).f1) else a) l (l.length : Int) ((m + 1 : Nat) : Int)) (fun k => ?_) (ih (m + 1) (by omega) _ ?_)
    · simp only [impl_weightAt.l0]
      rw [if_pos (by omega), if_pos (by omega), if_pos (by omega), wrap_sm (i := (m : Int) + 1) (by omega) (by omega)]
      unfold rd_T82
      simp only [Int.toNat_natCast]
      obtain ⟨t, ht, hv⟩ := Option.bind_eq_some_iff.1 hb
      rw [ht, Option.bind_some, Option.some.inj hv]; rfl
    · split
      · unfold wrap64; omega
      · exact ha
end Go.Proofs.Ytihnefkkgbokcaa.Pure
