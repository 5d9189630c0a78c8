/- How many parcels are wrong, and how many right ones lie above one that is: the program's loop. -/
import Derived.Test.YtlifofigkllpgaaQ5
import Derived.Test.YtlifofigkllpgaaPureCBags
set_option linter.unusedVariables false
set_option linter.unusedSimpArgs false
namespace Go.Proofs.Ytlifofigkllpgaa.Pure
open Go.RowKit Go.Proofs.Ytlifofigkllpgaa.Q Go.Proofs.YtlifofigkllpgaaMine Go.Proofs.YtlifofigkllpgaaW.PrintWords Go.Proofs.YtlifofigkllpgaaW.PrintMore
def wst (k : Int) (_ : Nat) (s : (Int × Int) × Bool) (n : Int) : (Int × Int) × Bool :=
  if n = k then ((s.1.1, if s.2 = true then wrap64 (s.1.2 + 1) else s.1.2), s.2) else ((wrap64 (s.1.1 + 1), s.1.2), true)
def wbag (m : Nat) (s : Int × Int) (b : List Int) : Int × Int := (foldi (wst (m : Int)) 0 b (s, false)).1
def wall (l : List (List Int)) : Int × Int := foldi wbag 0 l (0, 0)
theorem wst_in {k : Int} {m : Nat} {s : (Int × Int) × Bool} {n : Int} (h : inI s.1.1 ∧ inI s.1.2) : inI (wst k m s n).1.1 ∧ inI (wst k m s n).1.2 := by
  unfold wst
  split
  · refine ⟨h.1, ?_⟩
    show inI (if s.2 = true then wrap64 (s.1.2 + 1) else s.1.2)
    split
    · exact inI_wrap _
    · exact h.2
  · exact ⟨inI_wrap _, h.2⟩
theorem bit_eq (b : Bool) : impl_bit.f b = some (if b = true then 1 else 0) := by unfold impl_bit.f; split <;> rfl
theorem implWrong {l : List (List Int)} (hl : l.length ≤ 2097152) (hy : ∀ y ∈ l, y.length ≤ 2097152) : Ev (fun k => impl_wrong.f k l) (wall l) := by
  unfold impl_wrong.f wall
  refine fold_in (fun k (s : Int × Int) i => impl_wrong.l0 k s.1 s.2 l (l.length : Int) i) l [] (fun _ s => inI s.1 ∧ inI s.2) wbag _ (fun m s hm hs => ?_) (0, 0) ⟨by unfold inI; omega, by unfold inI; omega⟩ (fun _ => ?_)
  · have hlen := hy _ (get_mem [] hm).1
    have hin : inI (wbag m s (l.getD m [])).1 ∧ inI (wbag m s (l.getD m [])).2 := foldi_inv (fun t => inI t.1.1 ∧ inI t.1.2) _ 0 (s, false) (fun _ _ _ _ h => wst_in h) hs
    refine ⟨hin, fun r hr => ?_⟩
    refine Ev.step (f := fun k => impl_wrong.l1 k s.1 s.2 (m : Int) false l (l.length : Int) (m : Int) (l.getD m []) ((l.getD m []).length : Int) 0) (fun k => ?_) ?_
    · simp only [impl_wrong.l0]
      rw [show rd_L6 l (m : Int) = l.getD m [] from rfl, if_pos (by omega), if_pos (by omega), if_pos (by omega)]
    · generalize hb : l.getD m [] = b at *
      refine fold_in (fun k (t : (Int × Int) × Bool) i => impl_wrong.l1 k t.1.1 t.1.2 (m : Int) t.2 l (l.length : Int) (m : Int) b (b.length : Int) i) b 0 (fun _ t => inI t.1.1 ∧ inI t.1.2) (wst (m : Int)) r (fun j t hj ht => ⟨wst_in ht, fun r' hr' => ?_⟩) (s, false) hs (fun _ => ?_)
      · refine Ev.step (f := fun k => impl_wrong.l1 k (wst (m : Int) j t (b.getD j 0)).1.1 (wst (m : Int) j t (b.getD j 0)).1.2 (m : Int) (wst (m : Int) j t (b.getD j 0)).2 l (l.length : Int) (m : Int) b (b.length : Int) ((j + 1 : Nat) : Int)) (fun k => ?_) hr'
        obtain ⟨⟨a, c⟩, sn⟩ := t
        obtain ⟨ha, hc⟩ := ht
        simp only [impl_wrong.l1]
        rw [if_pos (by omega), if_pos (by omega), if_pos (by omega), wrap_sm (i := (j : Int) + 1) (by omega) (by omega), show rd b (j : Int) = b.getD j 0 from rfl]
        generalize b.getD j 0 = n
        unfold wst
        by_cases e : n = (m : Int)
        · have e1 : (n != (m : Int)) = false := by simp [e]
          cases sn with
          | true => simp only [if_true, e1, if_pos e, bit_eq, Option.bind_some, Bool.not_false, Bool.false_eq_true, if_false, Int.add_zero, wrap_in ha]; rfl
          | false => simp only [e1, if_pos e, bit_eq, Option.bind_some, Bool.not_false, Bool.false_eq_true, if_false, Int.add_zero, wrap_in ha, wrap_in hc]; rfl
        · have e1 : (n != (m : Int)) = true := by simp [e]
          cases sn with
          | true => simp only [if_true, e1, if_neg e, bit_eq, Option.bind_some, Bool.not_true, Bool.false_eq_true, if_false, Int.add_zero, wrap_in hc]; rfl
          | false => simp only [if_true, e1, if_neg e, bit_eq, Option.bind_some, Bool.not_true, Bool.false_eq_true, if_false, Int.add_zero, wrap_in hc]; rfl
      · refine Ev.step (f := fun k => impl_wrong.l0 k (wbag m s b).1 (wbag m s b).2 l (l.length : Int) ((m + 1 : Nat) : Int)) (fun k => ?_) hr
        simp only [impl_wrong.l1]
        rw [if_neg (by omega), wrap_sm (i := (m : Int) + 1) (by omega) (by omega)]; rfl
  · refine Ev.step (f := fun _ => some (foldi wbag 0 l (0, 0))) (fun k => ?_) (Ev.now _)
    simp only [impl_wrong.l0]; rw [if_neg (by omega)]
end Go.Proofs.Ytlifofigkllpgaa.Pure
