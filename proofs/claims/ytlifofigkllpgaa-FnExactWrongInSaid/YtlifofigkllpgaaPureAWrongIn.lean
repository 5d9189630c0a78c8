/- WrongIn: the reference and the program. -/
import Derived.Test.YtlifofigkllpgaaQ7
import Derived.Test.YtlifofigkllpgaaQ11
import Derived.Test.YtlifofigkllpgaaPureCWrong
set_option linter.unusedVariables false
set_option linter.unusedSimpArgs false
namespace Go.Proofs.Ytlifofigkllpgaa.Pure
open Go.RowKit Go.Proofs.Ytlifofigkllpgaa.Q Go.Proofs.YtlifofigkllpgaaMine Go.Proofs.YtlifofigkllpgaaW.PrintWords Go.Proofs.YtlifofigkllpgaaW.PrintMore
theorem specWrong {l : List (List Int)} (hl : l.length ≤ 2097152) (hy : ∀ y ∈ l, y.length ≤ 2097152) : Ev (fun k => spec_l04Wrong.f k l) (wall l).1 := by
  have hrel : (wall l).1 = foldi (fun m (s : Int) b => foldi (fun _ (s : Int) n => if n = (m : Int) then s else wrap64 (s + 1)) 0 b s) 0 l 0 := by
    unfold wall
    refine foldi_rel (fun (s : Int × Int) t => s.1 = t) l 0 _ _ (fun m s t b _ h => ?_) rfl
    unfold wbag
    refine foldi_rel (fun (s : (Int × Int) × Bool) t => s.1.1 = t) b 0 _ _ (fun j u v n _ h' => ?_) h
    unfold wst
    split
    · exact h'
    · show wrap64 (u.1.1 + 1) = wrap64 (v + 1); rw [h']
  rw [hrel]
  unfold spec_l04Wrong.f
  refine fold_in (fun k (s : Int) i => spec_l04Wrong.l0 k l s i) l [] (fun _ _ => True) (fun m (s : Int) b => foldi (fun _ (s : Int) n => if n = (m : Int) then s else wrap64 (s + 1)) 0 b s) _ (fun m s hm _ => ⟨trivial, fun r hr => ?_⟩) 0 trivial (fun _ => ?_)
  · have hlen := hy _ (get_mem [] hm).1
    refine Ev.step (f := fun k => spec_l04Wrong.l1 k l s (m : Int) 0) (fun k => ?_) ?_
    · simp only [spec_l04Wrong.l0]
      rw [if_pos (by omega)]
    · refine fold_in (fun k (s : Int) i => spec_l04Wrong.l1 k l s (m : Int) i) (l.getD m []) 0 (fun _ _ => True) (fun _ (s : Int) n => if n = (m : Int) then s else wrap64 (s + 1)) r (fun j t hj _ => ⟨trivial, fun r' hr' => ?_⟩) s trivial (fun _ => ?_)
      · refine Ev.step (f := fun k => spec_l04Wrong.l1 k l (if (l.getD m []).getD j 0 = (m : Int) then t else wrap64 (t + 1)) (m : Int) ((j + 1 : Nat) : Int)) (fun k => ?_) hr'
        simp only [spec_l04Wrong.l1]
        rw [show rd_L6 l (m : Int) = l.getD m [] from rfl, if_pos (by omega), if_pos (by omega), if_pos (by omega), if_pos (by omega), wrap_sm (i := (j : Int) + 1) (by omega) (by omega), show rd (l.getD m []) (j : Int) = (l.getD m []).getD j 0 from rfl]
        split <;> rfl
      · refine Ev.step (f := fun k => spec_l04Wrong.l0 k l (foldi (fun _ (s : Int) n => if n = (m : Int) then s else wrap64 (s + 1)) 0 (l.getD m []) s) ((m + 1 : Nat) : Int)) (fun k => ?_) hr
        simp only [spec_l04Wrong.l1]
        rw [show rd_L6 l (m : Int) = l.getD m [] from rfl, if_pos (by omega), if_pos (by omega), if_neg (by omega), wrap_sm (i := (m : Int) + 1) (by omega) (by omega)]; rfl
  · refine Ev.step (f := fun _ => some _) (fun k => ?_) (Ev.now _)
    simp only [spec_l04Wrong.l0]; rw [if_neg (by omega)]
def rWrongIn (l : List (List Int)) : Int × Int := if okBs l = true then ((wall l).1, 0) else (0, 1)
theorem specWrongIn {l : List (List Int)} (hl : l.length ≤ 2097152) (hy : ∀ y ∈ l, y.length ≤ 2097152) (h : ∀ y ∈ l, ∀ n ∈ y, wfInt64 n) : Ev (fun k => spec_WrongIn.f k l) (rWrongIn l) := by
  unfold spec_WrongIn.f rWrongIn
  refine Ev.bind (specBags hl hy) ?_
  cases okBs l with
  | false => exact Ev.now _
  | true => exact Ev.bind (specWrong hl hy) (Ev.now _)
theorem implWrongIn {l : List (List Int)} (hl : l.length ≤ 2097152) (hy : ∀ y ∈ l, y.length ≤ 2097152) (h : ∀ y ∈ l, ∀ n ∈ y, wfInt64 n) : Ev (fun k => impl_WrongIn.f k l) (rWrongIn l) := by
  unfold impl_WrongIn.f rWrongIn
  simp only [implBags hl, Option.bind_some]
  cases okBs l with
  | false => exact Ev.now _
  | true => exact Ev.bind (implWrong hl hy) (Ev.now _)
end Go.Proofs.Ytlifofigkllpgaa.Pure
