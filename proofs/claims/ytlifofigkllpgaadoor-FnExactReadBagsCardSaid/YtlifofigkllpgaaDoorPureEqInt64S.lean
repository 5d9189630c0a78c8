/- A law's comparison of lists of lists of whole numbers. -/
import Derived.Test.YtlifofigkllpgaaDoorQ2
import Derived.Test.YtlifofigkllpgaaDoorPureEqInt64
set_option linter.unusedVariables false
set_option linter.unusedSimpArgs false
namespace Go.Proofs.YtlifofigkllpgaaDoor.Pure
open Go.RowKit Go.Proofs.YtlifofigkllpgaaDoor.Q Go.Proofs.YtlifofigkllpgaaDoorMine Go.Proofs.YtlifofigkllpgaaDoorW.PrintWords
theorem eqInt64SS (x : List (List Int)) (hx : x.length ≤ 2097152) (hy : ∀ y ∈ x, y.length ≤ 2097152) : Ev (fun k => laws_eqInt64SS.f k x x) true := by
  have e : ∀ k, laws_eqInt64SS.f k x x = laws_eqInt64SS.l0 k x x 0 := by
    intro k
    unfold laws_eqInt64SS.f
    rw [if_pos rfl]
  refine Ev.congr e (Ev.eq (all_ev (fun k i => laws_eqInt64SS.l0 k x x i) x [] (fun _ => true) false true (fun m hm h => by simp at h) (fun m hm _ r hr => ?_) (fun _ => ?_)) (by simp))
  · refine Ev.step (f := fun k => (laws_eqInt64S.f k (x.getD m []) (x.getD m [])).bind fun t => if t = true then laws_eqInt64SS.l0 k x x ((m + 1 : Nat) : Int) else some false) (fun k => ?_) (Ev.bind (eqInt64S _ (hy _ (get_mem [] hm).1)) (by simpa using hr))
    simp only [laws_eqInt64SS.l0]
    rw [if_pos (by omega), if_pos (by omega), if_pos (by omega), wrap_sm (by omega) (by omega)]
    unfold rd_L2
    simp only [Int.toNat_natCast]; rfl
  · refine Ev.step (f := fun _ => some true) (fun k => ?_) (Ev.now _)
    simp only [laws_eqInt64SS.l0]; rw [if_neg (by omega)]
end Go.Proofs.YtlifofigkllpgaaDoor.Pure
