/- A law's comparison of tables (out of ToTable, the comparison alone). -/
import Derived.Test.YtdeipindfhkioaaDoorQ1
import Derived.Test.YtdeipindfhkioaaDoorPureEqInt16
set_option linter.unusedVariables false
set_option linter.unusedSimpArgs false
namespace Go.Proofs.YtdeipindfhkioaaDoor.Pure
open Go.RowKit Go.Proofs.YtdeipindfhkioaaDoor.Q Go.Proofs.YtdeipindfhkioaaDoorMine Go.Proofs.YtdeipindfhkioaaDoorW.PrintWords
theorem eqInt16SS (x : List (List Int)) (hx : x.length ≤ 2097152) (hy : ∀ y ∈ x, y.length ≤ 2097152) : Ev (fun k => laws_eqInt16SS.f k x x) true := by
 have e : ∀ k, laws_eqInt16SS.f k x x = laws_eqInt16SS.l0 k x x 0 := by
  intro k
  unfold laws_eqInt16SS.f
  rw [if_pos rfl]
 refine Ev.congr e (Ev.eq (all_ev (fun k i => laws_eqInt16SS.l0 k x x i) x [] (fun _ => true) false true (fun m hm h => by simp at h) (fun m hm _ r hr => ?_) (fun _ => ?_)) (by simp))
 ·refine Ev.step (f := fun k => (laws_eqInt16S.f k (x.getD m []) (x.getD m [])).bind fun t => if t = true then laws_eqInt16SS.l0 k x x ((m + 1 : Nat) : Int) else some false) (fun k => ?_) (Ev.bind (eqInt16S _ (hy _ (get_mem [] hm).1)) (by simpa using hr))
  simp only [laws_eqInt16SS.l0]
  rw [if_pos (by omega), if_pos (by omega), if_pos (by omega), wrap_sm (by omega) (by omega)]
  unfold rd_L1
  simp only [Int.toNat_natCast]; rfl
 ·refine Ev.step (f := fun _ => some true) (fun k => ?_) (Ev.now _)
  simp only [laws_eqInt16SS.l0]; rw [if_neg (by omega)]
/-- What is known of a table that came in: its steps, its prices. -/
def wfTable (st : List Int) (pr : List (List Int)) : Prop := st.length ≤ 2097152 ∧ pr.length ≤ 2097152 ∧ (∀ y ∈ pr, y.length ≤ 2097152) ∧ (∀ n ∈ st, wfInt16 n) ∧ ∀ y ∈ pr, ∀ n ∈ y, wfInt16 n
theorem eqTable {st : List Int} {pr : List (List Int)} (h : wfTable st pr) : Ev (fun k => laws_eqTable.f k st pr st pr) true := by
 unfold laws_eqTable.f
 refine Ev.bind (eqInt16S st h.1) ?_
 simp only [if_true]
 refine Ev.bind (eqInt16SS pr h.2.1 h.2.2.1) ?_
 simp only [if_true]
 exact Ev.now _
end Go.Proofs.YtdeipindfhkioaaDoor.Pure
