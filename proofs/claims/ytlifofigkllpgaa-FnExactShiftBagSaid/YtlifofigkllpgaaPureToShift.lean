/- The copies, comparisons and sizes of a law's lists of Shift. -/
import Derived.Test.YtlifofigkllpgaaQ3
import Derived.Test.YtlifofigkllpgaaQ9
import Derived.Test.YtlifofigkllpgaaPure0
set_option linter.unusedVariables false
set_option linter.unusedSimpArgs false
namespace Go.Proofs.Ytlifofigkllpgaa.Pure
open Go.RowKit Go.Proofs.Ytlifofigkllpgaa.Q Go.Proofs.YtlifofigkllpgaaMine Go.Proofs.YtlifofigkllpgaaW.PrintWords
/-- The program's own Shift of a law's. -/
def cvShift (x : S43) : S46 := ⟨x.f0, x.f1⟩
def wfShiftL (x : S43) : Prop := (Lit.int .i8 x.f0).wf = true ∧ (Lit.int .i8 x.f1).wf = true
def wfShift (x : S46) : Prop := (Lit.int .i8 x.f0).wf = true ∧ (Lit.int .i8 x.f1).wf = true
theorem wfsShift {l : List (S43)} (h : ∀ x ∈ l, wfShiftL x) : ∀ x ∈ l.map cvShift, wfShift x := by
  intro x hx
  obtain ⟨y, hy, rfl⟩ := List.mem_map.1 hx
  exact h y hy
theorem toShiftS (x : List (S43)) (hx : x.length ≤ 2097152) : Ev (fun k => laws_toShiftS.f k x) (x.map cvShift) := by
  have e : ∀ k, laws_toShiftS.f k x = laws_toShiftS.l0 k x (List.replicate x.length z46) 0 := by
    intro k
    unfold laws_toShiftS.f
    rw [if_pos (by omega), if_pos (by omega), Int.toNat_natCast]
  refine Ev.congr e ?_
  exact fill_all laws_toShiftS.l0 cvShift z43 z46 x (by omega) (fun k y i => by simp only [laws_toShiftS.l0, laws_toShift.f, Option.bind_some]; rfl)
theorem eqShiftS (x : List (S46)) (hx : x.length ≤ 2097152) : Ev (fun k => laws_eqShiftS.f k x x) true := by
  have e : ∀ k, laws_eqShiftS.f k x x = laws_eqShiftS.l0 k x x 0 := by
    intro k
    unfold laws_eqShiftS.f
    rw [if_pos rfl]
  refine Ev.congr e ?_
  refine eq_all laws_eqShiftS.l0 x (by omega) (fun k i h0 h1 => ?_)
  simp only [laws_eqShiftS.l0]
  by_cases h : i < (x.length : Int)
  · simp only [if_pos h, if_pos h0, laws_eqShift.f, if_true, Option.bind_some]
  · simp only [if_neg h]
theorem szShiftS (x : List (S43)) (hx : x.length ≤ 140737488351232) (left : Int) (h0 : 0 ≤ left) (h1 : left ≤ 1048576) : laws_szShiftS.f x left = some (if left - (x.length : Int) < 0 then -1 else left - (x.length : Int)) := by
  unfold laws_szShiftS.f
  rw [sz_eq _ hx _ h0 h1]
  split <;> rfl
end Go.Proofs.Ytlifofigkllpgaa.Pure
