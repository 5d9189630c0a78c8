/- The copies, comparisons and sizes of a law's table. -/
import Derived.Test.YtdeipindfhkioaaQ1
import Derived.Test.YtdeipindfhkioaaQ2
import Derived.Test.YtdeipindfhkioaaPureToInt16S
set_option linter.unusedVariables false
set_option linter.unusedSimpArgs false
namespace Go.Proofs.Ytdeipindfhkioaa.Pure
open Go.RowKit Go.Proofs.Ytdeipindfhkioaa.Q Go.Proofs.YtdeipindfhkioaaMine Go.Proofs.YtdeipindfhkioaaW.PrintWords
/-- What is known of a table that came in: its steps, its prices. -/
def wfTable (st : List Int) (pr : List (List Int)) : Prop := st.length ≤ 2097152 ∧ pr.length ≤ 2097152 ∧ (∀ y ∈ pr, y.length ≤ 2097152) ∧ (∀ n ∈ st, wfInt16 n) ∧ ∀ y ∈ pr, ∀ n ∈ y, wfInt16 n
theorem toTable {st : List Int} {pr : List (List Int)} (h : wfTable st pr) : Ev (fun k => laws_toTable.f k st pr) (st, pr) := by
 unfold laws_toTable.f
 exact Ev.bind (toInt16S st h.1) (Ev.bind (toInt16SS pr h.2.1 h.2.2.1) (Ev.now _))
theorem eqTable {st : List Int} {pr : List (List Int)} (h : wfTable st pr) : Ev (fun k => laws_eqTable.f k st pr st pr) true := by
 unfold laws_eqTable.f
 refine Ev.bind (eqInt16S st h.1) ?_
 simp only [if_true]
 refine Ev.bind (eqInt16SS pr h.2.1 h.2.2.1) ?_
 simp only [if_true]
 exact Ev.now _
theorem szTable (st : List Int) (pr : List (List Int)) (hs : st.length ≤ 140737488351232) (hx : pr.length ≤ 140737488351232) (hy : ∀ y ∈ pr, y.length ≤ 140737488351232) (left : Int) (h0 : 0 ≤ left) (h1 : left ≤ 1048576) :
  ∃ r : Int, Ev (fun k => laws_szTable.f k st pr left) r ∧ (r < 0 ∨ (0 ≤ r ∧ r ≤ left ∧ st.length ≤ 1048576 ∧ pr.length ≤ 1048576 ∧ ∀ y ∈ pr, y.length ≤ 1048576)) := by
 unfold laws_szTable.f
 simp only [szInt16S st hs left h0 h1, Option.bind_some]
 by_cases h : left - (st.length : Int) < 0
 ·simp only [if_pos h, if_pos (show (-1 : Int) < 0 by omega)]
  exact ⟨-1, Ev.now _, .inl (by omega)⟩
 ·simp only [if_neg h]
  obtain ⟨r, hr, hd⟩ := szInt16SS pr hx hy (left - (st.length : Int)) (by omega) (by omega)
  by_cases hn : r < 0
  ·refine ⟨-1, Ev.bind hr ?_, .inl (by omega)⟩
   simp only [if_pos hn]; exact Ev.now _
  ·obtain ⟨a, b, c, d⟩ := hd.resolve_left hn
   refine ⟨r, Ev.bind hr ?_, .inr ⟨a, by omega, by omega, c, d⟩⟩
   simp only [if_neg hn]; exact Ev.now _
end Go.Proofs.Ytdeipindfhkioaa.Pure
