/- The copies, comparisons and sizes of a law's lists of whole numbers. -/
import Derived.Test.YtdeipindfhkioaaQ5
import Derived.Test.YtdeipindfhkioaaPureB0
set_option linter.unusedVariables false
set_option linter.unusedSimpArgs false
namespace Go.Proofs.Ytdeipindfhkioaa.Pure
open Go.RowKit Go.Proofs.Ytdeipindfhkioaa.Q Go.Proofs.YtdeipindfhkioaaMine Go.Proofs.YtdeipindfhkioaaW.PrintWords
def wfInt64 (x : Int) : Prop := (Lit.int .i64 x).wf = true
theorem toInt64S (x : List Int) (hx : x.length ≤ 2097152) : Ev (fun k => laws_toInt64S.f k x) x := by
  have e : ∀ k, laws_toInt64S.f k x = laws_toInt64S.l0 k x (List.replicate x.length 0) 0 := by
    intro k
    unfold laws_toInt64S.f
    rw [if_pos (by omega), if_pos (by omega), Int.toNat_natCast]
  refine Ev.congr e (Ev.eq ?_ (List.map_id x))
  exact fill_all laws_toInt64S.l0 id 0 0 x (by omega) (fun k y i => by simp only [laws_toInt64S.l0, rd, id])
theorem eqInt64S (x : List Int) (hx : x.length ≤ 2097152) : Ev (fun k => laws_eqInt64S.f k x x) true := by
  have e : ∀ k, laws_eqInt64S.f k x x = laws_eqInt64S.l0 k x x 0 := by
    intro k
    unfold laws_eqInt64S.f
    rw [if_pos rfl]
  refine Ev.congr e ?_
  refine eq_all laws_eqInt64S.l0 x (by omega) (fun k i h0 h1 => ?_)
  simp only [laws_eqInt64S.l0]
  by_cases h : i < (x.length : Int)
  · simp only [if_pos h, if_pos h0, if_true]
  · simp only [if_neg h]
end Go.Proofs.Ytdeipindfhkioaa.Pure
