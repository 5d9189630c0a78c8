/- The copies of a law's lists of whole numbers. -/
import Derived.Test.YtdeipindfhkioaaQ1
import Derived.Test.YtdeipindfhkioaaPureEqInt64
set_option linter.unusedVariables false
set_option linter.unusedSimpArgs false
namespace Go.Proofs.Ytdeipindfhkioaa.Pure
open Go.RowKit Go.Proofs.Ytdeipindfhkioaa.Q Go.Proofs.YtdeipindfhkioaaMine Go.Proofs.YtdeipindfhkioaaW.PrintWords
theorem toInt64S (x : List Int) (hx : x.length ≤ 2097152) : Ev (fun k => laws_toInt64S.f k x) x := by
 have e : ∀ k, laws_toInt64S.f k x = laws_toInt64S.l0 k x (List.replicate x.length 0) 0 := by
  intro k
  unfold laws_toInt64S.f
  rw [if_pos (by omega), if_pos (by omega), Int.toNat_natCast]
 refine Ev.congr e (Ev.eq ?_ (List.map_id x))
 exact fill_all laws_toInt64S.l0 id 0 0 x (by omega) (fun k y i => by simp only [laws_toInt64S.l0, rd, id])
end Go.Proofs.Ytdeipindfhkioaa.Pure
