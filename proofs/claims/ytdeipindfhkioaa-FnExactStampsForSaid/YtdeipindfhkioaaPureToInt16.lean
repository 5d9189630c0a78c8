/- The copies and sizes of a law's lists of whole numbers. -/
import Derived.Test.YtdeipindfhkioaaQ1
import Derived.Test.YtdeipindfhkioaaPureEqInt16
set_option linter.unusedVariables false
set_option linter.unusedSimpArgs false
namespace Go.Proofs.Ytdeipindfhkioaa.Pure
open Go.RowKit Go.Proofs.Ytdeipindfhkioaa.Q Go.Proofs.YtdeipindfhkioaaMine Go.Proofs.YtdeipindfhkioaaW.PrintWords
theorem toInt16S (x : List Int) (hx : x.length ≤ 2097152) : Ev (fun k => laws_toInt16S.f k x) x := by
 have e : ∀ k, laws_toInt16S.f k x = laws_toInt16S.l0 k x (List.replicate x.length 0) 0 := by
  intro k
  unfold laws_toInt16S.f
  rw [if_pos (by omega), if_pos (by omega), Int.toNat_natCast]
 refine Ev.congr e (Ev.eq ?_ (List.map_id x))
 exact fill_all laws_toInt16S.l0 id 0 0 x (by omega) (fun k y i => by simp only [laws_toInt16S.l0, rd, id])
theorem szInt16S (x : List Int) (hx : x.length ≤ 140737488351232) (left : Int) (h0 : 0 ≤ left) (h1 : left ≤ 1048576) : laws_szInt16S.f x left = some (if left - (x.length : Int) < 0 then -1 else left - (x.length : Int)) := by
 unfold laws_szInt16S.f
 rw [sz_eq _ hx _ h0 h1]
 split <;> rfl
end Go.Proofs.Ytdeipindfhkioaa.Pure
