/- SameForm: the reference and the program. -/
import Derived.Test.YtehphbaobhnfjaaQ19
import Derived.Test.YtehphbaobhnfjaaPureToLine
set_option linter.unusedVariables false
set_option linter.unusedSimpArgs false
namespace Go.Proofs.Ytehphbaobhnfjaa.Pure
open Go.RowKit Go.Proofs.Ytehphbaobhnfjaa.Q Go.Proofs.YtehphbaobhnfjaaMine Go.Proofs.YtehphbaobhnfjaaW.PrintWords Go.Proofs.YtehphbaobhnfjaaW.PrintMore
/-- Where two lists differ. -/
def dif (x y : S43) : Bool := !(x.f0 == y.f0) || (!(x.f1 == y.f1) || (!(x.f2 == y.f2) || (!(x.f3 == y.f3))))
def rSame (x y : List (S43)) : Bool := if (x.length : Int) = (y.length : Int) then (if (List.range x.length).all (fun j => !dif (x.getD j z43) (y.getD j z43)) = true then true else false) else false
theorem range_getD {n i : Nat} (h : i < n) : (List.range n).getD i 0 = i := by rw [List.getD_eq_getElem?_getD, List.getElem?_range h]; rfl
theorem specSameForm {x y : List (S43)} (hx : x.length ≤ 2097152) (_ : ∀ a ∈ x, wfLine a) (hy : y.length ≤ 2097152) (_ : ∀ a ∈ y, wfLine a) : Ev (fun k => spec_SameForm.f k x y) (rSame x y) := by
  unfold spec_SameForm.f rSame
  by_cases hl : (x.length : Int) = (y.length : Int)
  · simp only [if_pos hl]
    refine all_all (fun k i => spec_SameForm.l0 k x y i) (List.range x.length) 0 (by simp; omega) _ false true (fun k i h0 h1 => ?_)
    rw [List.length_range] at h1 ⊢
    simp only [spec_SameForm.l0]
    by_cases hi : i < (x.length : Int)
    · rw [if_pos hi, if_pos h0, if_pos (by omega), if_pos hi, range_getD (by omega)]
      unfold rd_T43
      show (if dif (x.getD i.toNat z43) (y.getD i.toNat z43) = true then _ else _) = _
      cases dif (x.getD i.toNat z43) (y.getD i.toNat z43) <;> rfl
    · rw [if_neg hi, if_neg hi]
  · simp only [if_neg hl]; exact Ev.now _
theorem implSameForm {x y : List (S43)} (hx : x.length ≤ 2097152) (_ : ∀ a ∈ x, wfLine a) (hy : y.length ≤ 2097152) (_ : ∀ a ∈ y, wfLine a) : Ev (fun k => impl_SameForm.f k x y) (rSame x y) := by
  unfold impl_SameForm.f slices_Equal_Line.f rSame
  by_cases hl : (x.length : Int) = (y.length : Int)
  · simp only [if_pos hl]
    refine Ev.bind (a := if (List.range x.length).all (fun j => !dif (x.getD j z43) (y.getD j z43)) = true then true else false) ?_ (Ev.now _)
    refine all_all (fun k i => slices_Equal_Line.l0 k x y (x.length : Int) i) (List.range x.length) 0 (by simp; omega) _ false true (fun k i h0 h1 => ?_)
    rw [List.length_range] at h1 ⊢
    simp only [slices_Equal_Line.l0]
    by_cases hi : i < (x.length : Int)
    · rw [if_pos hi, if_pos h0, if_pos hi, if_pos (by omega), if_pos hi, range_getD (by omega)]
      unfold rd_T43
      show (if dif (x.getD i.toNat z43) (y.getD i.toNat z43) = true then _ else _) = _
      cases dif (x.getD i.toNat z43) (y.getD i.toNat z43) <;> rfl
    · rw [if_neg hi, if_neg hi]
  · simp only [if_neg hl, Option.bind_some]; exact Ev.now _
end Go.Proofs.Ytehphbaobhnfjaa.Pure
