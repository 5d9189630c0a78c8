/- IsSorted: the reference and the program. -/
import Derived.Test.YtlifofigkllpgaaQ13
import Derived.Test.YtlifofigkllpgaaPureAWrongIn
set_option linter.unusedVariables false
set_option linter.unusedSimpArgs false
namespace Go.Proofs.Ytlifofigkllpgaa.Pure
open Go.RowKit Go.Proofs.Ytlifofigkllpgaa.Q Go.Proofs.YtlifofigkllpgaaMine Go.Proofs.YtlifofigkllpgaaW.PrintWords Go.Proofs.YtlifofigkllpgaaW.PrintMore
def rIsSorted (l : List (List Int)) : Bool × Int := if okBs l = true then ((wall l).1 == 0, 0) else (false, 1)
theorem specIsSorted {l : List (List Int)} (hl : l.length ≤ 2097152) (hy : ∀ y ∈ l, y.length ≤ 2097152) (h : ∀ y ∈ l, ∀ n ∈ y, wfInt64 n) : Ev (fun k => spec_IsSorted.f k l) (rIsSorted l) := by
  unfold spec_IsSorted.f rIsSorted
  refine Ev.bind (specBags hl hy) ?_
  cases okBs l with
  | false => exact Ev.now _
  | true => exact Ev.bind (specWrong hl hy) (Ev.now _)
theorem implIsSorted {l : List (List Int)} (hl : l.length ≤ 2097152) (hy : ∀ y ∈ l, y.length ≤ 2097152) (h : ∀ y ∈ l, ∀ n ∈ y, wfInt64 n) : Ev (fun k => impl_IsSorted.f k l) (rIsSorted l) := by
  unfold impl_IsSorted.f rIsSorted
  refine Ev.bind (implWrongIn hl hy h) ?_
  unfold rWrongIn
  cases okBs l with
  | false => exact Ev.now _
  | true => exact Ev.now _
end Go.Proofs.Ytlifofigkllpgaa.Pure
