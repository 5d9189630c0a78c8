/- ValidBags: the reference and the program. -/
import Derived.Test.YtlifofigkllpgaaQ3
import Derived.Test.YtlifofigkllpgaaQ9
import Derived.Test.YtlifofigkllpgaaPureCBags
set_option linter.unusedVariables false
set_option linter.unusedSimpArgs false
namespace Go.Proofs.Ytlifofigkllpgaa.Pure
open Go.RowKit Go.Proofs.Ytlifofigkllpgaa.Q Go.Proofs.YtlifofigkllpgaaMine Go.Proofs.YtlifofigkllpgaaW.PrintWords Go.Proofs.YtlifofigkllpgaaW.PrintMore
theorem specValidBags {l : List (List Int)} (hl : l.length ≤ 2097152) (hy : ∀ y ∈ l, y.length ≤ 2097152) (h : ∀ y ∈ l, ∀ n ∈ y, wfInt64 n) : Ev (fun k => spec_ValidBags.f k l) (okBs l) := by
  unfold spec_ValidBags.f; exact Ev.bind (specBags hl hy) (Ev.now _)
theorem implValidBags {l : List (List Int)} (hl : l.length ≤ 2097152) (hy : ∀ y ∈ l, y.length ≤ 2097152) (h : ∀ y ∈ l, ∀ n ∈ y, wfInt64 n) : Ev (fun k => impl_ValidBags.f l) (okBs l) := Ev.val (fun _ => implBags hl)
end Go.Proofs.Ytlifofigkllpgaa.Pure
