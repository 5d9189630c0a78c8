/- GramsOf: the reference and the program. -/
import Derived.Test.YtehphbaobhnfjaaQ23
import Derived.Test.YtehphbaobhnfjaaPureC5a
import Derived.Test.YtehphbaobhnfjaaPureC5w
set_option linter.unusedVariables false
set_option linter.unusedSimpArgs false
namespace Go.Proofs.Ytehphbaobhnfjaa.Pure
open Go.RowKit Go.Proofs.Ytehphbaobhnfjaa.Q Go.Proofs.YtehphbaobhnfjaaMine Go.Proofs.YtehphbaobhnfjaaW.PrintWords Go.Proofs.YtehphbaobhnfjaaW.PrintMore
section
variable {l : List (S63)} {m : List (S43)}
def rGrams (l : List (S63)) (m : List (S43)) : Int × Int := if okF l m = true then (grm m, 0) else (0, 1)
theorem specGramsOf (hl : l.length ≤ 2097152) (hc : ∀ x ∈ l, wfClass x) (hm : m.length ≤ 2097152) (hf : ∀ x ∈ m, wfLine x) : Ev (fun k => spec_GramsOf.f k l m) (rGrams l m) := by
  unfold spec_GramsOf.f rGrams
  refine Ev.bind (specF hl hm hc hf) ?_
  cases okF l m with
  | false => exact Ev.now _
  | true =>
    simp only [if_true]
    refine fold_all (fun k s i => spec_GramsOf.l0 k m s i) m z43 (by omega) _ (fun s => (s, 0)) (fun k s i h0 h1 => ?_) 0
    simp only [spec_GramsOf.l0]
    by_cases hi : i < (m.length : Int)
    · simp only [if_pos hi, if_pos h0]; rfl
    · simp only [if_neg hi]
theorem implGramsOf (hl : l.length ≤ 2097152) (hc : ∀ x ∈ l, wfClass x) (hm : m.length ≤ 2097152) (hf : ∀ x ∈ m, wfLine x) : Ev (fun k => impl_GramsOf.f k l m) (rGrams l m) := by
  unfold impl_GramsOf.f rGrams
  simp only [implF hl hc hf, Option.bind_some]
  cases okF l m with
  | false => exact Ev.now _
  | true => exact Ev.bind (implWor hm) (Ev.now _)
end
end Go.Proofs.Ytehphbaobhnfjaa.Pure
