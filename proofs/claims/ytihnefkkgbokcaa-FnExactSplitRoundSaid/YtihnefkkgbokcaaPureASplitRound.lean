/- SplitRound: the reference and the program. -/
import Derived.Test.YtihnefkkgbokcaaQ7
import Derived.Test.YtihnefkkgbokcaaPureCSplit
set_option linter.unusedVariables false
set_option linter.unusedSimpArgs false
namespace Go.Proofs.Ytihnefkkgbokcaa.Pure
open Go.RowKit Go.Proofs.Ytihnefkkgbokcaa.Q Go.Proofs.YtihnefkkgbokcaaMine Go.Proofs.YtihnefkkgbokcaaW.PrintWords Go.Proofs.YtihnefkkgbokcaaW.PrintMore
section
variable {l : List (S82)}
def rSplitRound (l : List (S82)) (M : Int) : List Int × Int × Int :=
  if okPs l = true then (if M < 1 then ([], 0, 2) else if spOk l M = true then (outS l (spR l M).1, (spR l M).2.1, 0) else ([], 0, 6)) else ([], 0, 1)
theorem specSplitRound (hl : l.length ≤ 2097152) (h : ∀ x ∈ l, wfParcel x) {M : Int} (hM : M ≤ 9223372036854775807) : Ev (fun k => spec_SplitRound.f k l M) (rSplitRound l M) := by
  unfold spec_SplitRound.f rSplitRound
  refine Ev.bind (spec_okValidParcels hl h) ?_
  cases ho : okPs l with
  | false => exact Ev.now _
  | true =>
    simp only [if_true]
    by_cases c : M < 1
    · simp only [if_pos c]; exact Ev.now _
    · simp only [if_neg c]
      refine Ev.bind (specSplit ho ⟨by omega, hM⟩) ?_
      by_cases d : spOk l M = true
      · have := spR_nonneg ho (show 1 ≤ M by omega) d
        simp only [if_pos d, if_neg (show ¬ (spR l M).2.1 < 0 by omega)]; exact Ev.now _
      · simp only [if_neg d, if_pos (show (-1 : Int) < 0 by omega)]; exact Ev.now _
theorem implSplitRound (hl : l.length ≤ 2097152) (h : ∀ x ∈ l, wfParcel x) {M : Int} (hM : M ≤ 9223372036854775807) : Ev (fun k => impl_SplitRound.f k l M) (rSplitRound l M) := by
  unfold impl_SplitRound.f rSplitRound
  simp only [impl_okValidParcels h, Option.bind_some]
  cases ho : okPs l with
  | false => exact Ev.now _
  | true =>
    obtain ⟨hl, hok⟩ := okPs_all ho
    simp only [if_true]
    by_cases c : M < 1
    · simp only [if_pos c]; exact Ev.now _
    · simp only [if_neg c]
      refine Ev.bind (implBagged ho ⟨by omega, hM⟩) ?_
      by_cases d : spOk l M = true
      · simp only [if_pos d, if_true]
        generalize (spR l M).1 = log
        generalize (spR l M).2.1 = b
        unfold outS
        refine build_ev (fun k s i => impl_SplitRound.l0 k log b s l (l.length : Int) i) l z82 (fun p => lk log (wrap64 p.f0)) (fun r => (r, b, 0)) (fun m s hm hs r hr => ?_) ?_
        · refine Ev.step (fun k => ?_) hr
          simp only [impl_SplitRound.l0]
          rw [if_pos (by omega), if_pos (by omega), if_pos (by omega), if_pos (by omega), wrap_sm (i := (m : Int) + 1) (by omega) (by omega)]
          unfold rd_T82
          rw [Int.toNat_natCast]; rfl
        · refine Ev.step (f := fun _ => some (l.map (fun p => lk log (wrap64 p.f0)), b, 0)) (fun k => ?_) (Ev.now _)
          simp only [impl_SplitRound.l0]; rw [if_neg (by omega)]
      · simp only [if_neg d, Bool.false_eq_true, if_false]; exact Ev.now _
theorem rSplitRound_length {M : Int} : (rSplitRound l M).1.length ≤ 2097152 := by
  unfold rSplitRound
  cases ho : okPs l with
  | false => simp
  | true =>
    obtain ⟨hl, hok⟩ := okPs_all ho
    simp only [if_true]
    split
    · simp
    · split
      · simp only [outS_len]; omega
      · simp
end
end Go.Proofs.Ytihnefkkgbokcaa.Pure
