/- WalkOf: the reference and the program. -/
import Derived.Test.YtihnefkkgbokcaaQ8
import Derived.Test.YtihnefkkgbokcaaPureCStops
import Derived.Test.YtihnefkkgbokcaaPureCVisit
set_option linter.unusedVariables false
set_option linter.unusedSimpArgs false
namespace Go.Proofs.Ytihnefkkgbokcaa.Pure
open Go.RowKit Go.Proofs.Ytihnefkkgbokcaa.Q Go.Proofs.YtihnefkkgbokcaaMine Go.Proofs.YtihnefkkgbokcaaW.PrintWords Go.Proofs.YtihnefkkgbokcaaW.PrintMore
def mxv (a b : Int) : Int := if a > b then a else b
def wkStep (s : Int × Int) (x : Int) : Int × Int := (wrap64 (s.1 + mxv (wrap64 (x - s.2)) (wrap64 (s.2 - x))), x)
def walk (v : List Int) : Int := (v.foldl wkStep (0, 0)).1
theorem specWalk (v : List Int) (hv : v.length ≤ 2097152) : Ev (fun k => spec_l04Walk.f k v) (walk v) := by
  unfold spec_l04Walk.f walk
  refine fold_in (fun k (s : Int × Int) i => spec_l04Walk.l0 k v s.1 s.2 i) v 0 (fun _ _ => True) (fun _ s x => wkStep s x) _ (fun m s hm _ => ⟨trivial, fun r hr => ?_⟩) (0, 0) trivial (fun _ => ?_)
  · refine Ev.step (fun k => ?_) hr
    simp only [spec_l04Walk.l0]
    rw [if_pos (by omega), if_pos (by omega), wrap_sm (i := (m : Int) + 1) (by omega) (by omega)]
    unfold rd; rw [Int.toNat_natCast]
    unfold spec_l00Max.f wkStep mxv
    by_cases h : wrap64 (v.getD m 0 - s.2) > wrap64 (s.2 - v.getD m 0)
    · rw [if_pos h]; simp only [Option.bind_some, if_pos h]; rfl
    · rw [if_neg h]; simp only [Option.bind_some, if_neg h]; rfl
  · refine Ev.step (f := fun _ => some (foldi (fun _ s x => wkStep s x) 0 v (0, 0)).1) (fun k => ?_) ?_
    · simp only [spec_l04Walk.l0]
      rw [if_neg (by omega)]
    · rw [foldi_foldl]; exact Ev.now _
theorem implWalk (v : List Int) (hv : v.length ≤ 2097152) : Ev (fun k => impl_WalkOf.l0 k 0 0 v (v.length : Int) 0) (walk v, 0) := by
  unfold walk
  refine fold_in (fun k (s : Int × Int) i => impl_WalkOf.l0 k s.1 s.2 v (v.length : Int) i) v 0 (fun _ _ => True) (fun _ s x => wkStep s x) _ (fun m s hm _ => ⟨trivial, fun r hr => ?_⟩) (0, 0) trivial (fun _ => ?_)
  · refine Ev.step (fun k => ?_) hr
    simp only [impl_WalkOf.l0]
    rw [if_pos (by omega), if_pos (by omega), if_pos (by omega), wrap_sm (i := (m : Int) + 1) (by omega) (by omega)]
    unfold rd; rw [Int.toNat_natCast]
    have e : ∀ a b : Int, mx a b = mxv a b := fun a b => by unfold mx mxv; split <;> (try split) <;> omega
    rw [e]; rfl
  · refine Ev.step (f := fun _ => some ((foldi (fun _ s x => wkStep s x) 0 v (0, 0)).1, 0)) (fun k => ?_) ?_
    · simp only [impl_WalkOf.l0]
      rw [if_neg (by omega)]
    · rw [foldi_foldl]; exact Ev.now _
theorem stps_rising (l : List (S82)) : (stps l).Pairwise (· < ·) := (stps_gen (l := l) 9).1
theorem stps_len (l : List (S82)) : (stps l).length ≤ 9 := by
  have := addS_len (l := l) (List.range 9) []
  simp only [List.length_nil, List.length_range] at this
  unfold stps; omega
def rWalkOf (l : List (S82)) (v : List Int) : Int × Int := if okPs l = true then (if eachOf v (stps l) = true then (walk v, 0) else (0, 4)) else (0, 1)
theorem specWalkOf {l : List (S82)} (hl : l.length ≤ 2097152) (h : ∀ x ∈ l, wfParcel x) (v : List Int) (hv : v.length ≤ 2097152) : Ev (fun k => spec_WalkOf.f k l v) (rWalkOf l v) := by
  unfold spec_WalkOf.f rWalkOf
  refine Ev.bind (spec_okValidParcels hl h) ?_
  cases ho : okPs l with
  | false => exact Ev.now _
  | true =>
    simp only [if_true]
    refine Ev.bind (specStops hl) (Ev.bind (visitEv (stps l) v (by have := stps_len l; omega) hv) ?_)
    cases he : eachOf v (stps l) with
    | false => exact Ev.now _
    | true => simp only [if_true]; exact Ev.bind (specWalk v hv) (Ev.now _)
theorem implWalkOf {l : List (S82)} (hl : l.length ≤ 2097152) (h : ∀ x ∈ l, wfParcel x) (v : List Int) (hv : v.length ≤ 2097152) : Ev (fun k => impl_WalkOf.f k l v) (rWalkOf l v) := by
  unfold impl_WalkOf.f rWalkOf
  simp only [impl_okValidParcels h, Option.bind_some]
  cases ho : okPs l with
  | false => exact Ev.now _
  | true =>
    simp only [if_true]
    refine Ev.bind (implStops ho) (Ev.bind (isEachEv v (stps l) (stps_rising l) hv) ?_)
    cases he : eachOf v (stps l) with
    | false => exact Ev.now _
    | true => simp only [if_true]; exact implWalk v hv
end Go.Proofs.Ytihnefkkgbokcaa.Pure
