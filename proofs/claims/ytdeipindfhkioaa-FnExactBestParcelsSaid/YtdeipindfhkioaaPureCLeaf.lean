/- The lists that a search goes through, as one list. -/
import Derived.Test.YtdeipindfhkioaaPureCGrp
set_option linter.unusedVariables false
set_option linter.unusedSimpArgs false
namespace Go.Proofs.Ytdeipindfhkioaa.Pure
open Go.RowKit Go.Proofs.Ytdeipindfhkioaa.Q Go.Proofs.YtdeipindfhkioaaMine Go.Proofs.YtdeipindfhkioaaW.PrintWords Go.Proofs.YtdeipindfhkioaaW.PrintMore
/-- The lists that a search goes through, each with its greatest number and one. -/
def leaves : Nat → List Int → Nat → List (List Int × Nat)
 | 0, xs, m => [(xs, m)]
 | d + 1, xs, m => (List.range (m + 1)).flatMap (fun (k : Nat) => leaves d (xs ++ [(k : Int)]) (max m (k + 1)))
theorem srch_leaves {τ : Type} (upd : τ → List Int → Int → τ) : ∀ (d : Nat) (xs : List Int) (m : Nat) (s : τ), srch upd d xs m s = (leaves d xs m).foldl (fun s p => upd s p.1 (p.2 : Int)) s
 | 0, xs, m, s => rfl
 | d + 1, xs, m, s => by
  unfold srch leaves
  have : ∀ (ks : List Nat) (s : τ), ks.foldl (fun s (k : Nat) => srch upd d (xs ++ [(k : Int)]) (max m (k + 1)) s) s = (ks.flatMap (fun (k : Nat) => leaves d (xs ++ [(k : Int)]) (max m (k + 1)))).foldl (fun s p => upd s p.1 (p.2 : Int)) s := by
   intro ks
   induction ks with
   | nil => intro s; rfl
   | cons k ks ih =>
    intro s
    rw [List.foldl_cons, List.flatMap_cons, List.foldl_append, ih, srch_leaves upd d]
  exact this _ s
theorem leaf_of : ∀ (d : Nat) (xs : List Int) (m : Nat) (q : List Int × Nat), q ∈ leaves d xs m → ∃ zs : List Int, q.1 = xs ++ zs ∧ zs.length = d ∧ m ≤ q.2 ∧ (m ≤ xs.length → q.2 ≤ xs.length + d)
 | 0, xs, m, q, h => by
  obtain rfl : q = (xs, m) := by simpa [leaves] using h
  exact ⟨[], by simp, rfl, Nat.le_refl _, fun h => by simpa using h⟩
 | d + 1, xs, m, q, h => by
  unfold leaves at h
  obtain ⟨k, hk, h⟩ := List.mem_flatMap.1 h
  obtain ⟨zs, h1, h2, h3, h4⟩ := leaf_of d _ _ q h
  have hk := List.mem_range.1 hk
  refine ⟨(k : Int) :: zs, by rw [h1]; simp, by simp [h2], by omega, fun hm => ?_⟩
  have := h4 (by simp; omega)
  simp at this; omega
end Go.Proofs.Ytdeipindfhkioaa.Pure
