/- What one form is worth: the part of the lines that bear a number, one line further. -/
import Derived.Test.YtnefepgfmmnbpaaPureCPrt
import Derived.Test.YtnefepgfmmnbpaaPureC5w
import Derived.Test.YtnefepgfmmnbpaaPureC5a
set_option linter.unusedVariables false
set_option linter.unusedSimpArgs false
namespace Go.Proofs.Ytnefepgfmmnbpaa.Pure
open Go.RowKit Go.Proofs.Ytnefepgfmmnbpaa.Q Go.Proofs.YtnefepgfmmnbpaaMine Go.Proofs.YtnefepgfmmnbpaaW.PrintWords Go.Proofs.YtnefepgfmmnbpaaW.PrintMore
theorem prt_cons (m : List (S54)) (q x : Int) (xs : List Int) (i : Nat) : prt m q (x :: xs) i = if x = q then m.getD i z54 :: prt m q xs (i + 1) else prt m q xs (i + 1) := rfl
theorem prt_append (m : List (S54)) (q : Int) : ∀ (xs zs : List Int) (i : Nat), prt m q (xs ++ zs) i = prt m q xs i ++ prt m q zs (i + xs.length)
 | [], zs, i => by simp [prt]
 | x :: xs, zs, i => by
  rw [List.cons_append, prt_cons, prt_cons]
  rw [prt_append m q xs zs (i + 1), List.length_cons, show i + 1 + xs.length = i + (xs.length + 1) by omega]
  split <;> rfl
theorem wor_append (u v : List (S54)) : wor (u ++ v) = v.foldl (fun s x => wrap64 (s + wrap64 x.f2)) (wor u) := by unfold wor; rw [List.foldl_append]
theorem wor_up {n : Int} : ∀ (v : List (S54)) (s : Int), (∀ x ∈ v, okL n x = true) → v.length ≤ 1000 → 0 ≤ s → s ≤ 1000000000000 → s ≤ v.foldl (fun s x => wrap64 (s + wrap64 x.f2)) s ∧ v.foldl (fun s x => wrap64 (s + wrap64 x.f2)) s ≤ s + 1000000 * (v.length : Int)
 | [], s, _, _, _, _ => by simp
 | x :: v, s, h, hl, h0, h1 => by
  obtain ⟨_, _, ⟨c0, c1⟩, _⟩ := okL_bd (h x (by simp))
  simp only [List.length_cons] at hl
  rw [List.foldl_cons, wrap_sm (i := x.f2) (by omega) (by omega), wrap_sm (i := s + x.f2) (by omega) (by omega)]
  have hs : ∀ (s : Int), 0 ≤ s → s ≤ 2000000000000 - 1000000 * (v.length : Int) → s ≤ v.foldl (fun s x => wrap64 (s + wrap64 x.f2)) s ∧ v.foldl (fun s x => wrap64 (s + wrap64 x.f2)) s ≤ s + 1000000 * (v.length : Int) := by
   clear h0 h1 c0 c1
   have hv : ∀ y ∈ v, okL n y = true := fun y hy => h y (by simp [hy])
   clear h hl
   induction v with
   | nil => intro s _ _; simp
   | cons y v ih =>
    intro s h0 h1
    obtain ⟨_, _, ⟨d0, d1⟩, _⟩ := okL_bd (hv y (by simp))
    simp only [List.length_cons] at h1 ⊢
    rw [List.foldl_cons, wrap_sm (i := y.f2) (by omega) (by omega), wrap_sm (i := s + y.f2) (by omega) (by omega)]
    have := ih (fun z hz => hv z (by simp [hz])) (s + y.f2) (by omega) (by omega)
    omega
  have := hs (s + x.f2) (by omega) (by omega)
  simp only [List.length_cons]
  omega
theorem wor_le {n : Int} {u v : List (S54)} (hu : ∀ x ∈ u, okL n x = true) (hv : ∀ x ∈ v, okL n x = true) (lu : u.length ≤ 1000) (lv : v.length ≤ 1000) : wor u ≤ wor (u ++ v) := by
 rw [wor_append]
 have h := wor_up u 0 hu lu (by omega) (by omega)
 have : wor u = u.foldl (fun s x => wrap64 (s + wrap64 x.f2)) 0 := rfl
 exact (wor_up v (wor u) hv lv (by omega) (by omega)).1
end Go.Proofs.Ytnefepgfmmnbpaa.Pure
