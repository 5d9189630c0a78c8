/- The sums of the lines of a class. -/
import Derived.Test.YtnefepgfmmnbpaaQ2
import Derived.Test.YtnefepgfmmnbpaaPureC5d
import Derived.Test.YtnefepgfmmnbpaaPureC5w
import Derived.Test.YtnefepgfmmnbpaaPureC5a
set_option linter.unusedVariables false
set_option linter.unusedSimpArgs false
namespace Go.Proofs.Ytnefepgfmmnbpaa.Pure
open Go.RowKit Go.Proofs.Ytnefepgfmmnbpaa.Q Go.Proofs.YtnefepgfmmnbpaaMine Go.Proofs.YtnefepgfmmnbpaaW.PrintWords Go.Proofs.YtnefepgfmmnbpaaW.PrintMore
theorem foldl_cg {α σ : Type} {f g : σ → α → σ} : ∀ (l : List α) (s : σ), (∀ s, ∀ x ∈ l, f s x = g s x) → l.foldl f s = l.foldl g s
  | [], _, _ => rfl
  | y :: ys, s, h => by
    rw [List.foldl_cons, List.foldl_cons, h s y List.mem_cons_self]
    exact foldl_cg ys _ (fun s x hx => h s x (List.mem_cons_of_mem _ hx))
def cnt (m : List (S54)) : Int := m.foldl (fun s x => wrap64 (s + wrap64 x.f1)) 0
theorem len_fold (m : List (S54)) : ∀ (a : Int), 0 ≤ a → a + (m.length : Int) ≤ 4611686018427387904 → m.foldl (fun s _ => wrap64 (s + 1)) a = a + (m.length : Int) := by
  induction m with
  | nil => intro a _ _; simp
  | cons x xs ih =>
    intro a h0 h1
    simp only [List.length_cons] at h1
    rw [List.foldl_cons, wrap_sm (by omega) (by omega), ih _ (by omega) (by omega)]
    simp only [List.length_cons]; omega
theorem flt_len (m : List (S54)) (c : Int) : (flt m c).length ≤ m.length := List.length_filter_le _ _
theorem flt_mem {m : List (S54)} {c : Int} {x : S54} (h : x ∈ flt m c) : x ∈ m ∧ wrap64 x.f0 = c := by
  obtain ⟨h1, h2⟩ := List.mem_filter.1 h
  exact ⟨h1, by simpa using h2⟩
theorem flt_head {n : Nat} {m : List (S54)} {c : Int} (hn : n ≤ 8) (h : ∀ x ∈ m, okL (n : Int) x = true) (hp : 0 < (flt m c).length) : ((flt m c).getD 0 z54).f0 = c := by
  obtain ⟨h1, h2⟩ := flt_mem (get_mem z54 hp).1
  obtain ⟨⟨a1, a2⟩, _⟩ := okL_bd (h _ h1)
  rw [wrap_id (by omega) (by omega)] at h2; exact h2
/-- The sums of the lines of a class. -/
theorem sums_eq (c : Int) : ∀ (m : List (S54)) (s : Int × Int × Int × Int), m.foldl (fun s x => if wrap64 x.f0 = c then (wrap64 (s.1 + 1), wrap64 (s.2.1 + wrap64 x.f1), wrap64 (s.2.2.1 + wrap64 x.f2), wrap64 (s.2.2.2 + wrap64 x.f3)) else s) s
    = ((flt m c).foldl (fun s _ => wrap64 (s + 1)) s.1, (flt m c).foldl (fun s x => wrap64 (s + wrap64 x.f1)) s.2.1, (flt m c).foldl (fun s x => wrap64 (s + wrap64 x.f2)) s.2.2.1, (flt m c).foldl (fun s x => wrap64 (s + wrap64 x.f3)) s.2.2.2)
  | [], s => rfl
  | x :: xs, s => by
    rw [List.foldl_cons, sums_eq c xs]
    by_cases h : wrap64 x.f0 = c
    · rw [if_pos h]
      have e : flt (x :: xs) c = x :: flt xs c := by simp [flt, h]
      rw [e]; rfl
    · rw [if_neg h]
      have e : flt (x :: xs) c = flt xs c := by simp [flt, h]
      rw [e]
theorem specSums {m : List (S54)} (hm : m.length ≤ 2097152) (c : Int) : Ev (fun k => spec_l05Sums.f k m c) (((flt m c).length : Int), cnt (flt m c), wor (flt m c), grm (flt m c)) := by
  unfold spec_l05Sums.f
  refine Ev.eq (fold_all (fun k (s : Int × Int × Int × Int) i => spec_l05Sums.l0 k m c i s.1 s.2.1 s.2.2.1 s.2.2.2) m z54 (by omega) (fun s x => if wrap64 x.f0 = c then (wrap64 (s.1 + 1), wrap64 (s.2.1 + wrap64 x.f1), wrap64 (s.2.2.1 + wrap64 x.f2), wrap64 (s.2.2.2 + wrap64 x.f3)) else s) id (fun k s i h0 h1 => ?_) (0, 0, 0, 0)) ?_
  · simp only [spec_l05Sums.l0]
    by_cases hi : i < (m.length : Int)
    · simp only [if_pos hi, if_pos h0]
      by_cases hc : wrap64 (rd_T54 m i).f0 = c
      · have hc' : wrap64 (m.getD i.toNat z54).f0 = c := hc
        simp only [if_pos hc, if_pos hc']; rfl
      · have hc' : ¬ wrap64 (m.getD i.toNat z54).f0 = c := hc
        simp only [if_neg hc, if_neg hc']
    · simp only [if_neg hi]; rfl
  · rw [sums_eq, len_fold _ 0 (by omega) (by have := flt_len m c; omega), id]
    simp only [Int.zero_add]; rfl
theorem sum_bd (p : S54 → Int) : ∀ (g : List (S54)) (a : Int), (∀ x ∈ g, 0 ≤ p x ∧ p x ≤ 1000000) → 0 ≤ a → a + 1000000 * (g.length : Int) ≤ 1000000000000 → 0 ≤ g.foldl (fun s x => wrap64 (s + wrap64 (p x))) a ∧ g.foldl (fun s x => wrap64 (s + wrap64 (p x))) a ≤ a + 1000000 * (g.length : Int)
  | [], a, _, h0, _ => by simp [h0]
  | x :: xs, a, hp, h0, h1 => by
    obtain ⟨p0, p1⟩ := hp x List.mem_cons_self
    simp only [List.length_cons] at h1 ⊢
    rw [List.foldl_cons, wrap_id (i := p x) (by omega) (by omega), wrap_id (i := a + p x) (by omega) (by omega)]
    obtain ⟨q0, q1⟩ := sum_bd p xs (a + p x) (fun y hy => hp y (List.mem_cons_of_mem _ hy)) (by omega) (by omega)
    exact ⟨q0, by omega⟩
/-- The sums of few valid lines. -/
theorem wor_bd {n : Int} {g : List (S54)} (h : ∀ x ∈ g, okL n x = true) (hg : g.length ≤ 10) : (0 ≤ wor g ∧ wor g ≤ 10000000) ∧ (0 ≤ grm g ∧ grm g ≤ 10000000) := by
  have h1 := sum_bd (·.f2) g 0 (fun x hx => (okL_bd (h x hx)).2.2.1) (by omega) (by omega)
  have h2 := sum_bd (·.f3) g 0 (fun x hx => (okL_bd (h x hx)).2.2.2) (by omega) (by omega)
  unfold wor grm
  exact ⟨⟨h1.1, by omega⟩, ⟨h2.1, by omega⟩⟩
theorem flt_ok {m : List (S54)} {n c : Int} (h : ∀ x ∈ m, okL n x = true) : ∀ x ∈ flt m c, okL n x = true := fun x hx => h x (flt_mem hx).1
end Go.Proofs.Ytnefepgfmmnbpaa.Pure
