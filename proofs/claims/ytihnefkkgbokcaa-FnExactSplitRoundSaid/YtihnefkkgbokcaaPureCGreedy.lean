/- Bags filled one after the other: a greater bag never needs more of them; what a search by halves finds. -/
import Derived.Test.YtihnefkkgbokcaaPureB0
set_option linter.unusedVariables false
set_option linter.unusedSimpArgs false
namespace Go.Proofs.Ytihnefkkgbokcaa.Pure
open Go.RowKit Go.Proofs.YtihnefkkgbokcaaMine Go.Proofs.YtihnefkkgbokcaaW.PrintWords Go.Proofs.YtihnefkkgbokcaaW.PrintMore
def stepG (M : Int) (s : Int × Int) (own : Int) : Int × Int := if s.2 + own > M then (s.1 + 1, own) else (s.1, s.2 + own)
def runG (M : Int) (l : List Int) (s : Int × Int) : Int × Int := l.foldl (stepG M) s
def le2 (t s : Int × Int) : Prop := t.1 < s.1 ∨ (t.1 = s.1 ∧ t.2 ≤ s.2)
theorem stepG_mono {M M' own : Int} {t s : Int × Int} (h : le2 t s) (hn : 0 ≤ s.2) (h0 : 0 ≤ own) (hM : M ≤ M') : le2 (stepG M' t own) (stepG M s own) ∧ 0 ≤ (stepG M s own).2 := by
  unfold stepG le2 at *
  constructor
  · split <;> split <;> simp only <;> omega
  · split <;> simp only <;> omega
theorem runG_mono {M M' : Int} (hM : M ≤ M') : ∀ (l : List Int) (t s : Int × Int), (∀ x ∈ l, 0 ≤ x) → 0 ≤ s.2 → le2 t s → le2 (runG M' l t) (runG M l s)
  | [], _, _, _, _, h => h
  | x :: xs, t, s, hl, hn, h => by
    obtain ⟨h1, h2⟩ := stepG_mono h hn (hl x List.mem_cons_self) hM
    exact runG_mono hM xs _ _ (fun y hy => hl y (List.mem_cons_of_mem _ hy)) h2 h1
/-- How many bags. -/
def bagsN (M : Int) (l : List Int) : Int := (runG M l (0, M)).1
theorem bagsN_mono {M M' : Int} (hM : M ≤ M') (l : List Int) (hl : ∀ x ∈ l, 1 ≤ x) : bagsN M' l ≤ bagsN M l := by
  unfold bagsN
  cases l with
  | nil => exact Int.le_refl _
  | cons x xs =>
    have hx := hl x List.mem_cons_self
    have e : ∀ N : Int, stepG N (0, N) x = (1, x) := fun N => by unfold stepG; rw [if_pos (by simp only; omega)]; rfl
    have h := runG_mono hM xs (1, x) (1, x) (fun y hy => by have := hl y (List.mem_cons_of_mem _ hy); omega) (by simp only; omega) (.inr ⟨rfl, Int.le_refl _⟩)
    unfold runG at h ⊢
    rw [List.foldl_cons, List.foldl_cons, e, e]
    unfold le2 at h
    omega
def sumI (l : List Int) : Int := l.foldl (· + ·) 0
theorem sum_from (l : List Int) : ∀ a : Int, l.foldl (· + ·) a = a + sumI l := by
  unfold sumI
  induction l with
  | nil => intro a; simp
  | cons x xs ih => intro a; rw [List.foldl_cons, List.foldl_cons, ih, ih (0 + x)]; omega
theorem sumI_nonneg : ∀ (l : List Int), (∀ x ∈ l, 0 ≤ x) → 0 ≤ sumI l
  | [], _ => by simp [sumI]
  | x :: xs, h => by
    have h1 := sumI_nonneg xs (fun y hy => h y (List.mem_cons_of_mem _ hy))
    have h2 := h x List.mem_cons_self
    unfold sumI
    rw [List.foldl_cons, sum_from]; omega
theorem sumI_ge : ∀ (l : List Int), (∀ x ∈ l, 0 ≤ x) → ∀ x ∈ l, x ≤ sumI l
  | [], _, x, hx => by simp at hx
  | y :: ys, h, x, hx => by
    have h1 := sumI_nonneg ys (fun z hz => h z (List.mem_cons_of_mem _ hz))
    have h2 := h y List.mem_cons_self
    have e : sumI (y :: ys) = y + sumI ys := by unfold sumI; rw [List.foldl_cons, sum_from]; unfold sumI; omega
    rcases List.mem_cons.1 hx with rfl | hx
    · omega
    · have := sumI_ge ys (fun z hz => h z (List.mem_cons_of_mem _ hz)) x hx; omega
theorem runG_one {M : Int} : ∀ (l : List Int) (n : Int), (∀ x ∈ l, 0 ≤ x) → n + sumI l ≤ M → (runG M l (1, n)).1 = 1
  | [], _, _, _ => rfl
  | x :: xs, n, h, hs => by
    have h1 := sumI_nonneg xs (fun y hy => h y (List.mem_cons_of_mem _ hy))
    have e : sumI (x :: xs) = x + sumI xs := by unfold sumI; rw [List.foldl_cons, sum_from]; unfold sumI; omega
    unfold runG
    rw [List.foldl_cons]
    have e2 : stepG M (1, n) x = (1, n + x) := by unfold stepG; rw [if_neg (by simp only; omega)]
    rw [e2]
    exact runG_one xs (n + x) (fun y hy => h y (List.mem_cons_of_mem _ hy)) (by omega)
theorem bagsN_all {M : Int} (l : List Int) (hl : ∀ x ∈ l, 1 ≤ x) (hs : sumI l ≤ M) : bagsN M l ≤ 1 := by
  unfold bagsN
  cases l with
  | nil => simp [runG]
  | cons x xs =>
    have hx := hl x List.mem_cons_self
    have e : sumI (x :: xs) = x + sumI xs := by unfold sumI; rw [List.foldl_cons, sum_from]; unfold sumI; omega
    unfold runG
    rw [List.foldl_cons]
    have e2 : stepG M (0, M) x = (1, x) := by unfold stepG; rw [if_pos (by simp only; omega)]; rfl
    rw [e2]
    have := runG_one (M := M) xs x (fun y hy => by have := hl y (List.mem_cons_of_mem _ hy); omega) (by omega)
    unfold runG at this
    omega
/-- The first place from lo on at which p holds. -/
def leastP (p : Int → Bool) (lo : Int) : Nat → Int
  | 0 => lo
  | n + 1 => if p lo = true then lo else leastP p (lo + 1) n
theorem leastP_spec (p : Int → Bool) : ∀ (n : Nat) (lo : Int), lo ≤ leastP p lo n ∧ leastP p lo n ≤ lo + n ∧ (∀ m, lo ≤ m → m < leastP p lo n → p m = false) ∧ (leastP p lo n < lo + n → p (leastP p lo n) = true)
  | 0, lo => by unfold leastP; exact ⟨by omega, by omega, fun m h0 h1 => by omega, fun h => by omega⟩
  | n + 1, lo => by
    unfold leastP
    by_cases h : p lo = true
    · rw [if_pos h]; exact ⟨by omega, by omega, fun m h0 h1 => by omega, fun _ => h⟩
    · rw [if_neg h]
      obtain ⟨h1, h2, h3, h4⟩ := leastP_spec p n (lo + 1)
      refine ⟨by omega, by omega, fun m h5 h6 => ?_, fun h5 => h4 (by omega)⟩
      by_cases e : m = lo
      · subst e; exact Bool.eq_false_iff.2 h
      · exact h3 m (by omega) h6
/-- A search by halves. -/
theorem halves_ev {ρ : Type} (L : Nat → Int → Int → Option ρ) (p : Int → Bool) (fin : Int → ρ) (a b r : Int) (ha : -4611686018427387904 ≤ a) (hb : b ≤ 4611686018427387904)
    (hlt : ∀ m, a ≤ m → m < r → p m = false) (hge : ∀ m, r ≤ m → m < b → p m = true)
    (hend : Ev (fun k => L k r r) (fin r))
    (hyes : ∀ lo hi m, a ≤ lo → lo < hi → hi ≤ b → m = (lo + hi) / 2 → p m = true → ∀ q, Ev (fun k => L k lo m) q → Ev (fun k => L k lo hi) q)
    (hno : ∀ lo hi m, a ≤ lo → lo < hi → hi ≤ b → m = (lo + hi) / 2 → p m = false → ∀ q, Ev (fun k => L k (m + 1) hi) q → Ev (fun k => L k lo hi) q) :
    ∀ (d : Nat) (lo hi : Int), hi - lo ≤ d → a ≤ lo → lo ≤ r → r ≤ hi → hi ≤ b → Ev (fun k => L k lo hi) (fin r)
  | 0, lo, hi, hd, _, h1, h2, _ => by
    obtain rfl : lo = r := by omega
    obtain rfl : hi = lo := by omega
    exact hend
  | d + 1, lo, hi, hd, h0, h1, h2, h3 => by
    by_cases e : lo < hi
    · cases hp : p ((lo + hi) / 2) with
      | true =>
        refine hyes lo hi _ h0 e h3 rfl hp _ (halves_ev L p fin a b r ha hb hlt hge hend hyes hno d lo _ (by omega) h0 h1 ?_ (by omega))
        by_cases hc : r ≤ (lo + hi) / 2
        · exact hc
        · rw [hlt ((lo + hi) / 2) (by omega) (by omega)] at hp; cases hp
      | false =>
        refine hno lo hi _ h0 e h3 rfl hp _ (halves_ev L p fin a b r ha hb hlt hge hend hyes hno d _ hi (by omega) (by omega) ?_ h2 h3)
        by_cases hc : r ≤ (lo + hi) / 2
        · rw [hge ((lo + hi) / 2) hc (by omega)] at hp; cases hp
        · omega
    · obtain rfl : lo = r := by omega
      obtain rfl : hi = lo := by omega
      exact hend
end Go.Proofs.Ytihnefkkgbokcaa.Pure
