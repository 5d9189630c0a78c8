/- The duty of a form, class by class. -/
import Derived.Test.YtnefepgfmmnbpaaQ2
import Derived.Test.YtnefepgfmmnbpaaQ7
import Derived.Test.YtnefepgfmmnbpaaQ8
import Derived.Test.YtnefepgfmmnbpaaPureC5d
import Derived.Test.YtnefepgfmmnbpaaPureC5k
import Derived.Test.YtnefepgfmmnbpaaPureC5w
set_option linter.unusedVariables false
set_option linter.unusedSimpArgs false
namespace Go.Proofs.Ytnefepgfmmnbpaa.Pure
open Go.RowKit Go.Proofs.Ytnefepgfmmnbpaa.Q Go.Proofs.YtnefepgfmmnbpaaMine Go.Proofs.YtnefepgfmmnbpaaW.PrintWords Go.Proofs.YtnefepgfmmnbpaaW.PrintMore
theorem foldl_cg {α σ : Type} {f g : σ → α → σ} : ∀ (l : List α) (s : σ), (∀ s, ∀ x ∈ l, f s x = g s x) → l.foldl f s = l.foldl g s
  | [], _, _ => rfl
  | y :: ys, s, h => by
    rw [List.foldl_cons, List.foldl_cons, h s y List.mem_cons_self]
    exact foldl_cg ys _ (fun s x hx => h s x (List.mem_cons_of_mem _ hx))
def cnt (m : List (S54)) : Int := m.foldl (fun s x => wrap64 (s + wrap64 x.f1)) 0
theorem len_fold (m : List (S54)) : ∀ (a : Int), 0 ≤ a → a + (m.length : Int) ≤ 4611686018427387904 → m.foldl (fun s _ => wrap64 (s + 1)) a = a + (m.length : Int) := by
  induction m with
  | nil => intro a _ _; simp
  | cons x xs ih =>
    intro a h0 h1
    simp only [List.length_cons] at h1
    rw [List.foldl_cons, wrap_sm (by omega) (by omega), ih _ (by omega) (by omega)]
    simp only [List.length_cons]; omega
theorem flt_len (m : List (S54)) (c : Int) : (flt m c).length ≤ m.length := List.length_filter_le _ _
theorem flt_mem {m : List (S54)} {c : Int} {x : S54} (h : x ∈ flt m c) : x ∈ m ∧ wrap64 x.f0 = c := by
  obtain ⟨h1, h2⟩ := List.mem_filter.1 h
  exact ⟨h1, by simpa using h2⟩
theorem flt_head {n : Nat} {m : List (S54)} {c : Int} (hn : n ≤ 8) (h : ∀ x ∈ m, okL (n : Int) x = true) (hp : 0 < (flt m c).length) : ((flt m c).getD 0 z54).f0 = c := by
  obtain ⟨h1, h2⟩ := flt_mem (get_mem z54 hp).1
  obtain ⟨⟨a1, a2⟩, _⟩ := okL_bd (h _ h1)
  rw [wrap_id (by omega) (by omega)] at h2; exact h2
/-- The sums of the lines of a class. -/
theorem sums_eq (c : Int) : ∀ (m : List (S54)) (s : Int × Int × Int × Int), m.foldl (fun s x => if wrap64 x.f0 = c then (wrap64 (s.1 + 1), wrap64 (s.2.1 + wrap64 x.f1), wrap64 (s.2.2.1 + wrap64 x.f2), wrap64 (s.2.2.2 + wrap64 x.f3)) else s) s
    = ((flt m c).foldl (fun s _ => wrap64 (s + 1)) s.1, (flt m c).foldl (fun s x => wrap64 (s + wrap64 x.f1)) s.2.1, (flt m c).foldl (fun s x => wrap64 (s + wrap64 x.f2)) s.2.2.1, (flt m c).foldl (fun s x => wrap64 (s + wrap64 x.f3)) s.2.2.2)
  | [], s => rfl
  | x :: xs, s => by
    rw [List.foldl_cons, sums_eq c xs]
    by_cases h : wrap64 x.f0 = c
    · rw [if_pos h]
      have e : flt (x :: xs) c = x :: flt xs c := by simp [flt, h]
      rw [e]; rfl
    · rw [if_neg h]
      have e : flt (x :: xs) c = flt xs c := by simp [flt, h]
      rw [e]
theorem specSums {m : List (S54)} (hm : m.length ≤ 2097152) (c : Int) : Ev (fun k => spec_l05Sums.f k m c) (((flt m c).length : Int), cnt (flt m c), wor (flt m c), grm (flt m c)) := by
  unfold spec_l05Sums.f
  refine Ev.eq (fold_all (fun k (s : Int × Int × Int × Int) i => spec_l05Sums.l0 k m c i s.1 s.2.1 s.2.2.1 s.2.2.2) m z54 (by omega) (fun s x => if wrap64 x.f0 = c then (wrap64 (s.1 + 1), wrap64 (s.2.1 + wrap64 x.f1), wrap64 (s.2.2.1 + wrap64 x.f2), wrap64 (s.2.2.2 + wrap64 x.f3)) else s) id (fun k s i h0 h1 => ?_) (0, 0, 0, 0)) ?_
  · simp only [spec_l05Sums.l0]
    by_cases hi : i < (m.length : Int)
    · simp only [if_pos hi, if_pos h0]
      by_cases hc : wrap64 (rd_T54 m i).f0 = c
      · have hc' : wrap64 (m.getD i.toNat z54).f0 = c := hc
        simp only [if_pos hc, if_pos hc']; rfl
      · have hc' : ¬ wrap64 (m.getD i.toNat z54).f0 = c := hc
        simp only [if_neg hc, if_neg hc']
    · simp only [if_neg hi]; rfl
  · rw [sums_eq, len_fold _ 0 (by omega) (by have := flt_len m c; omega), id]
    simp only [Int.zero_add]; rfl
theorem sum_bd (p : S54 → Int) : ∀ (g : List (S54)) (a : Int), (∀ x ∈ g, 0 ≤ p x ∧ p x ≤ 1000000) → 0 ≤ a → a + 1000000 * (g.length : Int) ≤ 1000000000000 → 0 ≤ g.foldl (fun s x => wrap64 (s + wrap64 (p x))) a ∧ g.foldl (fun s x => wrap64 (s + wrap64 (p x))) a ≤ a + 1000000 * (g.length : Int)
  | [], a, _, h0, _ => by simp [h0]
  | x :: xs, a, hp, h0, h1 => by
    obtain ⟨p0, p1⟩ := hp x List.mem_cons_self
    simp only [List.length_cons] at h1 ⊢
    rw [List.foldl_cons, wrap_id (i := p x) (by omega) (by omega), wrap_id (i := a + p x) (by omega) (by omega)]
    obtain ⟨q0, q1⟩ := sum_bd p xs (a + p x) (fun y hy => hp y (List.mem_cons_of_mem _ hy)) (by omega) (by omega)
    exact ⟨q0, by omega⟩
/-- The sums of few valid lines. -/
theorem wor_bd {n : Int} {g : List (S54)} (h : ∀ x ∈ g, okL n x = true) (hg : g.length ≤ 10) : (0 ≤ wor g ∧ wor g ≤ 10000000) ∧ (0 ≤ grm g ∧ grm g ≤ 10000000) := by
  have h1 := sum_bd (·.f2) g 0 (fun x hx => (okL_bd (h x hx)).2.2.1) (by omega) (by omega)
  have h2 := sum_bd (·.f3) g 0 (fun x hx => (okL_bd (h x hx)).2.2.2) (by omega) (by omega)
  unfold wor grm
  exact ⟨⟨h1.1, by omega⟩, ⟨h2.1, by omega⟩⟩
def alls (l : List (S56)) (m : List (S54)) (how : Int) (s : Int) (c : Nat) : Int := if (flt m (c : Int)).length > 0 then wrap64 (s + chg (l.getD c z56) (wor (flt m (c : Int))) (grm (flt m (c : Int))) how) else s
/-- The duty of a form, class by class. -/
def alld (l : List (S56)) (m : List (S54)) (how : Int) : Int := (List.range l.length).foldl (alls l m how) 0
section
variable {l : List (S56)} {m : List (S54)}
theorem flt_ok {n c : Int} (h : ∀ x ∈ m, okL n x = true) : ∀ x ∈ flt m c, okL n x = true := fun x hx => h x (flt_mem hx).1
theorem specAll (hl : l.length ≤ 8) (hm : m.length ≤ 10) (q1 : ∀ c ∈ l, okC c = true) (q2 : ∀ x ∈ m, okL (l.length : Int) x = true) (how : Int) : Ev (fun k => spec_l05All.f k l m how) (alld l m how) := by
  unfold spec_l05All.f alld
  refine Ev.eq (fold_ev (fun k s i => spec_l05All.l0 k l m how s i) (List.range l.length) 0 (fun _ _ => True) (alls l m how) id (fun j s hj _ => ⟨trivial, fun r hr => ?_⟩) (fun s _ => ?_) 0 trivial) rfl
  · rw [List.length_range] at hj
    rw [range_getD hj] at hr
    have hstep : ∀ k, spec_l05All.l0 (k + 1) l m how s (j : Int) = (spec_l05Sums.f k m (j : Int)).bind fun bt => (if bt.1 > 0 then ((spec_l05Charge.f (l.getD j z56).f0 (l.getD j z56).f1 (l.getD j z56).f2 (l.getD j z56).f3 bt.2.2.1 bt.2.2.2 how).bind fun t => spec_l05All.l0 k l m how (wrap64 (s + t)) ((j + 1 : Nat) : Int)) else spec_l05All.l0 k l m how s ((j + 1 : Nat) : Int)) := by
      intro k
      simp only [spec_l05All.l0]
      rw [if_pos (by omega), wrap_sm (i := (j : Int) + 1) (by omega) (by omega)]
      simp only [if_pos (show (0 : Int) ≤ (j : Int) by omega), rd_T56, Int.toNat_natCast]
      rfl
    refine Ev.step hstep (Ev.bind (specSums (by omega) _) ?_)
    unfold alls at hr
    by_cases h : (flt m (j : Int)).length > 0
    · rw [if_pos h] at hr
      obtain ⟨⟨b1, b2⟩, b3, b4⟩ := wor_bd (flt_ok (c := (j : Int)) q2) (Nat.le_trans (flt_len m _) hm)
      simp only [if_pos (show ((flt m (j : Int)).length : Int) > 0 by omega), specChg (q1 _ (get_mem z56 hj).1) b1 (show wor (flt m (j : Int)) ≤ 1000000000 by omega) b3 (show grm (flt m (j : Int)) ≤ 1000000000 by omega), Option.bind_some]
      exact hr
    · rw [if_neg h] at hr
      simp only [if_neg (show ¬ ((flt m (j : Int)).length : Int) > 0 by omega)]
      exact hr
  · rw [List.length_range]
    exact Ev.step (f := fun _ => some s) (fun k => by simp only [spec_l05All.l0]; rw [if_neg (by omega)]) (Ev.now _)
theorem implInAll (hl : l.length ≤ 8) (hm : m.length ≤ 10) (q1 : ∀ c ∈ l, okC c = true) (q2 : ∀ x ∈ m, okL (l.length : Int) x = true) {how : Int} (w0 : 0 ≤ how) (w3 : how ≤ 3) : Ev (fun k => impl_inAll.f k l m how) (alld l m how) := by
  unfold impl_inAll.f
  refine Ev.bind (implByClass (by omega) (by omega)) ?_
  have hlen : (byc l.length m).length ≤ 8 := by have := byc_len (m := m) (List.range l.length) []; simp only [List.length_nil, List.length_range] at this; unfold byc; omega
  have hgm : ∀ g ∈ byc l.length m, ∃ c, c < l.length ∧ g = flt m (c : Int) ∧ 0 < g.length := fun g hg => by
    rcases byc_mem _ _ g hg with h | ⟨c, h1, h2, h3⟩
    · simp at h
    · exact ⟨c, List.mem_range.1 h1, h2, h3⟩
  refine Ev.eq (fold_ev (fun k s i => impl_inAll.l0 k l how s (byc l.length m) ((byc l.length m).length : Int) i) (byc l.length m) [] (fun _ _ => True) (fun s g => wrap64 (s + chg (l.getD (g.getD 0 z54).f0.toNat z56) (wor g) (grm g) how)) id (fun j s hj _ => ⟨trivial, fun r hr => ?_⟩) (fun s _ => ?_) 0 trivial) ?_
  · obtain ⟨c, hc, hg, hp⟩ := hgm _ (get_mem [] hj).1
    obtain ⟨g, he⟩ : ∃ g, g = (byc l.length m).getD j [] := ⟨_, rfl⟩
    rw [← he] at hr hg hp
    have hf : (g.getD 0 z54).f0 = (c : Int) := by rw [hg] at hp ⊢; exact flt_head hl q2 hp
    have hok : ∀ x ∈ g, okL (l.length : Int) x = true := by rw [hg]; exact flt_ok q2
    have hgl : g.length ≤ 10 := by rw [hg]; exact Nat.le_trans (flt_len m _) hm
    obtain ⟨⟨b1, b2⟩, b3, b4⟩ := wor_bd hok hgl
    have hstep : ∀ k, impl_inAll.l0 (k + 1) l how s (byc l.length m) ((byc l.length m).length : Int) (j : Int) = (impl_worth.f k g).bind fun bt => ((impl_Class_duty.f k (l.getD c z56).f0 (l.getD c z56).f1 (l.getD c z56).f2 (l.getD c z56).f3 bt.1 bt.2 how).bind fun t => impl_inAll.l0 k l how (wrap64 (s + t)) (byc l.length m) ((byc l.length m).length : Int) ((j + 1 : Nat) : Int)) := by
      intro k
      simp only [impl_inAll.l0]
      have e1 : rd_L7 (byc l.length m) (j : Int) = g := by rw [he]; rfl
      have e2 : rd_T54 g 0 = g.getD 0 z54 := rfl
      rw [if_pos (by omega), if_pos (by omega), if_pos (by omega), wrap_sm (i := (j : Int) + 1) (by omega) (by omega)]
      simp only [e1, e2, hf, if_pos (show (0 : Int) < (g.length : Int) by omega), if_pos (show (0 : Int) ≤ (c : Int) by omega), if_pos (show (c : Int) < (l.length : Int) by omega), rd_T56, Int.toNat_natCast]
      rfl
    refine Ev.step hstep (Ev.bind (implWor (by omega)) (Ev.bind (implChg (q1 _ (get_mem z56 hc).1) b1 (by omega) b3 (by omega) w0 w3) ?_))
    rw [hf, Int.toNat_natCast] at hr
    exact hr
  · exact Ev.step (f := fun _ => some s) (fun k => by simp only [impl_inAll.l0]; rw [if_neg (by omega)]) (Ev.now _)
  · unfold byc alld
    rw [byc_fold, List.foldl_nil, id]
    refine foldl_cg _ _ (fun s c hc => ?_)
    unfold alls
    split
    · rename_i hp
      rw [flt_head hl q2 hp, Int.toNat_natCast]
    · rfl
end
end Go.Proofs.Ytnefepgfmmnbpaa.Pure
