/- The lines of each class: slices.Clone, slices.DeleteFunc and byClass. -/
import Derived.Test.YtnefepgfmmnbpaaQ5
import Derived.Test.YtnefepgfmmnbpaaPureB0
set_option linter.unusedVariables false
set_option linter.unusedSimpArgs false
namespace Go.Proofs.Ytnefepgfmmnbpaa.Pure
open Go.RowKit Go.Proofs.Ytnefepgfmmnbpaa.Q Go.Proofs.YtnefepgfmmnbpaaMine Go.Proofs.YtnefepgfmmnbpaaW.PrintWords Go.Proofs.YtnefepgfmmnbpaaW.PrintMore
theorem findI_filter {α : Type} (q : α → Bool) (z : α) : ∀ l : List α, (findI q l = -1 ∧ l.filter (fun x => !q x) = l) ∨ (∃ i : Nat, findI q l = (i : Int) ∧ i < l.length ∧ l.filter (fun x => !q x) = l.take i ++ (l.drop (i + 1)).filter (fun x => !q x))
  | [] => .inl ⟨rfl, rfl⟩
  | y :: ys => by
    cases hy : q y with
    | true => exact .inr ⟨0, by simp [findI, hy], by simp, by simp [hy]⟩
    | false =>
      rcases findI_filter q z ys with ⟨h1, h2⟩ | ⟨i, h1, h2, h3⟩
      · exact .inl ⟨by simp [findI, hy, h1], by simp [hy, h2]⟩
      · refine .inr ⟨i + 1, ?_, by simp; omega, ?_⟩
        · simp only [findI, hy, h1, Bool.false_eq_true, if_false]
          rw [if_neg (by omega)]; simp
        · rw [List.filter_cons]; simp only [hy, Bool.not_false, if_true, h3, List.take_succ_cons, List.drop_succ_cons, List.cons_append]
theorem cloneLine (m : List (S54)) (hm : m.length ≤ 2097152) : slices_Clone_Line.f m = some m := by
  unfold slices_Clone_Line.f
  rw [Option.bind_some, if_pos (by simp; omega), List.nil_append]
/-- The lines of a class. -/
def flt (m : List (S54)) (c : Int) : List (S54) := m.filter (fun x => !(wrap64 x.f0 != c))
theorem delLoop (c : Int) : ∀ (d i j : Nat) (x : List (S54)), j + d = x.length → i ≤ j → x.length ≤ 2097152 → Ev (fun k => slices_DeleteFunc_Line_at_impl_byClass_1.l0 k x (i : Int) (j : Int) c) (x.take i ++ flt (x.drop j) c) := by
  intro d
  induction d with
  | zero =>
    intro i j x hj hi hx
    rw [List.drop_eq_nil_of_le (by omega)]
    refine Ev.step (f := fun _ => some (x.take i)) (fun k => ?_) (Ev.eq (Ev.now _) (by simp [flt]))
    simp only [slices_DeleteFunc_Line_at_impl_byClass_1.l0]
    rw [if_neg (by omega), if_pos (by omega), if_pos (by omega)]
    simp only [Int.toNat_natCast]
    rw [List.take_append_of_le_length (by simp; omega), List.take_take, Nat.min_self]
  | succ d ih =>
    intro i j x hj hi hx
    rw [drop_step z54 (by omega)]
    cases hb : (wrap64 (x.getD j z54).f0 != c) with
    | true =>
      refine Ev.step (fun k => ?_) (Ev.eq (ih i (j + 1) x (by omega) (by omega) hx) ?_)
      · simp only [slices_DeleteFunc_Line_at_impl_byClass_1.l0]
        rw [if_pos (show (j : Int) < (x.length : Int) by omega), if_pos (show (0 : Int) ≤ (j : Int) by omega), wrap_sm (i := (j : Int) + 1) (by omega) (by omega)]
        simp only [impl_byClass_1.f, rd_T54, Int.toNat_natCast, hb, Option.bind_some, if_true]
        rfl
      · simp only [flt, List.filter_cons, hb]; simp
    | false =>
      refine Ev.step (fun k => ?_) (Ev.eq (ih (i + 1) (j + 1) (x.set i (x.getD j z54)) (by simp; omega) (by omega) (by simpa using hx)) ?_)
      · simp only [slices_DeleteFunc_Line_at_impl_byClass_1.l0]
        rw [if_pos (show (j : Int) < (x.length : Int) by omega), if_pos (show (0 : Int) ≤ (j : Int) by omega), wrap_sm (i := (j : Int) + 1) (by omega) (by omega), wrap_sm (i := (i : Int) + 1) (by omega) (by omega)]
        simp only [impl_byClass_1.f, rd_T54, Int.toNat_natCast, hb, Option.bind_some, Bool.false_eq_true, if_false]
        rw [if_pos (by omega), if_pos (by omega)]
        rfl
      · rw [List.take_add_one, List.getElem?_set_self (by omega), List.take_set_of_le (by omega), List.drop_set_of_lt (by omega)]
        simp only [flt, List.filter_cons, hb, Bool.not_false, if_true, Option.toList_some, List.append_assoc, List.singleton_append]
theorem implDel (m : List (S54)) (hm : m.length ≤ 2097152) (c : Int) : Ev (fun k => slices_DeleteFunc_Line_at_impl_byClass_1.f k m c) (flt m c) := by
  unfold slices_DeleteFunc_Line_at_impl_byClass_1.f slices_IndexFunc_Line_at_impl_byClass_1.f
  have hf : findO (fun x : S54 => impl_byClass_1.f x.f0 x.f1 x.f2 x.f3 c) m = some (findI (fun x : S54 => wrap64 x.f0 != c) m) := findO_of m (fun x _ => rfl)
  simp only [hf, Option.bind_some]
  rcases findI_filter (fun x : S54 => wrap64 x.f0 != c) z54 m with ⟨h1, h2⟩ | ⟨i, h1, h2, h3⟩
  · simp only [h1, if_true]; exact Ev.eq (Ev.now _) h2.symm
  · simp only [h1, if_neg (show ¬ (i : Int) = -1 by omega), wrap_sm (i := (i : Int) + 1) (by omega) (by omega)]
    exact Ev.eq (delLoop c (m.length - (i + 1)) i (i + 1) m (by omega) (by omega) hm) h3.symm
/-- The classes' lines, as they are gathered. -/
def addc (m : List (S54)) (out : List (List (S54))) (c : Nat) : List (List (S54)) := if (flt m (c : Int)).length > 0 then out ++ [flt m (c : Int)] else out
def byc (n : Nat) (m : List (S54)) : List (List (S54)) := (List.range n).foldl (addc m) []
theorem range_getD {n m : Nat} (h : m < n) : (List.range n).getD m 0 = m := by
  rw [List.getD_eq_getElem?_getD, List.getElem?_range h]; rfl
theorem implByClass {l : List (S56)} {m : List (S54)} (hl : l.length ≤ 2097152) (hm : m.length ≤ 2097152) : Ev (fun k => impl_byClass.f k l m) (byc l.length m) := by
  unfold impl_byClass.f byc
  have e : (l.length : Int) = ((List.range l.length).length : Int) := by simp
  refine Ev.eq (fold_ev (fun k s i => impl_byClass.l0 k m s (l.length : Int) i) (List.range l.length) 0 (fun j (s : List (List (S54))) => s.length ≤ j) (addc m) id (fun j s hj hs => ?_) (fun s hs => ?_) [] (Nat.zero_le _)) rfl
  · rw [List.length_range] at hj
    rw [range_getD hj]
    refine ⟨?_, fun r hr => ?_⟩
    · unfold addc; split
      · simp; omega
      · omega
    · have hstep : ∀ k, impl_byClass.l0 (k + 1) m s (l.length : Int) (j : Int) = (slices_DeleteFunc_Line_at_impl_byClass_1.f k m (j : Int)).bind fun t216 => (if (t216.length : Int) > 0 then (if s.length < 5864062014805 then (impl_byClass.l0 k m (s ++ [t216]) (l.length : Int) ((j + 1 : Nat) : Int)) else (none)) else (impl_byClass.l0 k m s (l.length : Int) ((j + 1 : Nat) : Int))) := by
        intro k
        simp only [impl_byClass.l0]
        rw [if_pos (by omega), cloneLine m hm, Option.bind_some, wrap_sm (i := (j : Int) + 1) (by omega) (by omega)]
        rfl
      refine Ev.step hstep (Ev.bind (implDel m hm _) ?_)
      unfold addc at hr
      by_cases h : (flt m (j : Int)).length > 0
      · rw [if_pos h] at hr
        simp only [if_pos (show ((flt m (j : Int)).length : Int) > 0 by omega), if_pos (show s.length < 5864062014805 by omega)]
        exact hr
      · rw [if_neg h] at hr
        simp only [if_neg (show ¬ ((flt m (j : Int)).length : Int) > 0 by omega)]
        exact hr
  · rw [List.length_range]
    exact Ev.step (f := fun _ => some s) (fun k => by simp only [impl_byClass.l0]; rw [if_neg (by omega)]) (Ev.now _)
theorem byc_mem {m : List (S54)} : ∀ (cs : List Nat) (out : List (List (S54))), ∀ g ∈ cs.foldl (addc m) out, g ∈ out ∨ ∃ c ∈ cs, g = flt m (c : Int) ∧ 0 < g.length
  | [], out, g, hg => .inl hg
  | c :: cs, out, g, hg => by
    rcases byc_mem cs _ g hg with h | ⟨c', h1, h2⟩
    · unfold addc at h
      split at h
      · rename_i hp
        rcases List.mem_append.1 h with h | h
        · exact .inl h
        · rw [List.mem_singleton] at h; subst h; exact .inr ⟨c, List.mem_cons_self, rfl, hp⟩
      · exact .inl h
    · exact .inr ⟨c', List.mem_cons_of_mem _ h1, h2⟩
theorem byc_len {m : List (S54)} : ∀ (cs : List Nat) (out : List (List (S54))), (cs.foldl (addc m) out).length ≤ out.length + cs.length
  | [], out => by simp
  | c :: cs, out => by
    have h := byc_len (m := m) cs (addc m out c)
    rw [List.foldl_cons]
    have h2 : (addc m out c).length ≤ out.length + 1 := by unfold addc; split <;> simp
    simp only [List.length_cons]; omega
/-- What is folded over the gathered lines is folded over the classes. -/
theorem byc_fold {σ : Type} {m : List (S54)} (h : σ → List (S54) → σ) : ∀ (cs : List Nat) (out : List (List (S54))) (s : σ), (cs.foldl (addc m) out).foldl h s = cs.foldl (fun s (c : Nat) => if (flt m (c : Int)).length > 0 then h s (flt m (c : Int)) else s) (out.foldl h s)
  | [], out, s => rfl
  | c :: cs, out, s => by
    rw [List.foldl_cons, byc_fold h cs, List.foldl_cons]
    congr 1
    unfold addc; split
    · rw [List.foldl_append]; rfl
    · rfl
end Go.Proofs.Ytnefepgfmmnbpaa.Pure
