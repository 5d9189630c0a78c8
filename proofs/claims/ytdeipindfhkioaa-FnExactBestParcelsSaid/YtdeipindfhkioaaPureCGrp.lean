/- The search through all lists of numbers by the program, told by one plain recursion. -/
import Derived.Test.YtdeipindfhkioaaQ3
import Derived.Test.YtdeipindfhkioaaPureB0
set_option linter.unusedVariables false
set_option linter.unusedSimpArgs false
namespace Go.Proofs.Ytdeipindfhkioaa.Pure
open Go.RowKit Go.Proofs.Ytdeipindfhkioaa.Q Go.Proofs.YtdeipindfhkioaaMine Go.Proofs.YtdeipindfhkioaaW.PrintWords Go.Proofs.YtdeipindfhkioaaW.PrintMore
/-- With enough rounds of both kinds. -/
def Ev2 {α : Type} (F : Nat → Nat → Option α) (r : α) : Prop := ∃ K, ∀ a b, K ≤ a → K ≤ b → F a b = some r
theorem Ev2.now {α : Type} (r : α) : Ev2 (fun _ _ => some r) r := ⟨0, fun _ _ _ _ => rfl⟩
theorem Ev2.left {α : Type} {f : Nat → Option α} {r : α} (h : Ev f r) : Ev2 (fun a _ => f a) r := by
 obtain ⟨K, hK⟩ := h
 exact ⟨K, fun a _ ha _ => hK a ha⟩
theorem Ev2.bind {α β : Type} {F : Nat → Nat → Option α} {G : Nat → Nat → α → Option β} {x : α} {r : β} (h : Ev2 F x) (g : Ev2 (fun a b => G a b x) r) : Ev2 (fun a b => (F a b).bind (G a b)) r := by
 obtain ⟨K, hK⟩ := h
 obtain ⟨L, hL⟩ := g
 refine ⟨max K L, fun a b ha hb => ?_⟩
 simp only [hK a b (by omega) (by omega), Option.bind_some]
 exact hL a b (by omega) (by omega)
theorem Ev2.step {α : Type} {F G : Nat → Nat → Option α} {r : α} (h : ∀ a b, F a (b + 1) = G a b) (g : Ev2 G r) : Ev2 F r := by
 obtain ⟨K, hK⟩ := g
 refine ⟨K + 1, fun a b ha hb => ?_⟩
 obtain ⟨c, rfl⟩ : ∃ c, b = c + 1 := ⟨b - 1, by omega⟩
 rw [h]
 exact hK a c (by omega) (by omega)
theorem Ev2.eq {α : Type} {F : Nat → Nat → Option α} {r s : α} (h : Ev2 F r) (e : r = s) : Ev2 F s := e ▸ h
theorem Ev2.diag {α : Type} {F : Nat → Nat → Option α} {r : α} (h : Ev2 F r) : Ev (fun k => F k k) r := by
 obtain ⟨K, hK⟩ := h
 exact ⟨K, fun k hk => hK k k hk hk⟩
/-- All lists of so many numbers, each at most one more than all before, in their order. -/
def srch {τ : Type} (upd : τ → List Int → Int → τ) : Nat → List Int → Nat → τ → τ
 | 0, xs, m, s => upd s xs (m : Int)
 | d + 1, xs, m, s => (List.range (m + 1)).foldl (fun s (k : Nat) => srch upd d (xs ++ [(k : Int)]) (max m (k + 1)) s) s
theorem range_drop {n j : Nat} (h : j < n) : (List.range n).drop j = j :: (List.range n).drop (j + 1) := by
 rw [List.drop_eq_getElem_cons (by simpa using h)]; simp
theorem mx_nat (a b : Nat) : mx (a : Int) (b : Int) = ((max a b : Nat) : Int) := by unfold mx; split <;> omega
theorem clone_list {xs : List Int} (h : xs.length ≤ 1000) : f18z.f xs = some xs := by
 unfold f18z.f
 simp only [Option.bind_some, List.length_nil, Nat.zero_add, List.nil_append]
 rw [if_pos (by omega)]
theorem grouped_all {σ : Type} {may : List Int → Int → Option Bool} (hmay : ∀ xs j, may xs j = some true) {each : Nat → σ → List Int → Int → Option (Bool × σ)} {upd : σ → List Int → Int → σ} {n : Nat} (hn : n ≤ 100)
  (heach : ∀ s xs (m : Nat), xs.length = n → m ≤ n → Ev (fun k => each k s xs (m : Int)) (true, upd s xs (m : Int))) :
  ∀ (d : Nat) (xs : List Int) (m : Nat) (s : σ), xs.length + d = n → m ≤ xs.length → Ev2 (fun a b => impl_grouped_1.c may (each a) (n : Int) b s xs (m : Int)) (true, srch upd d xs m s) := by
 intro d
 induction d with
 | zero =>
  intro xs m s hd hm
  refine Ev2.step (G := fun a _ => each a s xs (m : Int)) (fun a b => ?_) (Ev2.left (heach s xs m (by omega) (by omega)))
  simp only [impl_grouped_1.c]
  rw [if_pos (by omega)]
 | succ d ih =>
  intro xs m s hd hm
  have hw : wrap64 ((m : Int) + 1) = ((m + 1 : Nat) : Int) := by rw [wrap_sm (by omega) (by omega)]; omega
  refine Ev2.step (G := fun a b => impl_grouped_1.l0 may (each a) (n : Int) b xs (m : Int) ((m + 1 : Nat) : Int) 0 s) (fun a b => ?_) ?_
  ·simp only [impl_grouped_1.c]
   rw [if_neg (by omega), hw]
  ·have loop : ∀ (e j : Nat), j + e = m + 1 → ∀ s, Ev2 (fun a b => impl_grouped_1.l0 may (each a) (n : Int) b xs (m : Int) ((m + 1 : Nat) : Int) (j : Int) s) (true, ((List.range (m + 1)).drop j).foldl (fun s (k : Nat) => srch upd d (xs ++ [(k : Int)]) (max m (k + 1)) s) s) := by
    intro e
    induction e with
    | zero =>
     intro j hj s
     refine Ev2.step (G := fun _ _ => some (true, s)) (fun a b => ?_) (Ev2.eq (Ev2.now _) ?_)
     ·simp only [impl_grouped_1.l0]
      rw [if_neg (by omega)]
     ·rw [List.drop_eq_nil_of_le (by rw [List.length_range]; omega)]; rfl
    | succ e ie =>
     intro j hj s
     have hj1 : wrap64 ((j : Int) + 1) = ((j + 1 : Nat) : Int) := by rw [wrap_sm (by omega) (by omega)]; omega
     refine Ev2.step (G := fun a b => (impl_grouped_1.c may (each a) (n : Int) b s (xs ++ [(j : Int)]) ((max m (j + 1) : Nat) : Int)).bind fun t => if t.1 = true then impl_grouped_1.l0 may (each a) (n : Int) b xs (m : Int) ((m + 1 : Nat) : Int) ((j + 1 : Nat) : Int) t.2 else some (false, t.2)) (fun a b => ?_) ?_
     ·simp only [impl_grouped_1.l0]
      rw [if_pos (by omega), hmay]
      simp only [Option.bind_some, if_true]
      rw [clone_list (by omega)]
      simp only [Option.bind_some]
      rw [if_pos (by simp; omega), hj1, mx_nat]
     ·refine Ev2.bind (ih (xs ++ [(j : Int)]) (max m (j + 1)) s (by simp; omega) (by simp; omega)) ?_
      simp only [if_true]
      rw [range_drop (by omega)]
      exact ie (j + 1) (by omega) _
   exact Ev2.eq (loop (m + 1) 0 (by omega) s) (by rw [List.drop_zero]; rfl)
/-- The reference's step at a whole list. -/
def updS (C : List Int → Int → Int × Bool) (s : List Int × Int × Bool) (xs : List Int) (m : Int) : List Int × Int × Bool :=
 if (C xs m).2 = true then (if s.2.2 = true then (if (C xs m).1 < s.2.1 then (xs, (C xs m).1, true) else s) else (xs, (C xs m).1, true)) else s
/-- What is true of two states at whole lists, and stays true, is true at the end. -/
theorem srch_rel {τ υ : Type} {u : τ → List Int → Int → τ} {v : υ → List Int → Int → υ} (n : Nat) (R : τ → υ → Prop) (h : ∀ s t xs (m : Nat), R s t → xs.length = n → m ≤ n → R (u s xs (m : Int)) (v t xs (m : Int))) :
  ∀ (d : Nat) (xs : List Int) (m : Nat) (s : τ) (t : υ), xs.length + d = n → m ≤ xs.length → R s t → R (srch u d xs m s) (srch v d xs m t) := by
 intro d
 induction d with
 | zero => intro xs m s t hd hm hr; exact h s t xs m hr (by omega) (by omega)
 | succ d ih =>
  intro xs m s t hd hm hr
  unfold srch
  have : ∀ (ks : List Nat), (∀ k ∈ ks, k < m + 1) → ∀ s t, R s t → R (ks.foldl (fun s (k : Nat) => srch u d (xs ++ [(k : Int)]) (max m (k + 1)) s) s) (ks.foldl (fun s (k : Nat) => srch v d (xs ++ [(k : Int)]) (max m (k + 1)) s) t) := by
   intro ks
   induction ks with
   | nil => intro _ s t hr; exact hr
   | cons k ks ik =>
    intro hk s t hr
    have := hk k (by simp)
    exact ik (fun x hx => hk x (by simp [hx])) _ _ (ih _ _ s t (by simp; omega) (by simp; omega) hr)
  exact this _ (fun k hk => by simpa using hk) s t hr
/-- What holds behind every whole list holds at the end. -/
theorem srch_end {τ : Type} {u : τ → List Int → Int → τ} (P : τ → Prop) (h : ∀ s xs m, P (u s xs m)) : ∀ (d : Nat) (xs : List Int) (m : Nat) (s : τ), P (srch u d xs m s) := by
 intro d
 induction d with
 | zero => intro xs m s; exact h _ _ _
 | succ d ih =>
  intro xs m s
  unfold srch
  rw [List.range_succ, List.foldl_append]
  exact ih _ _ _
end Go.Proofs.Ytdeipindfhkioaa.Pure
