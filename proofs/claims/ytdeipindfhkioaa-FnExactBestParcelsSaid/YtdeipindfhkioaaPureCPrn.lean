/- The search that leaves out what a test does not let by. -/
import Derived.Test.YtdeipindfhkioaaQ3
import Derived.Test.YtdeipindfhkioaaPureCGrp
import Derived.Test.YtdeipindfhkioaaPureCLeaf
set_option linter.unusedVariables false
set_option linter.unusedSimpArgs false
namespace Go.Proofs.Ytdeipindfhkioaa.Pure
open Go.RowKit Go.Proofs.Ytdeipindfhkioaa.Q Go.Proofs.YtdeipindfhkioaaMine Go.Proofs.YtdeipindfhkioaaW.PrintWords Go.Proofs.YtdeipindfhkioaaW.PrintMore
def srchP {τ : Type} (p : List Int → Nat → Bool) (upd : τ → List Int → Int → τ) : Nat → List Int → Nat → τ → τ
 | 0, xs, m, s => upd s xs (m : Int)
 | d + 1, xs, m, s => (List.range (m + 1)).foldl (fun s (k : Nat) => if p xs k = true then srchP p upd d (xs ++ [(k : Int)]) (max m (k + 1)) s else s) s
theorem foldl_eq {τ : Type} {f g : τ → Nat → τ} : ∀ {ks : List Nat} (s : τ), (∀ k ∈ ks, ∀ s, f s k = g s k) → ks.foldl f s = ks.foldl g s
 | [], _, _ => rfl
 | k :: ks, s, h => by
  rw [List.foldl_cons, List.foldl_cons, h k (by simp)]
  exact foldl_eq _ (fun x hx => h x (by simp [hx]))
theorem fold_noop {τ : Type} {upd : τ → List Int → Int → τ} : ∀ (L : List (List Int × Nat)) (s : τ), (∀ q ∈ L, ∀ s, upd s q.1 (q.2 : Int) = s) → L.foldl (fun s q => upd s q.1 (q.2 : Int)) s = s
 | [], _, _ => rfl
 | q :: L, s, h => by
  rw [List.foldl_cons, h q (by simp)]
  exact fold_noop L s (fun y hy => h y (by simp [hy]))
/-- What is left out would have changed nothing. -/
theorem srchP_srch {τ : Type} (p : List Int → Nat → Bool) (u v : τ → List Int → Int → τ) (Inv : List Int → Nat → Prop) (n : Nat)
  (h0 : ∀ s xs (m : Nat), xs.length = n → Inv xs m → u s xs (m : Int) = v s xs (m : Int))
  (h1 : ∀ xs m (k : Nat), xs.length < n → k ≤ m → Inv xs m → p xs k = true → Inv (xs ++ [(k : Int)]) (max m (k + 1)))
  (h2 : ∀ xs m (k : Nat) d q, xs.length + (d + 1) = n → k ≤ m → Inv xs m → p xs k = false → q ∈ leaves d (xs ++ [(k : Int)]) (max m (k + 1)) → ∀ s, v s q.1 (q.2 : Int) = s) :
  ∀ (d : Nat) (xs : List Int) (m : Nat) (s : τ), xs.length + d = n → Inv xs m → srchP p u d xs m s = srch v d xs m s
 | 0, xs, m, s, hd, hi => h0 s xs m (by omega) hi
 | d + 1, xs, m, s, hd, hi => by
  unfold srchP srch
  refine foldl_eq s (fun k hk s => ?_)
  have hk := List.mem_range.1 hk
  cases hp : p xs k with
  | true =>
   rw [if_pos rfl]
   exact srchP_srch p u v Inv n h0 h1 h2 d _ _ s (by simp; omega) (h1 xs m k (by omega) (by omega) hi hp)
  | false =>
   rw [if_neg (by decide), srch_leaves]
   symm
   exact fold_noop _ s (fun q hq s => h2 xs m k d q hd (by omega) hi hp hq s)
theorem srchP_rel {τ υ : Type} (p : List Int → Nat → Bool) {u : τ → List Int → Int → τ} {v : υ → List Int → Int → υ} (Inv : List Int → Nat → Prop) (n : Nat) (R : τ → υ → Prop)
  (h : ∀ s t xs (m : Nat), R s t → xs.length = n → Inv xs m → R (u s xs (m : Int)) (v t xs (m : Int)))
  (h1 : ∀ xs m (k : Nat), xs.length < n → k ≤ m → Inv xs m → p xs k = true → Inv (xs ++ [(k : Int)]) (max m (k + 1))) :
  ∀ (d : Nat) (xs : List Int) (m : Nat) (s : τ) (t : υ), xs.length + d = n → Inv xs m → R s t → R (srchP p u d xs m s) (srchP p v d xs m t)
 | 0, xs, m, s, t, hd, hi, hr => h s t xs m hr (by omega) hi
 | d + 1, xs, m, s, t, hd, hi, hr => by
  unfold srchP
  have : ∀ (ks : List Nat), (∀ k ∈ ks, k < m + 1) → ∀ s t, R s t → R (ks.foldl (fun s (k : Nat) => if p xs k = true then srchP p u d (xs ++ [(k : Int)]) (max m (k + 1)) s else s) s) (ks.foldl (fun s (k : Nat) => if p xs k = true then srchP p v d (xs ++ [(k : Int)]) (max m (k + 1)) s else s) t) := by
   intro ks
   induction ks with
   | nil => intro _ s t hr; exact hr
   | cons k ks ik =>
    intro hk s t hr
    have hk0 := hk k (by simp)
    refine ik (fun x hx => hk x (by simp [hx])) _ _ ?_
    show R (if p xs k = true then _ else s) (if p xs k = true then _ else t)
    cases hp : p xs k with
    | true =>
     rw [if_pos rfl, if_pos rfl]
     exact srchP_rel p Inv n R h h1 d _ _ s t (by simp; omega) (h1 xs m k (by omega) (by omega) hi hp) hr
    | false => rw [if_neg (by decide), if_neg (by decide)]; exact hr
  exact this _ (fun k hk => by simpa using hk) s t hr
/-- What holds behind every whole list holds at the end, if a new number is always let by. -/
theorem srchP_end {τ : Type} (p : List Int → Nat → Bool) {u : τ → List Int → Int → τ} (Inv : List Int → Nat → Prop) (n : Nat) (P : τ → Prop) (h : ∀ s xs m, P (u s xs m))
  (h1 : ∀ xs m (k : Nat), xs.length < n → k ≤ m → Inv xs m → p xs k = true → Inv (xs ++ [(k : Int)]) (max m (k + 1)))
  (hp : ∀ xs m, xs.length < n → Inv xs m → p xs m = true) : ∀ (d : Nat) (xs : List Int) (m : Nat) (s : τ), xs.length + d = n → Inv xs m → P (srchP p u d xs m s)
 | 0, xs, m, s, _, _ => h _ _ _
 | d + 1, xs, m, s, hd, hi => by
  unfold srchP
  rw [List.range_succ, List.foldl_append, List.foldl_cons, List.foldl_nil, if_pos (hp xs m (by omega) hi)]
  exact srchP_end p Inv n P h h1 hp d _ _ _ (by simp; omega) (h1 xs m m (by omega) (by omega) hi (hp xs m (by omega) hi))
theorem grouped_prn {σ : Type} {may : Nat → List Int → Int → Option Bool} {p : List Int → Nat → Bool} {each : Nat → σ → List Int → Int → Option (Bool × σ)} {upd : σ → List Int → Int → σ} {n : Nat} (hn : n ≤ 100)
  (hmay : ∀ (xs : List Int) (k : Nat), xs.length < n → (∀ x ∈ xs, 0 ≤ x ∧ x < (n : Int)) → k ≤ xs.length → Ev (fun a => may a xs (k : Int)) (p xs k))
  (heach : ∀ s xs (m : Nat), xs.length = n → (∀ x ∈ xs, 0 ≤ x ∧ x < (n : Int)) → m ≤ n → Ev (fun k => each k s xs (m : Int)) (true, upd s xs (m : Int))) :
  ∀ (d : Nat) (xs : List Int) (m : Nat) (s : σ), xs.length + d = n → (∀ x ∈ xs, 0 ≤ x ∧ x < (n : Int)) → m ≤ xs.length → Ev2 (fun a b => impl_grouped_1.c (may a) (each a) (n : Int) b s xs (m : Int)) (true, srchP p upd d xs m s) := by
 intro d
 induction d with
 | zero =>
  intro xs m s hd hv hm
  refine Ev2.step (G := fun a _ => each a s xs (m : Int)) (fun a b => ?_) (Ev2.left (heach s xs m (by omega) hv (by omega)))
  simp only [impl_grouped_1.c]
  rw [if_pos (by omega)]
 | succ d ih =>
  intro xs m s hd hv hm
  have hw : wrap64 ((m : Int) + 1) = ((m + 1 : Nat) : Int) := by rw [wrap_sm (by omega) (by omega)]; omega
  refine Ev2.step (G := fun a b => impl_grouped_1.l0 (may a) (each a) (n : Int) b xs (m : Int) ((m + 1 : Nat) : Int) 0 s) (fun a b => ?_) ?_
  ·simp only [impl_grouped_1.c]
   rw [if_neg (by omega), hw]
  ·have loop : ∀ (e j : Nat), j + e = m + 1 → ∀ s, Ev2 (fun a b => impl_grouped_1.l0 (may a) (each a) (n : Int) b xs (m : Int) ((m + 1 : Nat) : Int) (j : Int) s) (true, ((List.range (m + 1)).drop j).foldl (fun s (k : Nat) => if p xs k = true then srchP p upd d (xs ++ [(k : Int)]) (max m (k + 1)) s else s) s) := by
    intro e
    induction e with
    | zero =>
     intro j hj s
     refine Ev2.step (G := fun _ _ => some (true, s)) (fun a b => ?_) (Ev2.eq (Ev2.now _) ?_)
     ·simp only [impl_grouped_1.l0]
      rw [if_neg (by omega)]
     ·rw [List.drop_eq_nil_of_le (by rw [List.length_range]; omega)]; rfl
    | succ e ie =>
     intro j hj s
     have hj1 : wrap64 ((j : Int) + 1) = ((j + 1 : Nat) : Int) := by rw [wrap_sm (by omega) (by omega)]; omega
     refine Ev2.step (G := fun a b => (may a xs (j : Int)).bind fun t => if t = true then ((impl_grouped_1.c (may a) (each a) (n : Int) b s (xs ++ [(j : Int)]) ((max m (j + 1) : Nat) : Int)).bind fun t => if t.1 = true then impl_grouped_1.l0 (may a) (each a) (n : Int) b xs (m : Int) ((m + 1 : Nat) : Int) ((j + 1 : Nat) : Int) t.2 else some (false, t.2)) else impl_grouped_1.l0 (may a) (each a) (n : Int) b xs (m : Int) ((m + 1 : Nat) : Int) ((j + 1 : Nat) : Int) s) (fun a b => ?_) ?_
     ·simp only [impl_grouped_1.l0]
      rw [if_pos (by omega), clone_list (by omega)]
      simp only [Option.bind_some]
      rw [if_pos (by simp; omega), hj1, mx_nat]
     ·refine Ev2.bind (Ev2.left (hmay xs j (by omega) hv (by omega))) ?_
      rw [range_drop (by omega), List.foldl_cons]
      cases hp : p xs j with
      | false =>
       simp only [Bool.false_eq_true, if_false]
       exact ie (j + 1) (by omega) s
      | true =>
       simp only [if_true]
       refine Ev2.bind (ih (xs ++ [(j : Int)]) (max m (j + 1)) s (by simp; omega) (fun x hx => by rcases List.mem_append.1 hx with h | h; exact hv x h; rw [List.mem_singleton] at h; omega) (by simp; omega)) ?_
       simp only [if_true]
       exact ie (j + 1) (by omega) _
   exact Ev2.eq (loop (m + 1) 0 (by omega) s) (by rw [List.drop_zero]; rfl)
end Go.Proofs.Ytdeipindfhkioaa.Pure
