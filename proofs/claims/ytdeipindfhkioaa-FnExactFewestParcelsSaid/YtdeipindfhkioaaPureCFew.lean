/- The first list with the fewest numbers: the program's search by 'most' and the reference's search for the least. -/
import Derived.Test.YtdeipindfhkioaaQ5
import Derived.Test.YtdeipindfhkioaaPureCGrp
set_option linter.unusedVariables false
set_option linter.unusedSimpArgs false
namespace Go.Proofs.Ytdeipindfhkioaa.Pure
open Go.RowKit Go.Proofs.Ytdeipindfhkioaa.Q Go.Proofs.YtdeipindfhkioaaMine Go.Proofs.YtdeipindfhkioaaW.PrintWords Go.Proofs.YtdeipindfhkioaaW.PrintMore
/-- The lists that a search goes through, each with its greatest number and one. -/
def leaves : Nat → List Int → Nat → List (List Int × Nat)
 | 0, xs, m => [(xs, m)]
 | d + 1, xs, m => (List.range (m + 1)).flatMap (fun (k : Nat) => leaves d (xs ++ [(k : Int)]) (max m (k + 1)))
theorem srch_leaves {τ : Type} (upd : τ → List Int → Int → τ) : ∀ (d : Nat) (xs : List Int) (m : Nat) (s : τ), srch upd d xs m s = (leaves d xs m).foldl (fun s p => upd s p.1 (p.2 : Int)) s
 | 0, xs, m, s => rfl
 | d + 1, xs, m, s => by
  unfold srch leaves
  have : ∀ (ks : List Nat) (s : τ), ks.foldl (fun s (k : Nat) => srch upd d (xs ++ [(k : Int)]) (max m (k + 1)) s) s = (ks.flatMap (fun (k : Nat) => leaves d (xs ++ [(k : Int)]) (max m (k + 1)))).foldl (fun s p => upd s p.1 (p.2 : Int)) s := by
   intro ks
   induction ks with
   | nil => intro s; rfl
   | cons k ks ih =>
    intro s
    rw [List.foldl_cons, List.flatMap_cons, List.foldl_append, ih, srch_leaves upd d]
  exact this _ s
theorem leaf_of : ∀ (d : Nat) (xs : List Int) (m : Nat) (q : List Int × Nat), q ∈ leaves d xs m → ∃ zs : List Int, q.1 = xs ++ zs ∧ zs.length = d ∧ m ≤ q.2 ∧ (m ≤ xs.length → q.2 ≤ xs.length + d)
 | 0, xs, m, q, h => by
  obtain rfl : q = (xs, m) := by simpa [leaves] using h
  exact ⟨[], by simp, rfl, Nat.le_refl _, fun h => by simpa using h⟩
 | d + 1, xs, m, q, h => by
  unfold leaves at h
  obtain ⟨k, hk, h⟩ := List.mem_flatMap.1 h
  obtain ⟨zs, h1, h2, h3, h4⟩ := leaf_of d _ _ q h
  have hk := List.mem_range.1 hk
  refine ⟨(k : Int) :: zs, by rw [h1]; simp, by simp [h2], by omega, fun hm => ?_⟩
  have := h4 (by simp; omega)
  simp at this; omega
/-- The first list whose every step is let by. -/
def fnd (p : List Int → Nat → Bool) : Nat → List Int → Nat → Option (List Int × Nat)
 | 0, xs, m => some (xs, m)
 | d + 1, xs, m => (List.range (m + 1)).findSome? (fun (k : Nat) => if p xs k = true then fnd p d (xs ++ [(k : Int)]) (max m (k + 1)) else none)
theorem find_flat {α β : Type} (G : β → Bool) (f : α → List β) : ∀ ks : List α, (ks.flatMap f).find? G = ks.findSome? (fun k => (f k).find? G)
 | [] => rfl
 | k :: ks => by
  rw [List.flatMap_cons, List.find?_append, find_flat G f ks, List.findSome?_cons]
  cases (f k).find? G <;> rfl
theorem findSome_eq {α β : Type} {f g : α → Option β} : ∀ {ks : List α}, (∀ k ∈ ks, f k = g k) → ks.findSome? f = ks.findSome? g
 | [], _ => rfl
 | k :: ks, h => by
  rw [List.findSome?_cons, List.findSome?_cons, h k (by simp), findSome_eq (fun x hx => h x (by simp [hx]))]
theorem fnd_leaves (p : List Int → Nat → Bool) (G : List Int × Nat → Bool) (Inv : List Int → Nat → Prop) (n : Nat)
  (h0 : ∀ xs m, xs.length = n → Inv xs m → G (xs, m) = true)
  (h1 : ∀ xs m k, xs.length < n → k ≤ m → Inv xs m → p xs k = true → Inv (xs ++ [(k : Int)]) (max m (k + 1)))
  (h2 : ∀ xs m k d q, xs.length + (d + 1) = n → k ≤ m → Inv xs m → p xs k = false → q ∈ leaves d (xs ++ [(k : Int)]) (max m (k + 1)) → G q = false) :
  ∀ (d : Nat) (xs : List Int) (m : Nat), xs.length + d = n → Inv xs m → fnd p d xs m = (leaves d xs m).find? G
 | 0, xs, m, hd, hi => by
  unfold fnd leaves
  rw [List.find?_cons, h0 xs m (by omega) hi]
 | d + 1, xs, m, hd, hi => by
  unfold fnd leaves
  rw [find_flat]
  refine findSome_eq (fun k hk => ?_)
  have hk := List.mem_range.1 hk
  cases hp : p xs k with
  | true =>
   rw [if_pos rfl]
   exact fnd_leaves p G Inv n h0 h1 h2 d _ _ (by simp; omega) (h1 xs m k (by omega) (by omega) hi hp)
  | false =>
   rw [if_neg (by decide)]
   symm
   rw [List.find?_eq_none]
   intro q hq
   rw [h2 xs m k d q hd (by omega) hi hp hq]
   decide
/-- What the search hands back. -/
def outF (s : List Int × Bool) : Option (List Int × Nat) → Bool × (List Int × Bool)
 | some q => (false, (q.1, true))
 | none => (true, s)
theorem grouped_find {may : Nat → List Int → Int → Option Bool} {p : List Int → Nat → Bool} {n : Nat} (hn : n ≤ 100) (hmay : ∀ (xs : List Int) (k : Nat), xs.length < n → (∀ x ∈ xs, 0 ≤ x ∧ x < (n : Int)) → k ≤ xs.length → Ev (fun a => may a xs (k : Int)) (p xs k)) :
  ∀ (d : Nat) (xs : List Int) (m : Nat) (s : List Int × Bool), xs.length + d = n → (∀ x ∈ xs, 0 ≤ x ∧ x < (n : Int)) → m ≤ xs.length → Ev2 (fun a b => impl_grouped_1.c (may a) f8z.each (n : Int) b s xs (m : Int)) (outF s (fnd p d xs m)) := by
 intro d
 induction d with
 | zero =>
  intro xs m s hd hv hm
  refine Ev2.step (G := fun _ _ => some (false, (xs, true))) (fun a b => ?_) (Ev2.now _)
  simp only [impl_grouped_1.c, f8z.each]
  rw [if_pos (by omega)]
 | succ d ih =>
  intro xs m s hd hv hm
  have hw : wrap64 ((m : Int) + 1) = ((m + 1 : Nat) : Int) := by rw [wrap_sm (by omega) (by omega)]; omega
  refine Ev2.step (G := fun a b => impl_grouped_1.l0 (may a) f8z.each (n : Int) b xs (m : Int) ((m + 1 : Nat) : Int) 0 s) (fun a b => ?_) ?_
  ·simp only [impl_grouped_1.c]
   rw [if_neg (by omega), hw]
  ·have loop : ∀ (e j : Nat), j + e = m + 1 → Ev2 (fun a b => impl_grouped_1.l0 (may a) f8z.each (n : Int) b xs (m : Int) ((m + 1 : Nat) : Int) (j : Int) s) (outF s (((List.range (m + 1)).drop j).findSome? (fun (k : Nat) => if p xs k = true then fnd p d (xs ++ [(k : Int)]) (max m (k + 1)) else none))) := by
    intro e
    induction e with
    | zero =>
     intro j hj
     refine Ev2.step (G := fun _ _ => some (true, s)) (fun a b => ?_) (Ev2.eq (Ev2.now _) ?_)
     ·simp only [impl_grouped_1.l0]
      rw [if_neg (by omega)]
     ·rw [List.drop_eq_nil_of_le (by rw [List.length_range]; omega)]; rfl
    | succ e ie =>
     intro j hj
     have hj1 : wrap64 ((j : Int) + 1) = ((j + 1 : Nat) : Int) := by rw [wrap_sm (by omega) (by omega)]; omega
     refine Ev2.step (G := fun a b => (may a xs (j : Int)).bind fun t => if t = true then ((impl_grouped_1.c (may a) f8z.each (n : Int) b s (xs ++ [(j : Int)]) ((max m (j + 1) : Nat) : Int)).bind fun t => if t.1 = true then impl_grouped_1.l0 (may a) f8z.each (n : Int) b xs (m : Int) ((m + 1 : Nat) : Int) ((j + 1 : Nat) : Int) t.2 else some (false, t.2)) else impl_grouped_1.l0 (may a) f8z.each (n : Int) b xs (m : Int) ((m + 1 : Nat) : Int) ((j + 1 : Nat) : Int) s) (fun a b => ?_) ?_
     ·simp only [impl_grouped_1.l0]
      rw [if_pos (by omega), clone_list (by omega)]
      simp only [Option.bind_some]
      rw [if_pos (by simp; omega), hj1, mx_nat]
     ·refine Ev2.bind (Ev2.left (hmay xs j (by omega) hv (by omega))) ?_
      rw [range_drop (by omega), List.findSome?_cons]
      cases hp : p xs j with
      | false =>
       simp only [Bool.false_eq_true, if_false]
       exact ie (j + 1) (by omega)
      | true =>
       simp only [if_true]
       refine Ev2.bind (ih (xs ++ [(j : Int)]) (max m (j + 1)) s (by simp; omega) (fun x hx => by rcases List.mem_append.1 hx with h | h; exact hv x h; rw [List.mem_singleton] at h; omega) (by simp; omega)) ?_
       cases hf : fnd p d (xs ++ [(j : Int)]) (max m (j + 1)) with
       | some q =>
        simp only [outF, Bool.false_eq_true, if_false]
        exact Ev2.now _
       | none =>
        simp only [outF, if_true]
        exact ie (j + 1) (by omega)
   exact Ev2.eq (loop (m + 1) 0 (by omega)) (by rw [List.drop_zero]; rfl)
/-- A list costs how many numbers it has, if the test lets it by. -/
def cT (T : List Int → Nat → Bool) (xs : List Int) (m : Int) : Int × Bool := if T xs m.toNat = true then (m, true) else (0, false)
theorem fold_none (T : List Int → Nat → Bool) : ∀ (L : List (List Int × Nat)) (s : List Int × Int × Bool), (∀ x ∈ L, T x.1 x.2 = false) → L.foldl (fun s p => updS (cT T) s p.1 (p.2 : Int)) s = s
 | [], s, _ => rfl
 | x :: L, s, h => by
  rw [List.foldl_cons]
  have : updS (cT T) s x.1 (x.2 : Int) = s := by
   unfold updS cT
   rw [Int.toNat_natCast, h x (by simp)]
   rfl
  rw [this]
  exact fold_none T L s (fun y hy => h y (by simp [hy]))
theorem fold_keep (T : List Int → Nat → Bool) (most : Nat) (ys : List Int) : ∀ (L : List (List Int × Nat)), (∀ x ∈ L, T x.1 x.2 = true → most ≤ x.2) → L.foldl (fun s p => updS (cT T) s p.1 (p.2 : Int)) (ys, (most : Int), true) = (ys, (most : Int), true)
 | [], _ => rfl
 | x :: L, h => by
  rw [List.foldl_cons]
  have : updS (cT T) (ys, (most : Int), true) x.1 (x.2 : Int) = (ys, (most : Int), true) := by
   unfold updS cT
   rw [Int.toNat_natCast]
   cases ht : T x.1 x.2 with
   | false => rfl
   | true =>
    have := h x (by simp) ht
    simp only [if_true]
    rw [if_neg (by omega)]
  rw [this]
  exact fold_keep T most ys L (fun y hy => h y (by simp [hy]))
theorem fold_first (T : List Int → Nat → Bool) (most : Nat) (q : List Int × Nat) : ∀ (L : List (List Int × Nat)) (s : List Int × Int × Bool), (∀ x ∈ L, T x.1 x.2 = true → most ≤ x.2) → L.find? (fun x => decide (x.2 ≤ most) && T x.1 x.2) = some q → (s.2.2 = true → (most : Int) < s.2.1) →
  L.foldl (fun s p => updS (cT T) s p.1 (p.2 : Int)) s = (q.1, (most : Int), true)
 | [], s, _, hf, _ => by cases hf
 | x :: L, s, h, hf, hs => by
  rw [List.foldl_cons]
  have hx := h x (by simp)
  have hL : ∀ y ∈ L, T y.1 y.2 = true → most ≤ y.2 := fun y hy => h y (by simp [hy])
  rw [List.find?_cons] at hf
  cases ht : T x.1 x.2 with
  | false =>
   have hu : updS (cT T) s x.1 (x.2 : Int) = s := by
    unfold updS cT
    rw [Int.toNat_natCast, ht]
    rfl
   rw [hu]
   rw [ht, Bool.and_false] at hf
   exact fold_first T most q L s hL hf hs
  | true =>
   have h1 := hx ht
   rw [ht, Bool.and_true] at hf
   by_cases hq : x.2 ≤ most
   ·rw [decide_eq_true hq] at hf
    obtain rfl : x = q := by simpa using hf
    have hu : updS (cT T) s x.1 (x.2 : Int) = (x.1, (most : Int), true) := by
     unfold updS cT
     rw [Int.toNat_natCast, ht, show x.2 = most by omega]
     simp only [if_true]
     by_cases c : s.2.2 = true
     ·rw [if_pos c, if_pos (hs c)]
     ·rw [if_neg c]
    rw [hu]
    exact fold_keep T most x.1 L hL
   ·rw [decide_eq_false hq] at hf
    refine fold_first T most q L _ hL hf (fun hc => ?_)
    revert hc
    unfold updS cT
    rw [Int.toNat_natCast, ht]
    simp only [if_true]
    by_cases c : s.2.2 = true
    ·rw [if_pos c]
     split
     ·intro _; show (most : Int) < (x.2 : Int); omega
     ·intro _; exact hs c
    ·rw [if_neg c]
     intro _; show (most : Int) < (x.2 : Int); omega
/-- All numbers' shares are let by. -/
def allT (Ok : List Int → Nat → Bool) (xs : List Int) (m : Nat) : Bool := (List.range m).all (Ok xs)
/-- The reference's best list. -/
def bestF (Ok : List Int → Nat → Bool) (n : Nat) : List Int × Int × Bool := srch (updS (cT (allT Ok))) n [] 0 ([], 0, false)
theorem few_all {may : Nat → List Int → Int → Option Bool} {Ok : List Int → Nat → Bool} {n : Nat} (hn : n ≤ 100)
  (hmay : ∀ (xs : List Int) (k : Nat), xs.length < n → (∀ x ∈ xs, 0 ≤ x ∧ x < (n : Int)) → k ≤ xs.length → Ev (fun a => may a xs (k : Int)) (Ok (xs ++ [(k : Int)]) k))
  (hnil : ∀ k, Ok [] k = true) (hmono : ∀ (xs zs : List Int) k, xs.length + zs.length ≤ n → Ok (xs ++ zs) k = true → Ok xs k = true)
  (hoth : ∀ (xs : List Int) (j k : Nat), xs.length < n → j ≠ k → Ok xs k = true → Ok (xs ++ [(j : Int)]) k = true) :
  Ev (fun k => f8z.f (may k) k (n : Int)) (if (bestF Ok n).2.2 = true then ((bestF Ok n).1, (bestF Ok n).2.1, true) else ([], 0, false)) := by
 unfold f8z.f
 refine Ev2.diag (F := fun a b => f8z.l0 (may a) b (n : Int) 0) ?_
 have hb : bestF Ok n = (leaves n [] 0).foldl (fun s p => updS (cT (allT Ok)) s p.1 (p.2 : Int)) ([], 0, false) := srch_leaves _ _ _ _ _
 have loop : ∀ (e most : Nat), most + e = n + 1 → (∀ q ∈ leaves n [] 0, allT Ok q.1 q.2 = true → most ≤ q.2) → Ev2 (fun a b => f8z.l0 (may a) b (n : Int) (most : Int)) (if (bestF Ok n).2.2 = true then ((bestF Ok n).1, (bestF Ok n).2.1, true) else ([], 0, false)) := by
  intro e
  induction e with
  | zero =>
   intro most hm hmin
   refine Ev2.step (G := fun _ _ => some ([], 0, false)) (fun a b => ?_) (Ev2.eq (Ev2.now _) ?_)
   ·simp only [f8z.l0]
    rw [if_neg (by omega)]
   ·rw [hb, fold_none _ _ _ (fun x hx => ?_)]
    ·rfl
    ·cases ht : allT Ok x.1 x.2 with
     | false => rfl
     | true =>
      have h1 := hmin x hx ht
      obtain ⟨_, _, _, _, h2⟩ := leaf_of _ _ _ _ hx
      have := h2 (by simp)
      simp at this; omega
  | succ e ih =>
   intro most hm hmin
   have hw : wrap64 ((most : Int) + 1) = ((most + 1 : Nat) : Int) := by rw [wrap_sm (by omega) (by omega)]; omega
   have hf : fnd (fun xs (k : Nat) => decide (k < most) && Ok (xs ++ [(k : Int)]) k) n [] 0 = (leaves n [] 0).find? (fun x => decide (x.2 ≤ most) && allT Ok x.1 x.2) := by
    refine fnd_leaves _ _ (fun xs m => m ≤ most ∧ ∀ k, Ok xs k = true) n (fun xs m hx hi => ?_) (fun xs m k hx hk hi hp => ?_) (fun xs m k d q hx hk hi hp hq => ?_) n [] 0 (by simp) ⟨by omega, hnil⟩
    ·rw [Bool.and_eq_true, decide_eq_true_eq]
     exact ⟨hi.1, List.all_eq_true.2 (fun k _ => hi.2 k)⟩
    ·rw [Bool.and_eq_true, decide_eq_true_eq] at hp
     refine ⟨by have := hi.1; omega, fun j => ?_⟩
     by_cases c : k = j
     ·rw [← c]; exact hp.2
     ·exact hoth xs k j hx c (hi.2 j)
    ·obtain ⟨zs, h1, h2, h3, _⟩ := leaf_of _ _ _ _ hq
     by_cases c : k < most
     ·rw [decide_eq_true c, Bool.true_and] at hp
      cases ht : allT Ok q.1 q.2 with
      | false => rw [Bool.and_false]
      | true =>
       have h4 := (List.all_eq_true.1 ht) k (List.mem_range.2 (by omega))
       rw [h1] at h4
       rw [hmono (xs ++ [(k : Int)]) zs k (by simp; omega) h4] at hp
       cases hp
     ·rw [decide_eq_false (by omega), Bool.false_and]
   have hg : Ev2 (fun a b => f8z.go (may a) b (n : Int) (most : Int)) (outF ([], false) (fnd (fun xs (k : Nat) => decide (k < most) && Ok (xs ++ [(k : Int)]) k) n [] 0)).2 := by
    unfold f8z.go
    refine Ev2.bind (grouped_find (may := fun a => f8z.may (may a) (most : Int)) hn (fun xs k hx hv hk => ?_) n [] 0 ([], false) (by simp) (by simp) (by simp)) (Ev2.now _)
    unfold f8z.may
    by_cases c : k < most
    ·rw [decide_eq_true c, Bool.true_and]
     simp only [if_pos (show (k : Int) < (most : Int) by omega)]
     exact hmay xs k hx hv hk
    ·rw [decide_eq_false c, Bool.false_and]
     simp only [if_neg (show ¬ (k : Int) < (most : Int) by omega)]
     exact Ev.now _
   refine Ev2.step (G := fun a b => (f8z.go (may a) b (n : Int) (most : Int)).bind fun bt => if bt.2 = true then some (bt.1, (most : Int), true) else f8z.l0 (may a) b (n : Int) ((most + 1 : Nat) : Int)) (fun a b => ?_) (Ev2.bind hg ?_)
   ·simp only [f8z.l0]
    rw [if_pos (by omega), hw]
   ·rw [hf]
    cases hq : (leaves n [] 0).find? (fun x => decide (x.2 ≤ most) && allT Ok x.1 x.2) with
    | some q =>
     simp only [outF, if_true]
     refine Ev2.eq (Ev2.now _) ?_
     rw [hb, fold_first _ most q _ _ hmin hq (fun h => by cases h)]
     rfl
    | none =>
     simp only [outF, Bool.false_eq_true, if_false]
     refine ih (most + 1) (by omega) (fun q hq2 ht => ?_)
     have h1 := hmin q hq2 ht
     have h2 := List.find?_eq_none.1 hq q hq2
     rw [ht, Bool.and_true] at h2
     simp at h2; omega
 exact loop (n + 1) 0 (by omega) (fun q _ _ => by omega)
end Go.Proofs.Ytdeipindfhkioaa.Pure
