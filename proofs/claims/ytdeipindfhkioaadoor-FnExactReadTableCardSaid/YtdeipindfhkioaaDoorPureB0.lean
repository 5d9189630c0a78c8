/- Plain lemmas: loops whose steps take rounds of their own. No memory, no Go. -/
import Derived.Test.YtdeipindfhkioaaDoorPure0
set_option linter.unusedVariables false
set_option linter.unusedSimpArgs false
namespace Go.Proofs.YtdeipindfhkioaaDoorMine
open Go.RowKit Go.Proofs.YtdeipindfhkioaaDoorW.PrintWords
/-- A loop that takes a state along; inv holds of the state at each place. -/
theorem fold_ev {α σ ρ : Type} (L : Nat → σ → Int → Option ρ) (x : List α) (z : α) (inv : Nat → σ → Prop) (g : σ → α → σ) (fin : σ → ρ)
  (hstep : ∀ m s, m < x.length → inv m s → inv (m + 1) (g s (x.getD m z)) ∧ ∀ r, Ev (fun k => L k (g s (x.getD m z)) ((m + 1 : Nat) : Int)) r → Ev (fun k => L k s (m : Int)) r)
  (hend : ∀ s, inv x.length s → Ev (fun k => L k s (x.length : Int)) (fin s)) : ∀ s, inv 0 s → Ev (fun k => L k s 0) (fin (x.foldl g s)) := by
 suffices hh : ∀ (d m : Nat), m + d = x.length → ∀ s, inv m s → Ev (fun k => L k s (m : Int)) (fin ((x.drop m).foldl g s)) from fun s hs => hh x.length 0 (by omega) s hs
 intro d
 induction d with
 | zero =>
  intro m hm s hs
  obtain rfl : m = x.length := by omega
  rw [List.drop_eq_nil_of_le (by omega)]
  exact hend s hs
 | succ d ih =>
  intro m hm s hs
  rw [drop_step z (by omega), List.foldl_cons]
  obtain ⟨h1, h2⟩ := hstep m s (by omega) hs
  exact h2 _ (ih (m + 1) (by omega) _ h1)
/-- A loop that ends where one element fails. -/
theorem all_ev {α ρ : Type} (L : Nat → Int → Option ρ) (x : List α) (z : α) (q : α → Bool) (no yes : ρ)
  (hno : ∀ m, m < x.length → q (x.getD m z) = false → Ev (fun k => L k (m : Int)) no)
  (hyes : ∀ m, m < x.length → q (x.getD m z) = true → ∀ r, Ev (fun k => L k ((m + 1 : Nat) : Int)) r → Ev (fun k => L k (m : Int)) r)
  (hend : x.all q = true → Ev (fun k => L k (x.length : Int)) yes) : Ev (fun k => L k 0) (if x.all q = true then yes else no) := by
 suffices hh : ∀ (d m : Nat), m + d = x.length → (x.take m).all q = true → Ev (fun k => L k (m : Int)) (if (x.drop m).all q = true then yes else no) from hh x.length 0 (by omega) rfl
 intro d
 induction d with
 | zero =>
  intro m hm ha
  obtain rfl : m = x.length := by omega
  rw [List.drop_eq_nil_of_le (by omega)]
  rw [List.take_length] at ha
  exact hend ha
 | succ d ih =>
  intro m hm ha
  rw [drop_step z (by omega), List.all_cons]
  cases hq : q (x.getD m z) with
  | true => exact hyes m (by omega) hq _ (Ev.eq (ih (m + 1) (by omega) (by rw [List.take_add_one, getD_ge (z := z) (by omega)]; simp only [List.all_append, ha, Option.toList_some, List.all_cons, hq, List.all_nil, Bool.and_self])) (by simp))
  | false => exact Ev.eq (hno m (by omega) hq) (by simp)
/-- A copy, element by element, into a list of as many places. -/
theorem fill_ev {α β : Type} (L : Nat → List β → Int → Option (List β)) (conv : α → β) (za : α) (zb : β) (x : List α)
  (hstep : ∀ m y, m < x.length → y.length = x.length → ∀ r, Ev (fun k => L k (y.set m (conv (x.getD m za))) ((m + 1 : Nat) : Int)) r → Ev (fun k => L k y (m : Int)) r)
  (hend : ∀ y, y.length = x.length → Ev (fun k => L k y (x.length : Int)) y) : Ev (fun k => L k (List.replicate x.length zb) 0) (x.map conv) := by
 suffices hh : ∀ (d m : Nat), m + d = x.length → ∀ y : List β, y.length = x.length → (∀ j, j < m → y[j]? = some (conv (x.getD j za))) → Ev (fun k => L k y (m : Int)) (x.map conv) from hh x.length 0 (by omega) _ (by simp) (fun j h => by omega)
 intro d
 induction d with
 | zero =>
  intro m hm y hy hj
  obtain rfl : m = x.length := by omega
  refine Ev.eq (hend y hy) ?_
  apply List.ext_getElem?
  intro j
  by_cases h : j < x.length
  ·rw [hj j h, List.getElem?_map, getD_ge (z := za) (by omega)]; rfl
  ·rw [List.getElem?_eq_none (by omega), List.getElem?_eq_none (by simp; omega)]
 | succ d ih =>
  intro m hm y hy hj
  refine hstep m y (by omega) hy _ (ih (m + 1) (by omega) _ (by simp [hy]) (fun j h => ?_))
  by_cases e : j = m
  ·subst e; rw [List.getElem?_set_self (by omega)]
  ·rw [List.getElem?_set_ne (by omega)]; exact hj j (by omega)
/-- What is built by appending one element after the other. -/
theorem build_ev {α β ρ : Type} (L : Nat → List β → Int → Option ρ) (x : List α) (z : α) (conv : α → β) (fin : List β → ρ)
  (hstep : ∀ m s, m < x.length → s.length = m → ∀ r, Ev (fun k => L k (s ++ [conv (x.getD m z)]) ((m + 1 : Nat) : Int)) r → Ev (fun k => L k s (m : Int)) r)
  (hend : Ev (fun k => L k (x.map conv) (x.length : Int)) (fin (x.map conv))) : Ev (fun k => L k [] 0) (fin (x.map conv)) := by
 suffices hh : ∀ (d m : Nat), m + d = x.length → Ev (fun k => L k ((x.take m).map conv) (m : Int)) (fin (x.map conv)) from hh x.length 0 (by omega)
 intro d
 induction d with
 | zero =>
  intro m hm
  obtain rfl : m = x.length := by omega
  rw [List.take_length]; exact hend
 | succ d ih =>
  intro m hm
  refine hstep m _ (by omega) (by simp; omega) _ (Ev.eq (Ev.congr (fun k => ?_) (ih (m + 1) (by omega))) rfl)
  rw [List.take_add_one, getD_ge (z := z) (by omega)]
  simp
/-- A fold that knows the place. -/
def foldi {α σ : Type} (g : Nat → σ → α → σ) : Nat → List α → σ → σ
 | _, [], s => s
 | m, y :: ys, s => foldi g (m + 1) ys (g m s y)
theorem foldi_rel {α σ τ : Type} {g : Nat → σ → α → σ} {g' : Nat → τ → α → τ} (R : σ → τ → Prop) : ∀ (l : List α) (m : Nat) (s : σ) (t : τ), (∀ m s t y, y ∈ l → R s t → R (g m s y) (g' m t y)) → R s t → R (foldi g m l s) (foldi g' m l t)
 | [], _, _, _, _, h => h
 | y :: ys, m, s, t, hs, h => foldi_rel R ys (m + 1) _ _ (fun m s t y hy => hs m s t y (List.mem_cons_of_mem _ hy)) (hs m s t y List.mem_cons_self h)
theorem foldi_inv {α σ : Type} {g : Nat → σ → α → σ} (P : σ → Prop) : ∀ (l : List α) (m : Nat) (s : σ), (∀ m s y, y ∈ l → P s → P (g m s y)) → P s → P (foldi g m l s)
 | [], _, _, _, h => h
 | y :: ys, m, s, hs, h => foldi_inv P ys (m + 1) _ (fun m s y hy => hs m s y (List.mem_cons_of_mem _ hy)) (hs m s y List.mem_cons_self h)
/-- A loop that takes a state along from some place on, and what follows it. -/
theorem fold_from {α σ ρ : Type} (L : Nat → σ → Int → Option ρ) (x : List α) (z : α) (P : Nat → σ → Prop) (g : Nat → σ → α → σ) (r : ρ) (a : Nat) (ha : a ≤ x.length)
  (hstep : ∀ m s, a ≤ m → m < x.length → P m s → P (m + 1) (g m s (x.getD m z)) ∧ ∀ r, Ev (fun k => L k (g m s (x.getD m z)) ((m + 1 : Nat) : Int)) r → Ev (fun k => L k s (m : Int)) r)
  (s0 : σ) (h0 : P a s0) (hend : P x.length (foldi g a (x.drop a) s0) → Ev (fun k => L k (foldi g a (x.drop a) s0) (x.length : Int)) r) : Ev (fun k => L k s0 (a : Int)) r := by
 suffices hh : ∀ (d m : Nat), m + d = x.length → a ≤ m → ∀ s, P m s → (P x.length (foldi g m (x.drop m) s) → Ev (fun k => L k (foldi g m (x.drop m) s) (x.length : Int)) r) → Ev (fun k => L k s (m : Int)) r from hh (x.length - a) a (by omega) (by omega) s0 h0 hend
 intro d
 induction d with
 | zero =>
  intro m hm _ s hs he
  obtain rfl : m = x.length := by omega
  rw [List.drop_eq_nil_of_le (by omega)] at he
  exact he hs
 | succ d ih =>
  intro m hm hma s hs he
  rw [drop_step z (by omega)] at he
  obtain ⟨h1, h2⟩ := hstep m s hma (by omega) hs
  exact h2 _ (ih (m + 1) (by omega) (by omega) _ h1 he)
/-- A loop that takes a state along, and what follows it. -/
theorem fold_in {α σ ρ : Type} (L : Nat → σ → Int → Option ρ) (x : List α) (z : α) (P : Nat → σ → Prop) (g : Nat → σ → α → σ) (r : ρ)
  (hstep : ∀ m s, m < x.length → P m s → P (m + 1) (g m s (x.getD m z)) ∧ ∀ r, Ev (fun k => L k (g m s (x.getD m z)) ((m + 1 : Nat) : Int)) r → Ev (fun k => L k s (m : Int)) r)
  (s0 : σ) (h0 : P 0 s0) (hend : P x.length (foldi g 0 x s0) → Ev (fun k => L k (foldi g 0 x s0) (x.length : Int)) r) : Ev (fun k => L k s0 0) r :=
 fold_from L x z P g r 0 (by omega) (fun m s _ => hstep m s) s0 h0 hend
theorem foldi_foldl {α σ : Type} (g : σ → α → σ) : ∀ (l : List α) (m : Nat) (s : σ), foldi (fun _ => g) m l s = l.foldl g s
 | [], _, _ => rfl
 | y :: ys, m, s => foldi_foldl g ys (m + 1) (g s y)
/-- A question put to each place from a on. -/
def allIx (a n : Nat) (q : Nat → Bool) : Bool := (List.range' a (n - a)).all q
theorem allIx_iff {a n : Nat} {q : Nat → Bool} : allIx a n q = true ↔ ∀ i, a ≤ i → i < n → q i = true := by
 unfold allIx
 simp only [List.all_eq_true, List.mem_range'_1]
 exact ⟨fun h i h0 h1 => h i ⟨h0, by omega⟩, fun h i hi => h i hi.1 (by omega)⟩
theorem all_ix {ρ : Type} (L : Nat → Int → Option ρ) (n : Nat) (q : Nat → Bool) (no yes : ρ) (a : Nat)
  (hno : ∀ m, a ≤ m → m < n → q m = false → Ev (fun k => L k (m : Int)) no)
  (hyes : ∀ m, a ≤ m → m < n → q m = true → ∀ r, Ev (fun k => L k ((m + 1 : Nat) : Int)) r → Ev (fun k => L k (m : Int)) r)
  (hend : ∀ m, n ≤ m → a ≤ m → (m = n ∨ m = a) → allIx a n q = true → Ev (fun k => L k (m : Int)) yes) : Ev (fun k => L k (a : Int)) (if allIx a n q = true then yes else no) := by
 suffices hh : ∀ (d m : Nat), m + d = n → a ≤ m → (∀ i, a ≤ i → i < m → q i = true) → Ev (fun k => L k (m : Int)) (if allIx a n q = true then yes else no) by
  by_cases h : a ≤ n
  ·exact hh (n - a) a (by omega) (by omega) (fun i h0 h1 => by omega)
  ·have : allIx a n q = true := allIx_iff.2 (fun i h0 h1 => by omega)
   rw [if_pos this]; exact hend a (by omega) (by omega) (.inr rfl) this
 intro d
 induction d with
 | zero =>
  intro m hm ha hq
  have : allIx a n q = true := allIx_iff.2 (fun i h0 h1 => hq i h0 (by omega))
  rw [if_pos this]; exact hend m (by omega) ha (.inl (by omega)) this
 | succ d ih =>
  intro m hm ha hq
  cases hqm : q m with
  | true => exact hyes m ha (by omega) hqm _ (ih (m + 1) (by omega) (by omega) (fun i h0 h1 => if e : i = m then e ▸ hqm else hq i h0 (by omega)))
  | false =>
   have : ¬ allIx a n q = true := fun h => by rw [allIx_iff.1 h m ha (by omega)] at hqm; cases hqm
   rw [if_neg this]; exact hno m ha (by omega) hqm
/-- The first place at which q holds, or -1. -/
theorem find_ev {α : Type} (L : Nat → Int → Option Int) (x : List α) (z : α) (q : α → Bool)
  (hit : ∀ m, m < x.length → q (x.getD m z) = true → Ev (fun k => L k (m : Int)) (m : Int))
  (miss : ∀ m, m < x.length → q (x.getD m z) = false → ∀ r, Ev (fun k => L k ((m + 1 : Nat) : Int)) r → Ev (fun k => L k (m : Int)) r)
  (hend : Ev (fun k => L k (x.length : Int)) (-1)) : Ev (fun k => L k 0) (findI q x) := by
 suffices hh : ∀ (d m : Nat), m + d = x.length → Ev (fun k => L k (m : Int)) (if findI q (x.drop m) < 0 then -1 else findI q (x.drop m) + (m : Int)) by
  refine Ev.eq (hh x.length 0 (by omega)) ?_
  have := findI_lo q x
  rw [List.drop_zero]
  split <;> omega
 intro d
 induction d with
 | zero =>
  intro m hm
  obtain rfl : m = x.length := by omega
  rw [List.drop_eq_nil_of_le (by omega)]
  exact hend
 | succ d ih =>
  intro m hm
  rw [drop_step z (by omega)]
  have hlo := findI_lo q (x.drop (m + 1))
  unfold findI
  cases hq : q (x.getD m z) with
  | true => exact Ev.eq (hit m (by omega) hq) (by simp)
  | false =>
   refine Ev.eq (miss m (by omega) hq _ (ih (m + 1) (by omega))) ?_
   simp only [Bool.false_eq_true, if_false]
   by_cases h : findI q (x.drop (m + 1)) < 0
   ·rw [if_pos h, if_pos h, if_pos (by omega)]
   ·rw [if_neg h, if_neg h, if_neg (by omega)]; omega
theorem findI_hi {α : Type} (q : α → Bool) : ∀ (l : List α), findI q l ≤ (l.length : Int) - 1
 | [] => by simp [findI]
 | y :: ys => by
  have h := findI_hi q ys
  unfold findI
  simp only [List.length_cons]
  split
  ·omega
  ·split <;> omega
/-- Where the answers come in rounds. -/
theorem ev_mem {α β : Type} {p : Nat → α → Option β} {q : α → β} : ∀ l : List α, (∀ x ∈ l, Ev (fun k => p k x) (q x)) → ∃ K, ∀ k, K ≤ k → ∀ x ∈ l, p k x = some (q x)
 | [], _ => ⟨0, fun _ _ x hx => by simp at hx⟩
 | y :: ys, h => by
  obtain ⟨K, hK⟩ := ev_mem ys (fun x hx => h x (List.mem_cons_of_mem _ hx))
  obtain ⟨K', hK'⟩ := h y List.mem_cons_self
  refine ⟨max K K', fun k hk x hx => ?_⟩
  rcases List.mem_cons.1 hx with rfl | hx
  ·exact hK' k (by omega)
  ·exact hK k (by omega) x hx
theorem anyO_ev {α : Type} {p : Nat → α → Option Bool} {q : α → Bool} (l : List α) (h : ∀ x ∈ l, Ev (fun k => p k x) (q x)) : Ev (fun k => anyO (p k) l) (l.any q) := by
 obtain ⟨K, hK⟩ := ev_mem l h
 exact ⟨K, fun k hk => anyO_of l (hK k hk)⟩
theorem findO_ev {α : Type} {p : Nat → α → Option Bool} {q : α → Bool} (l : List α) (h : ∀ x ∈ l, Ev (fun k => p k x) (q x)) : Ev (fun k => findO (p k) l) (findI q l) := by
 obtain ⟨K, hK⟩ := ev_mem l h
 exact ⟨K, fun k hk => findO_of l (hK k hk)⟩
theorem all_getD {α : Type} (z : α) (q : α → Bool) (l : List α) : l.all q = allIx 0 l.length (fun i => q (l.getD i z)) := by
 apply Bool.eq_iff_iff.2
 rw [List.all_eq_true, allIx_iff]
 constructor
 ·intro h i _ hi; exact h _ (get_mem z hi).1
 ·intro h x hx
  obtain ⟨i, hi, e⟩ := List.getElem_of_mem hx
  have := h i (by omega) hi
  rwa [List.getD_eq_getElem?_getD, List.getElem?_eq_getElem hi, Option.getD_some, e] at this
def wfInt64 (x : Int) : Prop := (Lit.int .i64 x).wf = true
def wfInt16 (x : Int) : Prop := (Lit.int .i16 x).wf = true
def inI (n : Int) : Prop := -9223372036854775808 ≤ n ∧ n ≤ 9223372036854775807
theorem inI_wrap (n : Int) : inI (wrap64 n) := by unfold inI wrap64; omega
theorem wrap_in {n : Int} (h : inI n) : wrap64 n = n := wrap_id h.1 h.2
end Go.Proofs.YtdeipindfhkioaaDoorMine
