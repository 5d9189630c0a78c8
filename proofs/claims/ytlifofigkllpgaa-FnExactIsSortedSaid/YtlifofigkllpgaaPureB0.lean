/- Plain lemmas: loops whose steps take rounds of their own. No memory, no Go. -/
import Derived.Test.YtlifofigkllpgaaPure0
set_option linter.unusedVariables false
set_option linter.unusedSimpArgs false
namespace Go.Proofs.YtlifofigkllpgaaMine
open Go.RowKit Go.Proofs.YtlifofigkllpgaaW.PrintWords
/-- A loop that takes a state along; inv holds of the state at each place. -/
theorem fold_ev {α σ ρ : Type} (L : Nat → σ → Int → Option ρ) (x : List α) (z : α) (inv : Nat → σ → Prop) (g : σ → α → σ) (fin : σ → ρ)
    (hstep : ∀ m s, m < x.length → inv m s → inv (m + 1) (g s (x.getD m z)) ∧ ∀ r, Ev (fun k => L k (g s (x.getD m z)) ((m + 1 : Nat) : Int)) r → Ev (fun k => L k s (m : Int)) r)
    (hend : ∀ s, inv x.length s → Ev (fun k => L k s (x.length : Int)) (fin s)) : ∀ s, inv 0 s → Ev (fun k => L k s 0) (fin (x.foldl g s)) := by
  suffices hh : ∀ (d m : Nat), m + d = x.length → ∀ s, inv m s → Ev (fun k => L k s (m : Int)) (fin ((x.drop m).foldl g s)) from fun s hs => hh x.length 0 (by omega) s hs
  intro d
  induction d with
  | zero =>
    intro m hm s hs
    obtain rfl : m = x.length := by omega
    rw [List.drop_eq_nil_of_le (by omega)]
    exact hend s hs
  | succ d ih =>
    intro m hm s hs
    rw [drop_step z (by omega), List.foldl_cons]
    obtain ⟨h1, h2⟩ := hstep m s (by omega) hs
    exact h2 _ (ih (m + 1) (by omega) _ h1)
/-- A loop that ends where one element fails. -/
theorem all_ev {α ρ : Type} (L : Nat → Int → Option ρ) (x : List α) (z : α) (q : α → Bool) (no yes : ρ)
    (hno : ∀ m, m < x.length → q (x.getD m z) = false → Ev (fun k => L k (m : Int)) no)
    (hyes : ∀ m, m < x.length → q (x.getD m z) = true → ∀ r, Ev (fun k => L k ((m + 1 : Nat) : Int)) r → Ev (fun k => L k (m : Int)) r)
    (hend : x.all q = true → Ev (fun k => L k (x.length : Int)) yes) : Ev (fun k => L k 0) (if x.all q = true then yes else no) := by
  suffices hh : ∀ (d m : Nat), m + d = x.length → (x.take m).all q = true → Ev (fun k => L k (m : Int)) (if (x.drop m).all q = true then yes else no) from hh x.length 0 (by omega) rfl
  intro d
  induction d with
  | zero =>
    intro m hm ha
    obtain rfl : m = x.length := by omega
    rw [List.drop_eq_nil_of_le (by omega)]
    rw [List.take_length] at ha
    exact hend ha
  | succ d ih =>
    intro m hm ha
    rw [drop_step z (by omega), List.all_cons]
    cases hq : q (x.getD m z) with
    | true => exact hyes m (by omega) hq _ (Ev.eq (ih (m + 1) (by omega) (by rw [List.take_add_one, getD_ge (z := z) (by omega)]; simp only [List.all_append, ha, Option.toList_some, List.all_cons, hq, List.all_nil, Bool.and_self])) (by simp))
    | false => exact Ev.eq (hno m (by omega) hq) (by simp)
/-- A copy, element by element, into a list of as many places. -/
theorem fill_ev {α β : Type} (L : Nat → List β → Int → Option (List β)) (conv : α → β) (za : α) (zb : β) (x : List α)
    (hstep : ∀ m y, m < x.length → y.length = x.length → ∀ r, Ev (fun k => L k (y.set m (conv (x.getD m za))) ((m + 1 : Nat) : Int)) r → Ev (fun k => L k y (m : Int)) r)
    (hend : ∀ y, y.length = x.length → Ev (fun k => L k y (x.length : Int)) y) : Ev (fun k => L k (List.replicate x.length zb) 0) (x.map conv) := by
  suffices hh : ∀ (d m : Nat), m + d = x.length → ∀ y : List β, y.length = x.length → (∀ j, j < m → y[j]? = some (conv (x.getD j za))) → Ev (fun k => L k y (m : Int)) (x.map conv) from hh x.length 0 (by omega) _ (by simp) (fun j h => by omega)
  intro d
  induction d with
  | zero =>
    intro m hm y hy hj
    obtain rfl : m = x.length := by omega
    refine Ev.eq (hend y hy) ?_
    apply List.ext_getElem?
    intro j
    by_cases h : j < x.length
    · rw [hj j h, List.getElem?_map, getD_ge (z := za) (by omega)]; rfl
    · rw [List.getElem?_eq_none (by omega), List.getElem?_eq_none (by simp; omega)]
  | succ d ih =>
    intro m hm y hy hj
    refine hstep m y (by omega) hy _ (ih (m + 1) (by omega) _ (by simp [hy]) (fun j h => ?_))
    by_cases e : j = m
    · subst e; rw [List.getElem?_set_self (by omega)]
    · rw [List.getElem?_set_ne (by omega)]; exact hj j (by omega)
/-- What is built by appending one element after the other. -/
theorem build_ev {α β ρ : Type} (L : Nat → List β → Int → Option ρ) (x : List α) (z : α) (conv : α → β) (fin : List β → ρ)
    (hstep : ∀ m s, m < x.length → s.length = m → ∀ r, Ev (fun k => L k (s ++ [conv (x.getD m z)]) ((m + 1 : Nat) : Int)) r → Ev (fun k => L k s (m : Int)) r)
    (hend : Ev (fun k => L k (x.map conv) (x.length : Int)) (fin (x.map conv))) : Ev (fun k => L k [] 0) (fin (x.map conv)) := by
  suffices hh : ∀ (d m : Nat), m + d = x.length → Ev (fun k => L k ((x.take m).map conv) (m : Int)) (fin (x.map conv)) from hh x.length 0 (by omega)
  intro d
  induction d with
  | zero =>
    intro m hm
    obtain rfl : m = x.length := by omega
    rw [List.take_length]; exact hend
  | succ d ih =>
    intro m hm
    refine hstep m _ (by omega) (by simp; omega) _ (Ev.eq (Ev.congr (fun k => ?_) (ih (m + 1) (by omega))) rfl)
    rw [List.take_add_one, getD_ge (z := z) (by omega)]
    simp
/-- A fold that knows the place. -/
def foldi {α σ : Type} (g : Nat → σ → α → σ) : Nat → List α → σ → σ
  | _, [], s => s
  | m, y :: ys, s => foldi g (m + 1) ys (g m s y)
theorem foldi_rel {α σ τ : Type} {g : Nat → σ → α → σ} {g' : Nat → τ → α → τ} (R : σ → τ → Prop) : ∀ (l : List α) (m : Nat) (s : σ) (t : τ), (∀ m s t y, y ∈ l → R s t → R (g m s y) (g' m t y)) → R s t → R (foldi g m l s) (foldi g' m l t)
  | [], _, _, _, _, h => h
  | y :: ys, m, s, t, hs, h => foldi_rel R ys (m + 1) _ _ (fun m s t y hy => hs m s t y (List.mem_cons_of_mem _ hy)) (hs m s t y List.mem_cons_self h)
theorem foldi_inv {α σ : Type} {g : Nat → σ → α → σ} (P : σ → Prop) : ∀ (l : List α) (m : Nat) (s : σ), (∀ m s y, y ∈ l → P s → P (g m s y)) → P s → P (foldi g m l s)
  | [], _, _, _, h => h
  | y :: ys, m, s, hs, h => foldi_inv P ys (m + 1) _ (fun m s y hy => hs m s y (List.mem_cons_of_mem _ hy)) (hs m s y List.mem_cons_self h)
/-- A loop that takes a state along, and what follows it. -/
theorem fold_in {α σ ρ : Type} (L : Nat → σ → Int → Option ρ) (x : List α) (z : α) (P : Nat → σ → Prop) (g : Nat → σ → α → σ) (r : ρ)
    (hstep : ∀ m s, m < x.length → P m s → P (m + 1) (g m s (x.getD m z)) ∧ ∀ r, Ev (fun k => L k (g m s (x.getD m z)) ((m + 1 : Nat) : Int)) r → Ev (fun k => L k s (m : Int)) r)
    (s0 : σ) (h0 : P 0 s0) (hend : P x.length (foldi g 0 x s0) → Ev (fun k => L k (foldi g 0 x s0) (x.length : Int)) r) : Ev (fun k => L k s0 0) r := by
  suffices hh : ∀ (d m : Nat), m + d = x.length → ∀ s, P m s → (P x.length (foldi g m (x.drop m) s) → Ev (fun k => L k (foldi g m (x.drop m) s) (x.length : Int)) r) → Ev (fun k => L k s (m : Int)) r from hh x.length 0 (by omega) s0 h0 hend
  intro d
  induction d with
  | zero =>
    intro m hm s hs he
    obtain rfl : m = x.length := by omega
    rw [List.drop_eq_nil_of_le (by omega)] at he
    exact he hs
  | succ d ih =>
    intro m hm s hs he
    rw [drop_step z (by omega)] at he
    obtain ⟨h1, h2⟩ := hstep m s (by omega) hs
    exact h2 _ (ih (m + 1) (by omega) _ h1 he)
def inI (n : Int) : Prop := -9223372036854775808 ≤ n ∧ n ≤ 9223372036854775807
theorem inI_wrap (n : Int) : inI (wrap64 n) := by unfold inI wrap64; omega
theorem wrap_in {n : Int} (h : inI n) : wrap64 n = n := wrap_id h.1 h.2
end Go.Proofs.YtlifofigkllpgaaMine
