/- BestVisit returns what the reference returns, for all arguments. -/
import Derived.Test.YtihnefkkgbokcaaMine
import Derived.Test.YtihnefkkgbokcaaQ2
import Derived.Test.YtihnefkkgbokcaaQ6
import Derived.Test.YtihnefkkgbokcaaQ1
import Derived.Test.YtihnefkkgbokcaaQ8
import Derived.Test.YtihnefkkgbokcaaQ9
import Derived.Test.YtihnefkkgbokcaaQ10
import Derived.Test.YtihnefkkgbokcaaQ11
import Derived.Test.YtihnefkkgbokcaaQ3
import Derived.Test.YtihnefkkgbokcaaQ4
import Derived.Test.YtihnefkkgbokcaaQ5
import Derived.Test.YtihnefkkgbokcaaQ12
set_option linter.unusedVariables false
namespace Go.Proofs.YtihnefkkgbokcaaMine
open Go.RowKit Go.Proofs.YtihnefkkgbokcaaW.PrintWords

theorem wrap_id {i : Int} (h0 : -9223372036854775808 ≤ i) (h1 : i ≤ 9223372036854775807) : wrap64 i = i := by unfold wrap64; omega
theorem wrap_sm {i : Int} (h0 : -4611686018427387904 ≤ i) (h1 : i ≤ 4611686018427387904) : wrap64 i = i := by unfold wrap64; omega
theorem wf_i8 {n : Int} (h : (Lit.int .i8 n).wf = true) : -128 ≤ n ∧ n ≤ 127 := by simpa [Lit.wf, IntKind.min, IntKind.max, IntKind.signed, IntKind.bits] using h
theorem wf_i16 {n : Int} (h : (Lit.int .i16 n).wf = true) : -32768 ≤ n ∧ n ≤ 32767 := by simpa [Lit.wf, IntKind.min, IntKind.max, IntKind.signed, IntKind.bits] using h
theorem Ev.val {α : Type} {g : Nat → Option α} {r : α} (h : ∀ k, g k = some r) : Ev g r := ⟨0, fun k _ => h k⟩
theorem Ev.eq {α : Type} {g : Nat → Option α} {r s : α} (h : Ev g r) (e : r = s) : Ev g s := e ▸ h
theorem getD_ge {α : Type} {l : List α} {i : Nat} {z : α} (h : i < l.length) : l[i]? = some (l.getD i z) := by
 rw [List.getD_eq_getElem?_getD, List.getElem?_eq_getElem h]; rfl
theorem drop_step {α : Type} {l : List α} {i : Nat} (z : α) (h : i < l.length) : l.drop i = l.getD i z :: l.drop (i + 1) := by
 rw [List.getD_eq_getElem?_getD, List.getElem?_eq_getElem h]; exact List.drop_eq_getElem_cons h

theorem fill_loop {α β : Type} (L : Nat → List α → List β → Int → Option (List β)) (conv : α → β) (za : α) (x : List α) (hx : x.length ≤ 4611686018427387904)
  (step : ∀ k y (i : Int), L (k + 1) x y i = if i < (x.length : Int) then (if 0 ≤ i then (if i < (y.length : Int) then L k x (y.set i.toNat (conv (x.getD i.toNat za))) (wrap64 (i + 1)) else none) else none) else some y) :
  ∀ (d m : Nat), m + d = x.length → ∀ y : List β, y.length = x.length → (∀ j, j < m → y[j]? = some (conv (x.getD j za))) → Ev (fun k => L k x y (m : Int)) (x.map conv) := by
 intro d
 induction d with
 | zero =>
  intro m hm y hy hj
  refine Ev.step (f := fun _ => some y) (fun k => by rw [step, if_neg (by omega)]) ?_
  refine Ev.eq (Ev.now y) ?_
  apply List.ext_getElem?
  intro j
  by_cases h : j < m
  ·rw [hj j h, List.getElem?_map, getD_ge (z := za) (by omega)]; rfl
  ·rw [List.getElem?_eq_none (by omega), List.getElem?_eq_none (by simp; omega)]
 | succ d ih =>
  intro m hm y hy hj
  refine Ev.step (f := fun k => L k x (y.set m (conv (x.getD m za))) ((m + 1 : Nat) : Int)) (fun k => ?_) ?_
  ·rw [step, if_pos (by omega), if_pos (by omega), if_pos (by omega), Int.toNat_natCast, wrap_sm (by omega) (by omega)]
   rfl
  ·refine ih (m + 1) (by omega) _ (by simp [hy]) (fun j h => ?_)
   by_cases e : j = m
   ·subst e; rw [List.getElem?_set_self (by omega)]
   ·rw [List.getElem?_set_ne (by omega)]; exact hj j (by omega)
theorem fill_all {α β : Type} (L : Nat → List α → List β → Int → Option (List β)) (conv : α → β) (za : α) (zb : β) (x : List α) (hx : x.length ≤ 4611686018427387904)
  (step : ∀ k y (i : Int), L (k + 1) x y i = if i < (x.length : Int) then (if 0 ≤ i then (if i < (y.length : Int) then L k x (y.set i.toNat (conv (x.getD i.toNat za))) (wrap64 (i + 1)) else none) else none) else some y) :
  Ev (fun k => L k x (List.replicate x.length zb) 0) (x.map conv) :=
 fill_loop L conv za x hx step x.length 0 (by omega) _ (by simp) (fun j h => by omega)

theorem eq_loop {α : Type} (L : Nat → List α → List α → Int → Option Bool) (x : List α) (hx : x.length ≤ 4611686018427387904)
  (step : ∀ k (i : Int), 0 ≤ i → i ≤ x.length → L (k + 1) x x i = if i < (x.length : Int) then L k x x (wrap64 (i + 1)) else some true) :
  ∀ (d m : Nat), m + d = x.length → Ev (fun k => L k x x (m : Int)) true := by
 intro d
 induction d with
 | zero => intro m hm; exact Ev.step (f := fun _ => some true) (fun k => by rw [step k m (by omega) (by omega), if_neg (by omega)]) (Ev.now _)
 | succ d ih =>
  intro m hm
  refine Ev.step (f := fun k => L k x x ((m + 1 : Nat) : Int)) (fun k => ?_) (ih (m + 1) (by omega))
  rw [step k m (by omega) (by omega), if_pos (by omega), wrap_sm (by omega) (by omega)]; rfl
theorem eq_all {α : Type} (L : Nat → List α → List α → Int → Option Bool) (x : List α) (hx : x.length ≤ 4611686018427387904)
  (step : ∀ k (i : Int), 0 ≤ i → i ≤ x.length → L (k + 1) x x i = if i < (x.length : Int) then L k x x (wrap64 (i + 1)) else some true) : Ev (fun k => L k x x 0) true :=
 eq_loop L x hx step x.length 0 (by omega)

theorem all_loop {α ρ : Type} (L : Nat → Int → Option ρ) (x : List α) (z : α) (hx : x.length ≤ 4611686018427387904) (q : α → Bool) (no yes : ρ)
  (step : ∀ k (i : Int), 0 ≤ i → i ≤ x.length → L (k + 1) i = if i < (x.length : Int) then (if q (x.getD i.toNat z) = true then L k (wrap64 (i + 1)) else some no) else some yes) :
  ∀ (d m : Nat), m + d = x.length → Ev (fun k => L k (m : Int)) (if (x.drop m).all q = true then yes else no) := by
 intro d
 induction d with
 | zero =>
  intro m hm
  rw [List.drop_eq_nil_of_le (by omega)]
  exact Ev.step (f := fun _ => some yes) (fun k => by rw [step k m (by omega) (by omega), if_neg (by omega)]) (Ev.now _)
 | succ d ih =>
  intro m hm
  rw [drop_step z (by omega), List.all_cons]
  cases hq : q (x.getD m z) with
  | true =>
   refine Ev.step (f := fun k => L k ((m + 1 : Nat) : Int)) (fun k => ?_) (Ev.eq (ih (m + 1) (by omega)) (by simp))
   rw [step k m (by omega) (by omega), if_pos (by omega), Int.toNat_natCast, hq, if_pos rfl, wrap_sm (by omega) (by omega)]; rfl
  | false =>
   refine Ev.step (f := fun _ => some no) (fun k => ?_) (Ev.eq (Ev.now _) (by simp))
   rw [step k m (by omega) (by omega), if_pos (by omega), Int.toNat_natCast, hq, if_neg (by simp)]
theorem all_all {α ρ : Type} (L : Nat → Int → Option ρ) (x : List α) (z : α) (hx : x.length ≤ 4611686018427387904) (q : α → Bool) (no yes : ρ)
  (step : ∀ k (i : Int), 0 ≤ i → i ≤ x.length → L (k + 1) i = if i < (x.length : Int) then (if q (x.getD i.toNat z) = true then L k (wrap64 (i + 1)) else some no) else some yes) :
  Ev (fun k => L k 0) (if x.all q = true then yes else no) := all_loop L x z hx q no yes step x.length 0 (by omega)

theorem fold_loop {α σ ρ : Type} (L : Nat → σ → Int → Option ρ) (x : List α) (z : α) (hx : x.length ≤ 4611686018427387904) (g : σ → α → σ) (fin : σ → ρ)
  (step : ∀ k s (i : Int), 0 ≤ i → i ≤ x.length → L (k + 1) s i = if i < (x.length : Int) then L k (g s (x.getD i.toNat z)) (wrap64 (i + 1)) else some (fin s)) :
  ∀ (d m : Nat), m + d = x.length → ∀ s, Ev (fun k => L k s (m : Int)) (fin ((x.drop m).foldl g s)) := by
 intro d
 induction d with
 | zero =>
  intro m hm s
  rw [List.drop_eq_nil_of_le (by omega)]
  exact Ev.step (f := fun _ => some (fin s)) (fun k => by rw [step k s m (by omega) (by omega), if_neg (by omega)]) (Ev.now _)
 | succ d ih =>
  intro m hm s
  rw [drop_step z (by omega), List.foldl_cons]
  refine Ev.step (f := fun k => L k (g s (x.getD m z)) ((m + 1 : Nat) : Int)) (fun k => ?_) (ih (m + 1) (by omega) _)
  rw [step k s m (by omega) (by omega), if_pos (by omega), Int.toNat_natCast, wrap_sm (by omega) (by omega)]; rfl
theorem fold_all {α σ ρ : Type} (L : Nat → σ → Int → Option ρ) (x : List α) (z : α) (hx : x.length ≤ 4611686018427387904) (g : σ → α → σ) (fin : σ → ρ)
  (step : ∀ k s (i : Int), 0 ≤ i → i ≤ x.length → L (k + 1) s i = if i < (x.length : Int) then L k (g s (x.getD i.toNat z)) (wrap64 (i + 1)) else some (fin s)) (s : σ) :
  Ev (fun k => L k s 0) (fin (x.foldl g s)) := fold_loop L x z hx g fin step x.length 0 (by omega) s
theorem sz_eq (n : Nat) (h : n ≤ 140737488351232) (left : Int) (h0 : 0 ≤ left) (h1 : left ≤ 1048576) : wrap64 (left - (n : Int)) = left - (n : Int) := wrap_sm (by omega) (by omega)
end Go.Proofs.YtihnefkkgbokcaaMine
set_option linter.unusedVariables false
set_option linter.unusedSimpArgs false
namespace Go.Proofs.Ytihnefkkgbokcaa.Pure
open Go.RowKit Go.Proofs.Ytihnefkkgbokcaa.Q Go.Proofs.YtihnefkkgbokcaaMine Go.Proofs.YtihnefkkgbokcaaW.PrintWords Go.Proofs.YtihnefkkgbokcaaW.PrintMore
theorem within_eq (a b c : Int) : impl_within.f a b c = some (inR a b c) := by
 unfold impl_within.f; exact inR_some _ _ _
theorem l00In_eq (a b c : Int) : spec_l00In.f a b c = some (inR a b c) := by
 unfold spec_l00In.f; exact inR_some _ _ _
end Go.Proofs.Ytihnefkkgbokcaa.Pure
set_option linter.unusedVariables false
set_option linter.unusedSimpArgs false
namespace Go.Proofs.Ytihnefkkgbokcaa.Pure
open Go.RowKit Go.Proofs.Ytihnefkkgbokcaa.Q Go.Proofs.YtihnefkkgbokcaaMine Go.Proofs.YtihnefkkgbokcaaW.PrintWords
def wfParcel (x : S82) : Prop := (Lit.int .i8 x.f0).wf = true ∧ (Lit.int .i16 x.f1).wf = true
theorem eqParcelS (x : List (S82)) (hx : x.length ≤ 2097152) : Ev (fun k => laws_eqParcelS.f k x x) true := by
 have e : ∀ k, laws_eqParcelS.f k x x = laws_eqParcelS.l0 k x x 0 := by
  intro k
  unfold laws_eqParcelS.f
  rw [if_pos rfl]
 refine Ev.congr e ?_
 refine eq_all laws_eqParcelS.l0 x (by omega) (fun k i h0 h1 => ?_)
 simp only [laws_eqParcelS.l0]
 by_cases h : i < (x.length : Int)
 ·simp only [if_pos h, if_pos h0, laws_eqParcel.f, if_true, Option.bind_some]
 ·simp only [if_neg h]
end Go.Proofs.Ytihnefkkgbokcaa.Pure
set_option linter.unusedVariables false
set_option linter.unusedSimpArgs false
namespace Go.Proofs.Ytihnefkkgbokcaa.Pure
open Go.RowKit Go.Proofs.Ytihnefkkgbokcaa.Q Go.Proofs.YtihnefkkgbokcaaMine Go.Proofs.YtihnefkkgbokcaaW.PrintWords Go.Proofs.YtihnefkkgbokcaaW.PrintMore
def okP (x : S82) : Bool := inR x.f0 0 8 && inR x.f1 1 5000
def okPs (l : List (S82)) : Bool := decide ((l.length : Int) ≤ 10) && l.all okP
theorem implOneValidParcels {x : S82} (h : wfParcel x) : f3z.f x.f0 x.f1 = some (!okP x) := by
 obtain ⟨w0, w1⟩ := h
 have := wf_i8 w0; have := wf_i16 w1
 unfold f3z.f okP
 
 simp only [within_eq, Option.bind_some]
 rw [wrap_id (i := x.f0) (by omega) (by omega), wrap_id (i := x.f1) (by omega) (by omega)]
 cases inR x.f0 0 8 <;> cases inR x.f1 1 5000 <;> rfl
theorem impl_okValidParcels {l : List (S82)} (h : ∀ x ∈ l, wfParcel x) : f7z.f l = some (okPs l) := by
 unfold f7z.f f6z.f okPs
 rw [anyO_of (q := fun x => !okP x) l (fun x hx => implOneValidParcels (h x hx)), any_not]
 by_cases hm : (l.length : Int) ≤ 10
 ·simp [hm]
 ·simp [hm]
theorem spec_okValidParcels {l : List (S82)} (hl : l.length ≤ 2097152) (h : ∀ x ∈ l, wfParcel x) : Ev (fun k => spec_l04Ok.f k l) (okPs l) := by
 unfold spec_l04Ok.f
 refine Ev.eq (all_all (spec_l04Ok.l0 · l ·) l z82 (by omega) okP false (decide ((l.length : Int) ≤ 10)) (fun k i h0 h1 => ?_)) ?_
 ·simp only [spec_l04Ok.l0]
  by_cases hi : i < (l.length : Int)
  ·have hm := (get_mem z82 (show i.toNat < l.length by omega)).1
   obtain ⟨w0, w1⟩ := h _ hm
   have := wf_i8 w0; have := wf_i16 w1
   simp only [if_pos hi, if_pos h0]
   
   simp only [l00In_eq, Option.bind_some]
   unfold rd_T82
   generalize l.getD i.toNat z82 = x at *
   rw [wrap_id (i := x.f0) (by omega) (by omega), wrap_id (i := x.f1) (by omega) (by omega)]
   unfold okP
   cases inR x.f0 0 8 <;> cases inR x.f1 1 5000 <;> simp
  ·simp only [if_neg hi]
 ·unfold okPs
  cases l.all okP <;> simp
end Go.Proofs.Ytihnefkkgbokcaa.Pure
set_option linter.unusedVariables false
set_option linter.unusedSimpArgs false
namespace Go.Proofs.Ytihnefkkgbokcaa.Pure
open Go.RowKit Go.Proofs.Ytihnefkkgbokcaa.Q Go.Proofs.YtihnefkkgbokcaaMine Go.Proofs.YtihnefkkgbokcaaW.PrintWords
/-- The program's own Parcel of a law's. -/
def cvParcel (x : S84) : S82 := ⟨x.f0, x.f1⟩
def wfParcelL (x : S84) : Prop := (Lit.int .i8 x.f0).wf = true ∧ (Lit.int .i16 x.f1).wf = true
theorem wfsParcel {l : List (S84)} (h : ∀ x ∈ l, wfParcelL x) : ∀ x ∈ l.map cvParcel, wfParcel x := by
 intro x hx
 obtain ⟨y, hy, rfl⟩ := List.mem_map.1 hx
 exact h y hy
theorem toParcelS (x : List (S84)) (hx : x.length ≤ 2097152) : Ev (fun k => laws_toParcelS.f k x) (x.map cvParcel) := by
 have e : ∀ k, laws_toParcelS.f k x = laws_toParcelS.l0 k x (List.replicate x.length z82) 0 := by
  intro k
  unfold laws_toParcelS.f
  rw [if_pos (by omega), if_pos (by omega), Int.toNat_natCast]
 refine Ev.congr e ?_
 exact fill_all laws_toParcelS.l0 cvParcel z84 z82 x (by omega) (fun k y i => by simp only [laws_toParcelS.l0, laws_toParcel.f, Option.bind_some]; rfl)
theorem szParcelS (x : List (S84)) (hx : x.length ≤ 140737488351232) (left : Int) (h0 : 0 ≤ left) (h1 : left ≤ 1048576) : laws_szParcelS.f x left = some (if left - (x.length : Int) < 0 then -1 else left - (x.length : Int)) := by
 unfold laws_szParcelS.f
 rw [sz_eq _ hx _ h0 h1]
 split <;> rfl
end Go.Proofs.Ytihnefkkgbokcaa.Pure
set_option linter.unusedVariables false
set_option linter.unusedSimpArgs false
namespace Go.Proofs.Ytihnefkkgbokcaa.Pure
open Go.RowKit Go.Proofs.Ytihnefkkgbokcaa.Q Go.Proofs.YtihnefkkgbokcaaMine Go.Proofs.YtihnefkkgbokcaaW.PrintWords Go.Proofs.YtihnefkkgbokcaaW.PrintMore
/-- The weight for a stop. -/
def wAt (l : List (S82)) (s : Int) : Int := l.foldl (fun a x => if wrap64 x.f0 = s then wrap64 (a + wrap64 x.f1) else a) 0
theorem specAt {l : List (S82)} (hl : l.length ≤ 2097152) (s : Int) : Ev (fun k => spec_l04At.f k l s) (wAt l s) := by
 unfold spec_l04At.f wAt
 refine fold_all (fun k a i => spec_l04At.l0 k l s a i) l z82 (by omega) _ id (fun k a i h0 h1 => ?_) 0
 simp only [spec_l04At.l0]
 by_cases hi : i < (l.length : Int)
 ·simp only [if_pos hi, if_pos h0]
  unfold rd_T82
  split <;> rfl
 ·simp only [if_neg hi]; rfl
end Go.Proofs.Ytihnefkkgbokcaa.Pure
set_option linter.unusedVariables false
set_option linter.unusedSimpArgs false
namespace Go.Proofs.YtihnefkkgbokcaaMine
open Go.RowKit Go.Proofs.YtihnefkkgbokcaaW.PrintWords
/-- A loop that takes a state along; inv holds of the state at each place. -/
theorem fold_ev {α σ ρ : Type} (L : Nat → σ → Int → Option ρ) (x : List α) (z : α) (inv : Nat → σ → Prop) (g : σ → α → σ) (fin : σ → ρ)
  (hstep : ∀ m s, m < x.length → inv m s → inv (m + 1) (g s (x.getD m z)) ∧ ∀ r, Ev (fun k => L k (g s (x.getD m z)) ((m + 1 : Nat) : Int)) r → Ev (fun k => L k s (m : Int)) r)
  (hend : ∀ s, inv x.length s → Ev (fun k => L k s (x.length : Int)) (fin s)) : ∀ s, inv 0 s → Ev (fun k => L k s 0) (fin (x.foldl g s)) := by
 suffices hh : ∀ (d m : Nat), m + d = x.length → ∀ s, inv m s → Ev (fun k => L k s (m : Int)) (fin ((x.drop m).foldl g s)) from fun s hs => hh x.length 0 (by omega) s hs
 intro d
 induction d with
 | zero =>
  intro m hm s hs
  obtain rfl : m = x.length := by omega
  rw [List.drop_eq_nil_of_le (by omega)]
  exact hend s hs
 | succ d ih =>
  intro m hm s hs
  rw [drop_step z (by omega), List.foldl_cons]
  obtain ⟨h1, h2⟩ := hstep m s (by omega) hs
  exact h2 _ (ih (m + 1) (by omega) _ h1)
/-- A loop that ends where one element fails. -/
theorem all_ev {α ρ : Type} (L : Nat → Int → Option ρ) (x : List α) (z : α) (q : α → Bool) (no yes : ρ)
  (hno : ∀ m, m < x.length → q (x.getD m z) = false → Ev (fun k => L k (m : Int)) no)
  (hyes : ∀ m, m < x.length → q (x.getD m z) = true → ∀ r, Ev (fun k => L k ((m + 1 : Nat) : Int)) r → Ev (fun k => L k (m : Int)) r)
  (hend : x.all q = true → Ev (fun k => L k (x.length : Int)) yes) : Ev (fun k => L k 0) (if x.all q = true then yes else no) := by
 suffices hh : ∀ (d m : Nat), m + d = x.length → (x.take m).all q = true → Ev (fun k => L k (m : Int)) (if (x.drop m).all q = true then yes else no) from hh x.length 0 (by omega) rfl
 intro d
 induction d with
 | zero =>
  intro m hm ha
  obtain rfl : m = x.length := by omega
  rw [List.drop_eq_nil_of_le (by omega)]
  rw [List.take_length] at ha
  exact hend ha
 | succ d ih =>
  intro m hm ha
  rw [drop_step z (by omega), List.all_cons]
  cases hq : q (x.getD m z) with
  | true => exact hyes m (by omega) hq _ (Ev.eq (ih (m + 1) (by omega) (by rw [List.take_add_one, getD_ge (z := z) (by omega)]; simp only [List.all_append, ha, Option.toList_some, List.all_cons, hq, List.all_nil, Bool.and_self])) (by simp))
  | false => exact Ev.eq (hno m (by omega) hq) (by simp)
/-- A copy, element by element, into a list of as many places. -/
theorem fill_ev {α β : Type} (L : Nat → List β → Int → Option (List β)) (conv : α → β) (za : α) (zb : β) (x : List α)
  (hstep : ∀ m y, m < x.length → y.length = x.length → ∀ r, Ev (fun k => L k (y.set m (conv (x.getD m za))) ((m + 1 : Nat) : Int)) r → Ev (fun k => L k y (m : Int)) r)
  (hend : ∀ y, y.length = x.length → Ev (fun k => L k y (x.length : Int)) y) : Ev (fun k => L k (List.replicate x.length zb) 0) (x.map conv) := by
 suffices hh : ∀ (d m : Nat), m + d = x.length → ∀ y : List β, y.length = x.length → (∀ j, j < m → y[j]? = some (conv (x.getD j za))) → Ev (fun k => L k y (m : Int)) (x.map conv) from hh x.length 0 (by omega) _ (by simp) (fun j h => by omega)
 intro d
 induction d with
 | zero =>
  intro m hm y hy hj
  obtain rfl : m = x.length := by omega
  refine Ev.eq (hend y hy) ?_
  apply List.ext_getElem?
  intro j
  by_cases h : j < x.length
  ·rw [hj j h, List.getElem?_map, getD_ge (z := za) (by omega)]; rfl
  ·rw [List.getElem?_eq_none (by omega), List.getElem?_eq_none (by simp; omega)]
 | succ d ih =>
  intro m hm y hy hj
  refine hstep m y (by omega) hy _ (ih (m + 1) (by omega) _ (by simp [hy]) (fun j h => ?_))
  by_cases e : j = m
  ·subst e; rw [List.getElem?_set_self (by omega)]
  ·rw [List.getElem?_set_ne (by omega)]; exact hj j (by omega)
/-- What is built by appending one element after the other. -/
theorem build_ev {α β ρ : Type} (L : Nat → List β → Int → Option ρ) (x : List α) (z : α) (conv : α → β) (fin : List β → ρ)
  (hstep : ∀ m s, m < x.length → s.length = m → ∀ r, Ev (fun k => L k (s ++ [conv (x.getD m z)]) ((m + 1 : Nat) : Int)) r → Ev (fun k => L k s (m : Int)) r)
  (hend : Ev (fun k => L k (x.map conv) (x.length : Int)) (fin (x.map conv))) : Ev (fun k => L k [] 0) (fin (x.map conv)) := by
 suffices hh : ∀ (d m : Nat), m + d = x.length → Ev (fun k => L k ((x.take m).map conv) (m : Int)) (fin (x.map conv)) from hh x.length 0 (by omega)
 intro d
 induction d with
 | zero =>
  intro m hm
  obtain rfl : m = x.length := by omega
  rw [List.take_length]; exact hend
 | succ d ih =>
  intro m hm
  refine hstep m _ (by omega) (by simp; omega) _ (Ev.eq (Ev.congr (fun k => ?_) (ih (m + 1) (by omega))) rfl)
  rw [List.take_add_one, getD_ge (z := z) (by omega)]
  simp
/-- A fold that knows the place. -/
def foldi {α σ : Type} (g : Nat → σ → α → σ) : Nat → List α → σ → σ
 | _, [], s => s
 | m, y :: ys, s => foldi g (m + 1) ys (g m s y)
theorem foldi_rel {α σ τ : Type} {g : Nat → σ → α → σ} {g' : Nat → τ → α → τ} (R : σ → τ → Prop) : ∀ (l : List α) (m : Nat) (s : σ) (t : τ), (∀ m s t y, y ∈ l → R s t → R (g m s y) (g' m t y)) → R s t → R (foldi g m l s) (foldi g' m l t)
 | [], _, _, _, _, h => h
 | y :: ys, m, s, t, hs, h => foldi_rel R ys (m + 1) _ _ (fun m s t y hy => hs m s t y (List.mem_cons_of_mem _ hy)) (hs m s t y List.mem_cons_self h)
theorem foldi_inv {α σ : Type} {g : Nat → σ → α → σ} (P : σ → Prop) : ∀ (l : List α) (m : Nat) (s : σ), (∀ m s y, y ∈ l → P s → P (g m s y)) → P s → P (foldi g m l s)
 | [], _, _, _, h => h
 | y :: ys, m, s, hs, h => foldi_inv P ys (m + 1) _ (fun m s y hy => hs m s y (List.mem_cons_of_mem _ hy)) (hs m s y List.mem_cons_self h)
/-- A loop that takes a state along from some place on, and what follows it. -/
theorem fold_from {α σ ρ : Type} (L : Nat → σ → Int → Option ρ) (x : List α) (z : α) (P : Nat → σ → Prop) (g : Nat → σ → α → σ) (r : ρ) (a : Nat) (ha : a ≤ x.length)
  (hstep : ∀ m s, a ≤ m → m < x.length → P m s → P (m + 1) (g m s (x.getD m z)) ∧ ∀ r, Ev (fun k => L k (g m s (x.getD m z)) ((m + 1 : Nat) : Int)) r → Ev (fun k => L k s (m : Int)) r)
  (s0 : σ) (h0 : P a s0) (hend : P x.length (foldi g a (x.drop a) s0) → Ev (fun k => L k (foldi g a (x.drop a) s0) (x.length : Int)) r) : Ev (fun k => L k s0 (a : Int)) r := by
 suffices hh : ∀ (d m : Nat), m + d = x.length → a ≤ m → ∀ s, P m s → (P x.length (foldi g m (x.drop m) s) → Ev (fun k => L k (foldi g m (x.drop m) s) (x.length : Int)) r) → Ev (fun k => L k s (m : Int)) r from hh (x.length - a) a (by omega) (by omega) s0 h0 hend
 intro d
 induction d with
 | zero =>
  intro m hm _ s hs he
  obtain rfl : m = x.length := by omega
  rw [List.drop_eq_nil_of_le (by omega)] at he
  exact he hs
 | succ d ih =>
  intro m hm hma s hs he
  rw [drop_step z (by omega)] at he
  obtain ⟨h1, h2⟩ := hstep m s hma (by omega) hs
  exact h2 _ (ih (m + 1) (by omega) (by omega) _ h1 he)
/-- A loop that takes a state along, and what follows it. -/
theorem fold_in {α σ ρ : Type} (L : Nat → σ → Int → Option ρ) (x : List α) (z : α) (P : Nat → σ → Prop) (g : Nat → σ → α → σ) (r : ρ)
  (hstep : ∀ m s, m < x.length → P m s → P (m + 1) (g m s (x.getD m z)) ∧ ∀ r, Ev (fun k => L k (g m s (x.getD m z)) ((m + 1 : Nat) : Int)) r → Ev (fun k => L k s (m : Int)) r)
  (s0 : σ) (h0 : P 0 s0) (hend : P x.length (foldi g 0 x s0) → Ev (fun k => L k (foldi g 0 x s0) (x.length : Int)) r) : Ev (fun k => L k s0 0) r :=
 fold_from L x z P g r 0 (by omega) (fun m s _ => hstep m s) s0 h0 hend
theorem foldi_foldl {α σ : Type} (g : σ → α → σ) : ∀ (l : List α) (m : Nat) (s : σ), foldi (fun _ => g) m l s = l.foldl g s
 | [], _, _ => rfl
 | y :: ys, m, s => foldi_foldl g ys (m + 1) (g s y)
/-- A question put to each place from a on. -/
def allIx (a n : Nat) (q : Nat → Bool) : Bool := (List.range' a (n - a)).all q
theorem allIx_iff {a n : Nat} {q : Nat → Bool} : allIx a n q = true ↔ ∀ i, a ≤ i → i < n → q i = true := by
 unfold allIx
 simp only [List.all_eq_true, List.mem_range'_1]
 exact ⟨fun h i h0 h1 => h i ⟨h0, by omega⟩, fun h i hi => h i hi.1 (by omega)⟩
theorem all_ix {ρ : Type} (L : Nat → Int → Option ρ) (n : Nat) (q : Nat → Bool) (no yes : ρ) (a : Nat)
  (hno : ∀ m, a ≤ m → m < n → q m = false → Ev (fun k => L k (m : Int)) no)
  (hyes : ∀ m, a ≤ m → m < n → q m = true → ∀ r, Ev (fun k => L k ((m + 1 : Nat) : Int)) r → Ev (fun k => L k (m : Int)) r)
  (hend : ∀ m, n ≤ m → a ≤ m → (m = n ∨ m = a) → allIx a n q = true → Ev (fun k => L k (m : Int)) yes) : Ev (fun k => L k (a : Int)) (if allIx a n q = true then yes else no) := by
 suffices hh : ∀ (d m : Nat), m + d = n → a ≤ m → (∀ i, a ≤ i → i < m → q i = true) → Ev (fun k => L k (m : Int)) (if allIx a n q = true then yes else no) by
  by_cases h : a ≤ n
  ·exact hh (n - a) a (by omega) (by omega) (fun i h0 h1 => by omega)
  ·have : allIx a n q = true := allIx_iff.2 (fun i h0 h1 => by omega)
   rw [if_pos this]; exact hend a (by omega) (by omega) (.inr rfl) this
 intro d
 induction d with
 | zero =>
  intro m hm ha hq
  have : allIx a n q = true := allIx_iff.2 (fun i h0 h1 => hq i h0 (by omega))
  rw [if_pos this]; exact hend m (by omega) ha (.inl (by omega)) this
 | succ d ih =>
  intro m hm ha hq
  cases hqm : q m with
  | true => exact hyes m ha (by omega) hqm _ (ih (m + 1) (by omega) (by omega) (fun i h0 h1 => if e : i = m then e ▸ hqm else hq i h0 (by omega)))
  | false =>
   have : ¬ allIx a n q = true := fun h => by rw [allIx_iff.1 h m ha (by omega)] at hqm; cases hqm
   rw [if_neg this]; exact hno m ha (by omega) hqm
/-- The first place at which q holds, or -1. -/
theorem find_ev {α : Type} (L : Nat → Int → Option Int) (x : List α) (z : α) (q : α → Bool)
  (hit : ∀ m, m < x.length → q (x.getD m z) = true → Ev (fun k => L k (m : Int)) (m : Int))
  (miss : ∀ m, m < x.length → q (x.getD m z) = false → ∀ r, Ev (fun k => L k ((m + 1 : Nat) : Int)) r → Ev (fun k => L k (m : Int)) r)
  (hend : Ev (fun k => L k (x.length : Int)) (-1)) : Ev (fun k => L k 0) (findI q x) := by
 suffices hh : ∀ (d m : Nat), m + d = x.length → Ev (fun k => L k (m : Int)) (if findI q (x.drop m) < 0 then -1 else findI q (x.drop m) + (m : Int)) by
  refine Ev.eq (hh x.length 0 (by omega)) ?_
  have := findI_lo q x
  rw [List.drop_zero]
  split <;> omega
 intro d
 induction d with
 | zero =>
  intro m hm
  obtain rfl : m = x.length := by omega
  rw [List.drop_eq_nil_of_le (by omega)]
  exact hend
 | succ d ih =>
  intro m hm
  rw [drop_step z (by omega)]
  have hlo := findI_lo q (x.drop (m + 1))
  unfold findI
  cases hq : q (x.getD m z) with
  | true => exact Ev.eq (hit m (by omega) hq) (by simp)
  | false =>
   refine Ev.eq (miss m (by omega) hq _ (ih (m + 1) (by omega))) ?_
   simp only [Bool.false_eq_true, if_false]
   by_cases h : findI q (x.drop (m + 1)) < 0
   ·rw [if_pos h, if_pos h, if_pos (by omega)]
   ·rw [if_neg h, if_neg h, if_neg (by omega)]; omega
theorem findI_hi {α : Type} (q : α → Bool) : ∀ (l : List α), findI q l ≤ (l.length : Int) - 1
 | [] => by simp [findI]
 | y :: ys => by
  have h := findI_hi q ys
  unfold findI
  simp only [List.length_cons]
  split
  ·omega
  ·split <;> omega
/-- Where the answers come in rounds. -/
theorem ev_mem {α β : Type} {p : Nat → α → Option β} {q : α → β} : ∀ l : List α, (∀ x ∈ l, Ev (fun k => p k x) (q x)) → ∃ K, ∀ k, K ≤ k → ∀ x ∈ l, p k x = some (q x)
 | [], _ => ⟨0, fun _ _ x hx => by simp at hx⟩
 | y :: ys, h => by
  obtain ⟨K, hK⟩ := ev_mem ys (fun x hx => h x (List.mem_cons_of_mem _ hx))
  obtain ⟨K', hK'⟩ := h y List.mem_cons_self
  refine ⟨max K K', fun k hk x hx => ?_⟩
  rcases List.mem_cons.1 hx with rfl | hx
  ·exact hK' k (by omega)
  ·exact hK k (by omega) x hx
theorem anyO_ev {α : Type} {p : Nat → α → Option Bool} {q : α → Bool} (l : List α) (h : ∀ x ∈ l, Ev (fun k => p k x) (q x)) : Ev (fun k => anyO (p k) l) (l.any q) := by
 obtain ⟨K, hK⟩ := ev_mem l h
 exact ⟨K, fun k hk => anyO_of l (hK k hk)⟩
theorem findO_ev {α : Type} {p : Nat → α → Option Bool} {q : α → Bool} (l : List α) (h : ∀ x ∈ l, Ev (fun k => p k x) (q x)) : Ev (fun k => findO (p k) l) (findI q l) := by
 obtain ⟨K, hK⟩ := ev_mem l h
 exact ⟨K, fun k hk => findO_of l (hK k hk)⟩
theorem all_getD {α : Type} (z : α) (q : α → Bool) (l : List α) : l.all q = allIx 0 l.length (fun i => q (l.getD i z)) := by
 apply Bool.eq_iff_iff.2
 rw [List.all_eq_true, allIx_iff]
 constructor
 ·intro h i _ hi; exact h _ (get_mem z hi).1
 ·intro h x hx
  obtain ⟨i, hi, e⟩ := List.getElem_of_mem hx
  have := h i (by omega) hi
  rwa [List.getD_eq_getElem?_getD, List.getElem?_eq_getElem hi, Option.getD_some, e] at this
def wfInt64 (x : Int) : Prop := (Lit.int .i64 x).wf = true
def wfInt16 (x : Int) : Prop := (Lit.int .i16 x).wf = true
def inI (n : Int) : Prop := -9223372036854775808 ≤ n ∧ n ≤ 9223372036854775807
theorem inI_wrap (n : Int) : inI (wrap64 n) := by unfold inI wrap64; omega
theorem wrap_in {n : Int} (h : inI n) : wrap64 n = n := wrap_id h.1 h.2
end Go.Proofs.YtihnefkkgbokcaaMine
set_option linter.unusedVariables false
set_option linter.unusedSimpArgs false
namespace Go.Proofs.YtihnefkkgbokcaaMine
open Go.RowKit Go.Proofs.YtihnefkkgbokcaaW.PrintWords
theorem insSortLe {ρ : Type} (L0 : Nat → List Int → Int → Option ρ) (L1 : Nat → List Int → Int → Int → Option ρ) (lt : Int → Int → Bool) (le : Int → Int → Prop) (x0 : List Int) (r : ρ)
  (h1 : ∀ a b, lt a b = true → le a b) (h2 : ∀ a b, lt a b = false → le b a) (htrans : ∀ a b c, le a b → le b c → le a c)
  (hgo : ∀ (x : List Int) (i : Nat), x.length = x0.length → i < x0.length → Ev (fun k => L1 k x (i : Int) (i : Int)) r → Ev (fun k => L0 k x (i : Int)) r)
  (hend : ∀ (x : List Int) (i : Nat), x.length = x0.length → x0.length ≤ i → x.Pairwise le → x.Perm x0 → Ev (fun k => L0 k x (i : Int)) r)
  (hstop : ∀ (x : List Int) (i : Nat), x.length = x0.length → i < x0.length → Ev (fun k => L0 k x ((i + 1 : Nat) : Int)) r → Ev (fun k => L1 k x (i : Int) 0) r)
  (hless : ∀ (x : List Int) (i j : Nat), x.length = x0.length → i < x0.length → j + 1 < x0.length → lt (x.getD (j + 1) 0) (x.getD j 0) = true → Ev (fun k => L1 k ((x.set (j + 1) (x.getD j 0)).set j (x.getD (j + 1) 0)) (i : Int) (j : Int)) r → Ev (fun k => L1 k x (i : Int) ((j + 1 : Nat) : Int)) r)
  (hmore : ∀ (x : List Int) (i j : Nat), x.length = x0.length → i < x0.length → j + 1 < x0.length → lt (x.getD (j + 1) 0) (x.getD j 0) = false → Ev (fun k => L0 k x ((i + 1 : Nat) : Int)) r → Ev (fun k => L1 k x (i : Int) ((j + 1 : Nat) : Int)) r) :
  ∀ i : Nat, i ≤ 1 → Ev (fun k => L0 k x0 (i : Int)) r := by
 -- from a sorted head of length i on
 have houter : ∀ (d i : Nat), x0.length ≤ i + d → ∀ (p s : List Int), p.length = min i x0.length → (p ++ s).Perm x0 → p.Pairwise le → Ev (fun k => L0 k (p ++ s) (i : Int)) r := by
  intro d
  induction d with
  | zero =>
   intro i hi p s hp hps hs
   have hlen := hps.length_eq
   rw [List.length_append] at hlen
   have : s = [] := List.length_eq_zero_iff.1 (by omega)
   subst this
   rw [List.append_nil] at *
   exact hend p i (by omega) (by omega) hs hps
  | succ d ih =>
   intro i hi p s hp hps hs
   have hlen := hps.length_eq
   rw [List.length_append] at hlen
   by_cases hin : i < x0.length
   ·cases s with
    | nil => simp at hlen; omega
    | cons y s =>
     refine hgo _ i (by rw [List.length_append]; exact hlen) hin ?_
     -- y goes down through p; q has been passed
     have hinner : ∀ (e : Nat) (p' q : List Int), p'.length = e → (p' ++ q).length = i → (∀ z ∈ q, le y z) → (p' ++ q).Pairwise le → (p' ++ y :: (q ++ s)).Perm x0 → Ev (fun k => L1 k (p' ++ y :: (q ++ s)) (i : Int) (e : Int)) r := by
      intro e
      induction e with
      | zero =>
       intro p' q hp' hpq hq hsort hperm
       have : p' = [] := List.length_eq_zero_iff.1 hp'
       subst this
       rw [List.nil_append] at *
       refine hstop _ i (hperm.length_eq) hin ?_
       have := ih (i + 1) (by omega) (y :: q) s (by simp only [List.length_cons]; omega) (by simpa using hperm) (List.pairwise_cons.2 ⟨hq, hsort⟩)
       simpa using this
      | succ e ihe =>
       intro p' q hp' hpq hq hsort hperm
       obtain ⟨p'', z, rfl⟩ : ∃ p'' z, p' = p'' ++ [z] := ⟨p'.dropLast, p'.getLast (by intro h; rw [h] at hp'; simp at hp'), (List.dropLast_concat_getLast _).symm⟩
       have hl'' : p''.length = e := by simp at hp'; omega
       have hx : (p'' ++ [z]) ++ y :: (q ++ s) = p'' ++ z :: y :: (q ++ s) := by simp
       rw [hx] at hperm ⊢
       have g1 : (p'' ++ z :: y :: (q ++ s)).getD (e + 1) 0 = y := by
        rw [List.getD_eq_getElem?_getD, List.getElem?_append_right (by omega)]
        rw [show e + 1 - p''.length = 1 by omega]; rfl
       have g0 : (p'' ++ z :: y :: (q ++ s)).getD e 0 = z := by
        rw [List.getD_eq_getElem?_getD, List.getElem?_append_right (by omega)]
        rw [show e - p''.length = 0 by omega]; rfl
       have hlx := hperm.length_eq
       have hlx' : p''.length + (q.length + s.length + 1 + 1) = x0.length := by simpa using hlx
       cases hc : lt y z with
       | true =>
        refine hless _ i e hlx hin (by omega) (by rw [g1, g0]; exact hc) ?_
        rw [g1, g0]
        have hset : ((p'' ++ z :: y :: (q ++ s)).set (e + 1) z).set e y = p'' ++ y :: ((z :: q) ++ s) := by
         rw [List.set_append_right _ _ (by omega), List.set_append_right _ _ (by omega), show e + 1 - p''.length = 1 by omega, show e - p''.length = 0 by omega]; simp
        rw [hset]
        refine ihe p'' (z :: q) hl'' (by simp at hpq ⊢; omega) (fun u hu => ?_) (by simpa using hsort) (List.Perm.trans (List.Perm.append_left p'' (List.Perm.swap _ _ _)) hperm)
        rcases List.mem_cons.1 hu with rfl | hu
        ·exact h1 y _ hc
        ·exact hq u hu
       | false =>
        have hzy := h2 y z hc
        refine hmore _ i e hlx hin (by omega) (by rw [g1, g0]; exact hc) ?_
        have hs' := ih (i + 1) (by omega) (p'' ++ z :: y :: q) s (by simp at hpq ⊢; omega) (by simpa using hperm) ?_
        ·simpa using hs'
        ·have h3 : (p'' ++ z :: q).Pairwise le := by simpa using hsort
         obtain ⟨ha, hb, hcx⟩ := List.pairwise_append.1 h3
         obtain ⟨hb1, hb2⟩ := List.pairwise_cons.1 hb
         refine List.pairwise_append.2 ⟨ha, List.pairwise_cons.2 ⟨fun u hu => ?_, List.pairwise_cons.2 ⟨hq, hb2⟩⟩, fun u hu v hv => ?_⟩
         ·rcases List.mem_cons.1 hu with rfl | hu
          ·exact hzy
          ·exact hb1 u hu
         ·have huz := hcx u hu z List.mem_cons_self
          rcases List.mem_cons.1 hv with rfl | hv
          ·exact huz
          ·rcases List.mem_cons.1 hv with rfl | hv
           ·exact htrans u z _ huz hzy
           ·exact htrans u z v huz (hb1 v hv)
     have := hinner i p [] (by omega) (by simp; omega) (by simp) (by simpa using hs) (by simpa using hps)
     simpa using this
   ·have : s = [] := List.length_eq_zero_iff.1 (by omega)
    subst this
    rw [List.append_nil] at *
    exact hend p i (by omega) (by omega) hs hps
 intro i hi
 have hl : (x0.take i).length = min i x0.length := List.length_take
 have := houter x0.length i (by omega) (x0.take i) (x0.drop i) hl (by rw [List.take_append_drop]) (by
  have : (x0.take i).length ≤ 1 := by omega
  match h : x0.take i, this with
  | [], _ => exact List.Pairwise.nil
  | [a], _ => exact List.pairwise_singleton _ _)
 rwa [List.take_append_drop] at this
/-- Of a list behind p those that differ from the one before. -/
def ddF : Int → List Int → List Int
 | _, [] => []
 | p, a :: t => if a = p then ddF a t else a :: ddF a t
def cpt (x : List Int) : List Int := x.take 1 ++ ddF (x.getD 0 0) (x.drop 1)
theorem ddF_sorted : ∀ (t : List Int) (p : Int), (∀ a ∈ t, p ≤ a) → t.Pairwise (· ≤ ·) → (ddF p t).Pairwise (· < ·) ∧ ∀ a, a ∈ ddF p t ↔ a ∈ t ∧ a ≠ p
 | [], p, _, _ => by simp [ddF]
 | b :: t, p, hp, hs => by
  obtain ⟨hb, ht⟩ := List.pairwise_cons.1 hs
  obtain ⟨i1, i2⟩ := ddF_sorted t b hb ht
  unfold ddF
  by_cases e : b = p
  ·rw [if_pos e]
   refine ⟨i1, fun a => ?_⟩
   rw [i2, List.mem_cons, e]
   constructor
   ·exact fun h => ⟨.inr h.1, h.2⟩
   ·rintro ⟨h | h, h2⟩
    ·exact (h2 h).elim
    ·exact ⟨h, h2⟩
  ·rw [if_neg e]
   have hpb := hp b List.mem_cons_self
   refine ⟨List.pairwise_cons.2 ⟨fun a ha => ?_, i1⟩, fun a => ?_⟩
   ·obtain ⟨h1, h2⟩ := (i2 a).1 ha
    have := hb a h1; omega
   ·rw [List.mem_cons, i2, List.mem_cons]
    constructor
    ·rintro (h | ⟨h, h2⟩)
     ·exact ⟨.inl h, by omega⟩
     ·have := hb a h; exact ⟨.inr h, by omega⟩
    ·rintro ⟨h | h, h2⟩
     ·exact .inl h
     ·by_cases e2 : a = b
      ·exact .inl e2
      ·exact .inr ⟨h, e2⟩
theorem cpt_sorted {x : List Int} (hs : x.Pairwise (· ≤ ·)) : (cpt x).Pairwise (· < ·) ∧ ∀ a, a ∈ cpt x ↔ a ∈ x := by
 cases x with
 | nil => simp [cpt, ddF]
 | cons b t =>
  obtain ⟨hb, ht⟩ := List.pairwise_cons.1 hs
  obtain ⟨i1, i2⟩ := ddF_sorted t b hb ht
  have e : cpt (b :: t) = b :: ddF b t := rfl
  rw [e]
  refine ⟨List.pairwise_cons.2 ⟨fun a ha => ?_, i1⟩, fun a => ?_⟩
  ·obtain ⟨h1, h2⟩ := (i2 a).1 ha
   have := hb a h1; omega
  ·rw [List.mem_cons, i2, List.mem_cons]
   constructor
   ·rintro (h | ⟨h, _⟩)
    ·exact .inl h
    ·exact .inr h
   ·rintro (h | h)
    ·exact .inl h
    ·by_cases e2 : a = b
     ·exact .inl e2
     ·exact .inr ⟨h, e2⟩
/-- Two strictly rising lists with the same elements are one. -/
theorem rising_one : ∀ (l m : List Int), l.Pairwise (· < ·) → m.Pairwise (· < ·) → (∀ a, a ∈ l ↔ a ∈ m) → l = m
 | [], [], _, _, _ => rfl
 | [], b :: m, _, _, h => by have := (h b).2 List.mem_cons_self; simp at this
 | a :: l, [], _, _, h => by have := (h a).1 List.mem_cons_self; simp at this
 | a :: l, b :: m, hl, hm, h => by
  obtain ⟨hl1, hl2⟩ := List.pairwise_cons.1 hl
  obtain ⟨hm1, hm2⟩ := List.pairwise_cons.1 hm
  have e : a = b := by
   rcases List.mem_cons.1 ((h a).1 List.mem_cons_self) with e | ha
   ·exact e
   ·rcases List.mem_cons.1 ((h b).2 List.mem_cons_self) with e | hb
    ·exact e.symm
    ·have := hl1 b hb; have := hm1 a ha; omega
  subst e
  rw [rising_one l m hl2 hm2 (fun c => ?_)]
  constructor
  ·intro hc
   have := hl1 c hc
   rcases List.mem_cons.1 ((h c).1 (List.mem_cons_of_mem _ hc)) with e | hc'
   ·omega
   ·exact hc'
  ·intro hc
   have := hm1 c hc
   rcases List.mem_cons.1 ((h c).2 (List.mem_cons_of_mem _ hc)) with e | hc'
   ·omega
   ·exact hc'
end Go.Proofs.YtihnefkkgbokcaaMine
set_option linter.unusedVariables false
set_option linter.unusedSimpArgs false
namespace Go.Proofs.Ytihnefkkgbokcaa.Pure
open Go.RowKit Go.Proofs.Ytihnefkkgbokcaa.Q Go.Proofs.YtihnefkkgbokcaaMine Go.Proofs.YtihnefkkgbokcaaW.PrintWords Go.Proofs.YtihnefkkgbokcaaW.PrintMore
theorem less64 (a b : Int) : cmp_Less_int64.f a b = some (decide (a < b)) := by
 unfold cmp_Less_int64.f cmp_isNaN_int64.f
 simp
theorem sort64 {x : List Int} (hx : x.length ≤ 12) : ∃ y : List Int, Ev (fun k => f9z.f k x) y ∧ y.Pairwise (· ≤ ·) ∧ y.Perm x := by
 have hins : ∀ r : List Int, (∀ y : List Int, y.Pairwise (· ≤ ·) → y.Perm x → Ev (fun _ => some y) r) → Ev (fun k => f2z.f k x 0 (x.length : Int)) r := by
  intro r hr
  unfold f2z.f
  have h1 : wrap64 (0 + 1) = ((1 : Nat) : Int) := by unfold wrap64; omega
  rw [h1]
  refine insSortLe (fun k y i => f2z.l0 k y 0 (x.length : Int) i) (fun k y i j => f2z.l1 k y 0 (x.length : Int) i j) (fun a b => decide (a < b)) (· ≤ ·) x r ?_ ?_ ?_ ?_ ?_ ?_ ?_ ?_ 1 (by omega)
  ·intro a b h; rw [decide_eq_true_eq] at h; exact Int.le_of_lt h
  ·intro a b h; rw [decide_eq_false_iff_not] at h; exact Int.not_lt.1 h
  ·intro a b c h1 h2; exact Int.le_trans h1 h2
  ·intro y i hy hi h
   refine Ev.step (fun k => ?_) h
   simp only [f2z.l0]; rw [if_pos (by omega)]
  ·intro y i hy hi hsort hperm
   refine Ev.step (f := fun _ => some y) (fun k => ?_) (hr y hsort hperm)
   simp only [f2z.l0]; rw [if_neg (by omega)]
  ·intro y i hy hi h
   refine Ev.step (fun k => ?_) h
   simp only [f2z.l1]; rw [if_neg (by omega), wrap_sm (i := (i : Int) + 1) (by omega) (by omega)]; rfl
  ·intro y i j hy hi hj hlt h
   refine Ev.step (fun k => ?_) h
   simp only [f2z.l1, less64, Option.bind_some]
   rw [wrap_sm (i := ((j + 1 : Nat) : Int) - 1) (by omega) (by omega), show ((j + 1 : Nat) : Int) - 1 = (j : Int) by omega, if_pos (by omega), if_pos (by omega), if_pos (by omega), if_pos (by omega), if_pos (by omega)]
   rw [show rd y ((j + 1 : Nat) : Int) = y.getD (j + 1) 0 from rfl, show rd y (j : Int) = y.getD j 0 from rfl, if_pos hlt]; rfl
  ·intro y i j hy hi hj hlt h
   refine Ev.step (fun k => ?_) h
   simp only [f2z.l1, less64, Option.bind_some]
   rw [wrap_sm (i := ((j + 1 : Nat) : Int) - 1) (by omega) (by omega), show ((j + 1 : Nat) : Int) - 1 = (j : Int) by omega, if_pos (by omega), if_pos (by omega), if_pos (by omega), if_pos (by omega), if_pos (by omega), wrap_sm (i := (i : Int) + 1) (by omega) (by omega)]
   rw [show rd y ((j + 1 : Nat) : Int) = y.getD (j + 1) 0 from rfl, show rd y (j : Int) = y.getD j 0 from rfl, if_neg (by rw [hlt]; decide)]; rfl
 -- which list it is: the insertion sort's own
 have hex : ∃ y : List Int, y.Pairwise (· ≤ ·) ∧ y.Perm x := ⟨x.mergeSort (fun a b => decide (a ≤ b)), by
  have := List.pairwise_mergeSort (le := fun (a b : Int) => decide (a ≤ b)) (fun a b c h1 h2 => by simp at *; omega) (fun a b => by simp; omega) x
  exact this.imp (fun h => by simpa using h), List.mergeSort_perm _ _⟩
 obtain ⟨y, hy1, hy2⟩ := hex
 refine ⟨y, ?_, hy1, hy2⟩
 have hu : IntKind.u64.wrap (x.length : Int) = (x.length : Int) := by simp [IntKind.wrap, IntKind.signed, IntKind.bits]; omega
 unfold f9z.f bits_Len.f
 rw [hu, if_pos (by omega), if_pos (by omega)]
 simp only [Option.bind_some]
 refine Ev.bind (Ev.step (f := fun k => f8z.l0 k x 0 (x.length : Int) _ true) (fun k => rfl) (Ev.step (f := fun k => (f2z.f k x 0 (x.length : Int)).bind fun t => some t) (fun k => ?_) (Ev.bind (hins y (fun z hz1 hz2 => Ev.eq (Ev.now _) (List.Perm.eq_of_pairwise (le := (· ≤ ·)) (fun a b _ _ h1 h2 => Int.le_antisymm h1 h2) hz1 hy1 (hz2.trans hy2.symm)))) (Ev.now _)))) (Ev.now _)
 simp only [f8z.l0]
 rw [if_pos (by unfold wrap64; omega)]
end Go.Proofs.Ytihnefkkgbokcaa.Pure
set_option linter.unusedVariables false
set_option linter.unusedSimpArgs false
namespace Go.Proofs.Ytihnefkkgbokcaa.Pure
open Go.RowKit Go.Proofs.Ytihnefkkgbokcaa.Q Go.Proofs.YtihnefkkgbokcaaMine Go.Proofs.YtihnefkkgbokcaaW.PrintWords Go.Proofs.YtihnefkkgbokcaaW.PrintMore
theorem comp1 (y : List Int) (hy : y.length ≤ 2097152) : ∀ (d j k : Nat) (x : List Int), j + d = y.length → 1 ≤ j → k + d + 1 ≤ x.length → x.length ≤ 2097152 → Ev (fun q => f10z.l1 q x (k : Int) y (j : Int)) (x.take k ++ ddF (y.getD (j - 1) 0) (y.drop j)) := by
 intro d
 induction d with
 | zero =>
  intro j k x hj hj1 hk hx
  rw [List.drop_eq_nil_of_le (by omega)]
  refine Ev.step (f := fun _ => some (x.take k)) (fun q => ?_) (Ev.eq (Ev.now _) (by simp [ddF]))
  simp only [f10z.l1]
  rw [if_neg (by omega), if_pos (by omega), if_pos (by omega)]
  simp only [Int.toNat_natCast]
  rw [List.take_append_of_le_length (by simp; omega), List.take_take, Nat.min_self]
 | succ d ih =>
  intro j k x hj hj1 hk hx
  rw [drop_step (0 : Int) (by omega)]
  have e1 : wrap64 ((j : Int) - 1) = ((j - 1 : Nat) : Int) := by unfold wrap64; omega
  have e2 : rd y (j : Int) = y.getD j 0 := rfl
  have e3 : rd y ((j - 1 : Nat) : Int) = y.getD (j - 1) 0 := rfl
  unfold ddF
  by_cases h : y.getD j 0 = y.getD (j - 1) 0
  ·refine Ev.step (fun q => ?_) (Ev.eq (ih (j + 1) k x (by omega) (by omega) (by omega) hx) (by rw [if_pos h, Nat.add_sub_cancel]))
   simp only [f10z.l1]
   rw [e1, if_pos (by omega), if_pos (by omega), if_pos (by omega), if_pos (by omega), e2, e3, if_pos h, wrap_sm (i := (j : Int) + 1) (by omega) (by omega)]; rfl
  ·refine Ev.step (fun q => ?_) (Ev.eq (ih (j + 1) (k + 1) (x.set k (y.getD j 0)) (by omega) (by omega) (by simp; omega) (by simpa using hx)) ?_)
   ·simp only [f10z.l1]
    rw [e1, if_pos (by omega), if_pos (by omega), if_pos (by omega), if_pos (by omega), e2, e3, if_neg h, if_pos (by omega), if_pos (by omega), wrap_sm (i := (j : Int) + 1) (by omega) (by omega), wrap_sm (i := (k : Int) + 1) (by omega) (by omega), Int.toNat_natCast]; rfl
   ·rw [if_neg h, Nat.add_sub_cancel, List.take_add_one, List.getElem?_set_self (by omega), List.take_set_of_le (by omega)]
    simp
theorem comp0 (x : List Int) (hx : x.length ≤ 2097152) : ∀ (d i : Nat), i + d = x.length → 1 ≤ i → Ev (fun q => f10z.l0 q x (i : Int)) (x.take i ++ ddF (x.getD (i - 1) 0) (x.drop i)) := by
 intro d
 induction d with
 | zero =>
  intro i hi hi1
  rw [List.drop_eq_nil_of_le (by omega)]
  refine Ev.step (f := fun _ => some x) (fun q => ?_) (Ev.eq (Ev.now _) (by rw [List.take_of_length_le (by omega)]; simp [ddF]))
  simp only [f10z.l0]
  rw [if_neg (by omega)]
 | succ d ih =>
  intro i hi hi1
  have e1 : wrap64 ((i : Int) - 1) = ((i - 1 : Nat) : Int) := by unfold wrap64; omega
  have e2 : rd x (i : Int) = x.getD i 0 := rfl
  have e3 : rd x ((i - 1 : Nat) : Int) = x.getD (i - 1) 0 := rfl
  by_cases h : x.getD i 0 = x.getD (i - 1) 0
  ·refine Ev.step (f := fun q => f10z.l1 q x (i : Int) (x.drop i) ((1 : Nat) : Int)) (fun q => ?_) (Ev.eq (comp1 (x.drop i) (by simp; omega) d 1 i x (by simp; omega) (by omega) (by omega) hx) ?_)
   ·simp only [f10z.l0]
    rw [e1, if_pos (by omega), if_pos (by omega), if_pos (by omega), if_pos (by omega), e2, e3, if_pos h, if_pos (by omega), Int.toNat_natCast]; rfl
   ·rw [drop_step (0 : Int) (show i < x.length by omega)]
    conv => rhs; unfold ddF
    rw [if_pos h]
    simp
  ·refine Ev.step (fun q => ?_) (Ev.eq (ih (i + 1) (by omega) (by omega)) ?_)
   ·simp only [f10z.l0]
    rw [e1, if_pos (by omega), if_pos (by omega), if_pos (by omega), if_pos (by omega), e2, e3, if_neg h, wrap_sm (i := (i : Int) + 1) (by omega) (by omega)]; rfl
   ·rw [drop_step (0 : Int) (show i < x.length by omega)]
    conv => rhs; unfold ddF
    rw [if_neg h, Nat.add_sub_cancel, List.take_add_one, getD_ge (z := (0 : Int)) (by omega)]
    simp
theorem comp64 {x : List Int} (hx : x.length ≤ 2097152) : Ev (fun k => f10z.f k x) (cpt x) := by
 unfold f10z.f
 by_cases h : (x.length : Int) < 2
 ·simp only [if_pos h]
  refine Ev.eq (Ev.now _) ?_
  unfold cpt
  rw [List.take_of_length_le (by omega), List.drop_eq_nil_of_le (by omega)]; simp [ddF]
 ·simp only [if_neg h]
  exact comp0 x hx (x.length - 1) 1 (by omega) (by omega)
end Go.Proofs.Ytihnefkkgbokcaa.Pure
set_option linter.unusedVariables false
set_option linter.unusedSimpArgs false
namespace Go.Proofs.Ytihnefkkgbokcaa.Pure
open Go.RowKit Go.Proofs.Ytihnefkkgbokcaa.Q Go.Proofs.YtihnefkkgbokcaaMine Go.Proofs.YtihnefkkgbokcaaW.PrintWords Go.Proofs.YtihnefkkgbokcaaW.PrintMore
section
variable {l : List (S82)}
def addS (l : List (S82)) (out : List Int) (s : Nat) : List Int := if wAt l (s : Int) > 0 then out ++ [(s : Int)] else out
/-- All stops to which a parcel goes. -/
def stps (l : List (S82)) : List Int := (List.range 9).foldl (addS l) []
theorem specStops (hl : l.length ≤ 2097152) : Ev (fun k => spec_l04Stops.f k l) (stps l) := by
 unfold spec_l04Stops.f stps
 refine Ev.eq (fold_ev (fun k s i => spec_l04Stops.l0 k l s i) (List.range 9) 0 (fun j (s : List Int) => s.length ≤ j) (addS l) id (fun j s hj hs => ?_) (fun s hs => ?_) [] (Nat.zero_le _)) rfl
 ·rw [List.length_range] at hj
  have hg : (List.range 9).getD j 0 = j := by rw [List.getD_eq_getElem?_getD, List.getElem?_range hj]; rfl
  rw [hg]
  refine ⟨?_, fun r hr => ?_⟩
  ·unfold addS; split
   ·simp; omega
   ·omega
  ·have hstep : ∀ k, spec_l04Stops.l0 (k + 1) l s (j : Int) = (spec_l04At.f k l (j : Int)).bind fun t => (if t > 0 then (if s.length < 17592186044416 then (spec_l04Stops.l0 k l (s ++ [(j : Int)]) ((j + 1 : Nat) : Int)) else (none)) else (spec_l04Stops.l0 k l s ((j + 1 : Nat) : Int))) := by
    intro k
    simp only [spec_l04Stops.l0]
    rw [if_pos (by omega), wrap_sm (i := (j : Int) + 1) (by omega) (by omega)]; rfl
   refine Ev.step hstep (Ev.bind (specAt hl _) ?_)
   unfold addS at hr
   by_cases h : wAt l (j : Int) > 0
   ·rw [if_pos h] at hr; simp only [if_pos h, if_pos (show s.length < 17592186044416 by omega)]; exact hr
   ·rw [if_neg h] at hr; simp only [if_neg h]; exact hr
 ·rw [List.length_range]
  exact Ev.step (f := fun _ => some s) (fun k => by simp only [spec_l04Stops.l0]; rw [if_neg (by omega)]) (Ev.now _)
theorem stps_gen : ∀ (n : Nat), ((List.range n).foldl (addS l) []).Pairwise (· < ·) ∧ (∀ a, a ∈ (List.range n).foldl (addS l) [] ↔ (0 ≤ a ∧ a < n) ∧ wAt l a > 0)
 | 0 => ⟨List.Pairwise.nil, fun a => by simp only [List.range_zero, List.foldl_nil, List.not_mem_nil, false_iff]; omega⟩
 | n + 1 => by
  obtain ⟨h1, h2⟩ := stps_gen n
  rw [List.range_succ, List.foldl_append, List.foldl_cons, List.foldl_nil]
  unfold addS
  by_cases h : wAt l (n : Int) > 0
  ·rw [if_pos h]
   refine ⟨List.pairwise_append.2 ⟨h1, List.pairwise_singleton _ _, fun a ha b hb => ?_⟩, fun a => ?_⟩
   ·rw [List.mem_singleton] at hb; subst hb
    have := ((h2 a).1 ha).1; omega
   ·rw [List.mem_append, List.mem_singleton]
    constructor
    ·rintro (h3 | h3)
     ·have := (h2 a).1 h3; exact ⟨by omega, this.2⟩
     ·subst h3; exact ⟨by omega, h⟩
    ·rintro ⟨h3, h4⟩
     by_cases e : a = (n : Int)
     ·exact .inr e
     ·exact .inl ((h2 a).2 ⟨by omega, h4⟩)
  ·rw [if_neg h]
   refine ⟨h1, fun a => ?_⟩
   constructor
   ·intro h3
    have := (h2 a).1 h3; exact ⟨by omega, this.2⟩
   ·rintro ⟨h3, h4⟩
    have e : a ≠ (n : Int) := fun e => by rw [e] at h4; exact h h4
    exact (h2 a).2 ⟨by omega, h4⟩
theorem wAt_pos (s : Int) : ∀ (l : List (S82)) (a : Int), (∀ x ∈ l, okP x = true) → 0 ≤ a → a + 5000 * (l.length : Int) ≤ 1000000 → (l.foldl (fun a x => if wrap64 x.f0 = s then wrap64 (a + wrap64 x.f1) else a) a > 0 ↔ a > 0 ∨ ∃ x ∈ l, x.f0 = s) ∧ 0 ≤ l.foldl (fun a x => if wrap64 x.f0 = s then wrap64 (a + wrap64 x.f1) else a) a
 | [], a, _, h0, _ => by simp [h0]
 | x :: xs, a, h, h0, h1 => by
  have hx := h x List.mem_cons_self
  unfold okP at hx
  rw [Bool.and_eq_true, inR_iff, inR_iff] at hx
  simp only [List.length_cons] at h1
  rw [List.foldl_cons, wrap_id (i := x.f0) (by omega) (by omega)]
  by_cases e : x.f0 = s
  ·rw [if_pos e, wrap_id (i := x.f1) (by omega) (by omega), wrap_id (i := a + x.f1) (by omega) (by omega)]
   obtain ⟨i1, i2⟩ := wAt_pos s xs (a + x.f1) (fun y hy => h y (List.mem_cons_of_mem _ hy)) (by omega) (by omega)
   refine ⟨⟨fun _ => .inr ⟨x, List.mem_cons_self, e⟩, fun _ => i1.2 (.inl (by omega))⟩, i2⟩
  ·rw [if_neg e]
   obtain ⟨i1, i2⟩ := wAt_pos s xs a (fun y hy => h y (List.mem_cons_of_mem _ hy)) h0 (by omega)
   refine ⟨?_, i2⟩
   rw [i1]
   constructor
   ·rintro (h3 | ⟨y, hy, h3⟩)
    ·exact .inl h3
    ·exact .inr ⟨y, List.mem_cons_of_mem _ hy, h3⟩
   ·rintro (h3 | ⟨y, hy, h3⟩)
    ·exact .inl h3
    ·rcases List.mem_cons.1 hy with rfl | hy
     ·exact (e h3).elim
     ·exact .inr ⟨y, hy, h3⟩
theorem okPs_all (h : okPs l = true) : l.length ≤ 10 ∧ ∀ x ∈ l, okP x = true := by
 unfold okPs at h
 rw [Bool.and_eq_true, decide_eq_true_eq, List.all_eq_true] at h
 exact ⟨by omega, h.2⟩
theorem implStops (h : okPs l = true) : Ev (fun k => impl_stops.f k l) (stps l) := by
 obtain ⟨hl, hok⟩ := okPs_all h
 unfold impl_stops.f
 have hb := build_ev (fun k s i => impl_stops.l0 k s l (l.length : Int) i) l z82 (fun x => wrap64 x.f0) (fun _ => stps l) (fun m s hm hs r hr => ?_) ?_
 ·exact hb
 ·refine Ev.step (fun k => ?_) hr
  simp only [impl_stops.l0]
  rw [if_pos (by omega), if_pos (by omega), if_pos (by omega), if_pos (by omega), wrap_sm (i := (m : Int) + 1) (by omega) (by omega)]
  rfl
 ·obtain ⟨y, hy, hs, hp⟩ := sort64 (x := l.map (fun x => wrap64 x.f0)) (by rw [List.length_map]; omega)
  have hyl : y.length ≤ 2097152 := by rw [hp.length_eq, List.length_map]; omega
  obtain ⟨c1, c2⟩ := cpt_sorted hs
  obtain ⟨s1, s2⟩ := stps_gen (l := l) 9
  have e : cpt y = stps l := by
   refine rising_one _ _ c1 s1 (fun a => ?_)
   unfold stps
   rw [c2, hp.mem_iff, s2, List.mem_map]
   have hw := (wAt_pos a l 0 hok (by omega) (by omega)).1
   rw [show wAt l a = l.foldl (fun b x => if wrap64 x.f0 = a then wrap64 (b + wrap64 x.f1) else b) 0 from rfl, hw]
   constructor
   ·rintro ⟨x, hx, rfl⟩
    have h3 := hok x hx
    unfold okP at h3
    rw [Bool.and_eq_true, inR_iff, inR_iff] at h3
    have e := wrap_id (i := x.f0) (by omega) (by omega)
    exact ⟨by omega, .inr ⟨x, hx, e.symm⟩⟩
   ·rintro ⟨h2, h3 | ⟨x, hx, h3⟩⟩
    ·omega
    ·exact ⟨x, hx, by rw [h3]; exact wrap_id (by omega) (by omega)⟩
  refine Ev.step (f := fun k => (f9z.f k (l.map (fun x => wrap64 x.f0))).bind fun t => (f10z.f k t).bind fun u => some u) (fun k => ?_) ?_
  ·simp only [impl_stops.l0]
   rw [if_neg (by omega)]
  ·refine Ev.bind hy ?_
   refine Ev.bind (comp64 hyl) ?_
   exact Ev.eq (Ev.now _) e
theorem addS_len : ∀ (cs : List Nat) (out : List Int), (cs.foldl (addS l) out).length ≤ out.length + cs.length
 | [], out => by simp
 | c :: cs, out => by
  have h := addS_len cs (addS l out c)
  rw [List.foldl_cons]
  have h2 : (addS l out c).length ≤ out.length + 1 := by unfold addS; split <;> simp
  simp only [List.length_cons]; omega
end
end Go.Proofs.Ytihnefkkgbokcaa.Pure
set_option linter.unusedVariables false
set_option linter.unusedSimpArgs false
namespace Go.Proofs.Ytihnefkkgbokcaa.Pure
open Go.RowKit Go.Proofs.Ytihnefkkgbokcaa.Q Go.Proofs.YtihnefkkgbokcaaMine Go.Proofs.YtihnefkkgbokcaaW.PrintWords Go.Proofs.YtihnefkkgbokcaaW.PrintMore
theorem hasEv (x : List Int) (hx : x.length ≤ 2097152) (a : Int) : Ev (fun k => spec_l00Has.f k x a) (decide (a ∈ x)) := by
 unfold spec_l00Has.f
 have h := all_ix (fun k i => spec_l00Has.l0 k x a i) x.length (fun j => !decide (x.getD j 0 = a)) true false 0 (fun m _ hm hq => ?_) (fun m _ hm hq r hr => ?_) (fun m hm _ hh _ => ?_)
 ·refine Ev.eq h ?_
  by_cases hm : a ∈ x
  ·obtain ⟨j, hj, e⟩ := List.mem_iff_getElem.1 hm
   rw [if_neg (fun hh => ?_), decide_eq_true hm]
   have := allIx_iff.1 hh j (Nat.zero_le _) hj
   rw [List.getD_eq_getElem?_getD, List.getElem?_eq_getElem hj, Option.getD_some, e] at this
   simp at this
  ·rw [if_pos (allIx_iff.2 (fun j _ hj => ?_)), decide_eq_false hm]
   rw [List.getD_eq_getElem?_getD, List.getElem?_eq_getElem hj, Option.getD_some]
   simp only [Bool.not_eq_true', decide_eq_false_iff_not]
   intro e
   exact hm (e ▸ List.getElem_mem hj)
 ·have e : x.getD m 0 = a := by simpa using hq
  refine Ev.step (f := fun _ => some true) (fun k => ?_) (Ev.now _)
  simp only [spec_l00Has.l0]
  rw [if_pos (by omega), if_pos (by omega), if_pos (by unfold rd; rw [Int.toNat_natCast]; exact e)]
 ·have e : ¬ x.getD m 0 = a := by simpa using hq
  refine Ev.step (fun k => ?_) hr
  simp only [spec_l00Has.l0]
  rw [if_pos (by omega), if_pos (by omega), if_neg (by unfold rd; rw [Int.toNat_natCast]; exact e), wrap_sm (i := (m : Int) + 1) (by omega) (by omega)]
  rfl
 ·refine Ev.step (f := fun _ => some false) (fun k => ?_) (Ev.now _)
  simp only [spec_l00Has.l0]
  rw [if_neg (by omega)]
theorem equalEv (x y : List Int) (hx : x.length ≤ 2097152) : Ev (fun k => f0z.f k x y) (decide (x = y)) := by
 unfold f0z.f
 by_cases hl : x.length = y.length
 ·simp only [if_pos (show (x.length : Int) = (y.length : Int) by omega)]
  have h := all_ix (fun k i => f0z.l0 k x y (x.length : Int) i) x.length (fun j => decide (x.getD j 0 = y.getD j 0)) false true 0 (fun m _ hm hq => ?_) (fun m _ hm hq r hr => ?_) (fun m hm _ hh _ => ?_)
  ·refine Ev.eq h ?_
   by_cases e : x = y
   ·rw [decide_eq_true e, if_pos (allIx_iff.2 (fun j _ _ => by rw [e]; exact decide_eq_true rfl))]
   ·rw [decide_eq_false e, if_neg (fun hh => e ?_)]
    apply List.ext_getElem hl
    intro j h1 h2
    have := of_decide_eq_true (allIx_iff.1 hh j (Nat.zero_le _) h1)
    rwa [List.getD_eq_getElem?_getD, List.getD_eq_getElem?_getD, List.getElem?_eq_getElem h1, List.getElem?_eq_getElem h2] at this
  ·have e : ¬ x.getD m 0 = y.getD m 0 := by simpa using hq
   refine Ev.step (f := fun _ => some false) (fun k => ?_) (Ev.now _)
   simp only [f0z.l0]
   rw [if_pos (by omega), if_pos (by omega), if_pos (by omega), if_pos (by omega), if_neg (by unfold rd; rw [Int.toNat_natCast]; exact e)]
  ·have e : x.getD m 0 = y.getD m 0 := by simpa using hq
   refine Ev.step (fun k => ?_) hr
   simp only [f0z.l0]
   rw [if_pos (by omega), if_pos (by omega), if_pos (by omega), if_pos (by omega), if_pos (by unfold rd; rw [Int.toNat_natCast]; exact e), wrap_sm (i := (m : Int) + 1) (by omega) (by omega)]
   rfl
  ·refine Ev.step (f := fun _ => some true) (fun k => ?_) (Ev.now _)
   simp only [f0z.l0]
   rw [if_neg (by omega)]
 ·simp only [if_neg (show ¬ (x.length : Int) = (y.length : Int) by omega)]
  rw [decide_eq_false (fun e => hl (by rw [e]))]
  exact Ev.now _
theorem perm_of : ∀ (l m : List Int), l.Nodup → (∀ a ∈ l, a ∈ m) → l.length = m.length → l.Perm m
 | [], m, _, _, h => by rw [List.eq_nil_of_length_eq_zero (show m.length = 0 by simpa using h.symm)]
 | x :: xs, m, h1, h2, h3 => by
  obtain ⟨hx, hn⟩ := List.nodup_cons.1 h1
  have hm : x ∈ m := h2 x List.mem_cons_self
  have hp := List.perm_cons_erase hm
  have hl := hp.length_eq
  refine List.Perm.trans (List.Perm.cons x (perm_of xs (m.erase x) hn (fun a ha => ?_) ?_)) hp.symm
  ·exact (List.mem_erase_of_ne (fun e : a = x => hx (by rw [← e]; exact ha))).2 (h2 a (List.mem_cons_of_mem _ ha))
  ·simp only [List.length_cons] at h3 hl; omega
theorem sorted_one : ∀ (l m : List Int), l.Pairwise (· ≤ ·) → m.Pairwise (· ≤ ·) → l.Perm m → l = m
 | [], m, _, _, h => by rw [List.Perm.eq_nil h.symm]
 | x :: xs, [], _, _, h => by have := h.length_eq; simp at this
 | x :: xs, y :: ys, h1, h2, h => by
  obtain ⟨hx, hxs⟩ := List.pairwise_cons.1 h1
  obtain ⟨hy, hys⟩ := List.pairwise_cons.1 h2
  have e : x = y := by
   have a1 : x ∈ y :: ys := h.mem_iff.1 List.mem_cons_self
   have a2 : y ∈ x :: xs := h.mem_iff.2 List.mem_cons_self
   rcases List.mem_cons.1 a1 with e | a1
   ·exact e
   ·rcases List.mem_cons.1 a2 with e | a2
    ·exact e.symm
    ·have := hx y a2; have := hy x a1; omega
  subst e
  rw [sorted_one xs ys hxs hys ((List.perm_cons x).1 h)]
theorem eachIff (l m : List Int) (hm : m.Pairwise (· < ·)) : (l.mergeSort fun x y => decide (x ≤ y)) = m ↔ (l.length = m.length ∧ l.Nodup ∧ ∀ a ∈ l, a ∈ m) := by
 have hp := List.mergeSort_perm l (fun x y => decide (x ≤ y))
 have hn : m.Nodup := hm.imp (fun h => by omega)
 constructor
 ·intro e
  rw [e] at hp
  exact ⟨hp.length_eq.symm, hp.nodup hn, fun a ha => hp.mem_iff.2 ha⟩
 ·rintro ⟨h1, h2, h3⟩
  have h4 := perm_of l m h2 h3 h1
  refine sorted_one _ _ ?_ (hm.imp (fun h => by omega)) (hp.trans h4)
  refine (List.pairwise_mergeSort (le := fun x y => decide (x ≤ y)) (fun a b c h1 h2 => ?_) (fun a b => ?_) l).imp (fun h => of_decide_eq_true h)
  ·have := of_decide_eq_true h1; have := of_decide_eq_true h2; exact decide_eq_true (by omega)
  ·by_cases h : a ≤ b
   ·simp [h]
   ·simp [show b ≤ a by omega]
theorem nodupIx (x : List Int) : x.Nodup ↔ ∀ j, j < x.length → ¬ x.getD j 0 ∈ x.take j := by
 constructor
 ·intro h j hj hm
  rw [List.getD_eq_getElem?_getD, List.getElem?_eq_getElem hj, Option.getD_some] at hm
  obtain ⟨i, hi, e⟩ := List.mem_iff_getElem.1 hm
  rw [List.length_take] at hi
  rw [List.getElem_take] at e
  have := (List.pairwise_iff_getElem.1 h) i j (by omega) hj (by omega)
  exact this e
 ·intro h
  refine List.pairwise_iff_getElem.2 (fun i j hi hj hij e => h j hj ?_)
  rw [List.getD_eq_getElem?_getD, List.getElem?_eq_getElem hj, Option.getD_some, ← e]
  exact List.mem_iff_getElem.2 ⟨i, by rw [List.length_take]; omega, by rw [List.getElem_take]⟩
/-- As many as m, all different, each of m. -/
def eachOf (l m : List Int) : Bool := decide (l.length = m.length ∧ l.Nodup ∧ ∀ a ∈ l, a ∈ m)
theorem isEachEv (l m : List Int) (hm : m.Pairwise (· < ·)) (hl : l.length ≤ 2097152) : Ev (fun k => impl_isEach.f k l m) (eachOf l m) := by
 unfold impl_isEach.f eachOf
 simp only [if_pos (show l.length ≤ 17592186043904 by omega)]
 refine Ev.eq (equalEv _ _ (by rw [List.length_mergeSort]; exact hl)) ?_
 exact decide_eq_decide.2 (eachIff l m hm)
end Go.Proofs.Ytihnefkkgbokcaa.Pure
set_option linter.unusedVariables false
set_option linter.unusedSimpArgs false
namespace Go.Proofs.Ytihnefkkgbokcaa.Pure
open Go.RowKit Go.Proofs.Ytihnefkkgbokcaa.Q Go.Proofs.YtihnefkkgbokcaaMine Go.Proofs.YtihnefkkgbokcaaW.PrintWords Go.Proofs.YtihnefkkgbokcaaW.PrintMore
section
variable {l : List (S82)}
theorem mem_ups {i : Int} {n : Nat} : i ∈ (List.range n).map (fun i : Nat => (i : Int)) ↔ 0 ≤ i ∧ i < n := by
 rw [List.mem_map]
 constructor
 ·rintro ⟨a, ha, rfl⟩; have := List.mem_range.1 ha; omega
 ·rintro ⟨h0, h1⟩; exact ⟨i.toNat, List.mem_range.2 (by omega), by omega⟩
def ups (n : Nat) : List Int := (List.range n).map (fun i : Nat => (i : Int))
theorem ups_rising : ∀ n : Nat, (ups n).Pairwise (· < ·)
 | 0 => List.Pairwise.nil
 | n + 1 => by
  have e : ups (n + 1) = ups n ++ [(n : Int)] := by unfold ups; rw [List.range_succ, List.map_append]; rfl
  rw [e]
  refine List.pairwise_append.2 ⟨ups_rising n, List.pairwise_singleton _ _, fun a ha b hb => ?_⟩
  rw [List.mem_singleton] at hb; subst hb
  exact (mem_ups.1 ha).2
theorem implIndices {n : Nat} (hn : n ≤ 2097152) : Ev (fun k => impl_indices.f k (n : Int)) (ups n) := by
 unfold impl_indices.f
 refine Ev.eq (fold_ev (fun k s i => impl_indices.l0 k s (n : Int) i) (List.range n) 0 (fun j (s : List Int) => s.length ≤ j) (fun (s : List Int) (j : Nat) => s ++ [(j : Int)]) id (fun j s hj hs => ?_) (fun s hs => ?_) [] (Nat.zero_le _)) ?_
 ·rw [List.length_range] at hj
  have hg : (List.range n).getD j 0 = j := by rw [List.getD_eq_getElem?_getD, List.getElem?_range hj]; rfl
  rw [hg]
  refine ⟨by simp; omega, fun r hr => Ev.step (fun k => ?_) hr⟩
  simp only [impl_indices.l0]
  rw [if_pos (by omega), if_pos (by omega), wrap_sm (i := (j : Int) + 1) (by omega) (by omega)]; rfl
 ·rw [List.length_range]
  exact Ev.step (f := fun _ => some s) (fun k => by simp only [impl_indices.l0]; rw [if_neg (by omega)]) (Ev.now _)
 ·unfold ups id
  have : ∀ (x : List Nat) (s : List Int), x.foldl (fun (s : List Int) (j : Nat) => s ++ [(j : Int)]) s = s ++ x.map (fun i : Nat => (i : Int)) := by
   intro x
   induction x with
   | nil => intro s; simp
   | cons y ys ih => intro s; rw [List.foldl_cons, ih]; simp
  rw [this]; rfl
theorem eachEv (n : Nat) (x : List Int) (hn : n ≤ 2097152) (hx : x.length ≤ 2097152) : Ev (fun k => spec_l04Each.f k (n : Int) x) (eachOf x (ups n)) := by
 unfold spec_l04Each.f
 have hun : (ups n).length = n := by unfold ups; simp
 have hin : ∀ a, spec_l00In.f a 0 (wrap64 ((n : Int) - 1)) = some (decide (a ∈ ups n)) := by
  intro a
  rw [wrap_sm (i := (n : Int) - 1) (by omega) (by omega)]
  rw [l00In_eq]
  congr 1
  unfold ups
  by_cases h : 0 ≤ a ∧ a < n
  ·rw [decide_eq_true (mem_ups.2 h)]; exact inR_iff.2 ⟨h.1, by omega⟩
  ·rw [decide_eq_false (fun hh => h (mem_ups.1 hh))]
   cases e : inR a 0 ((n : Int) - 1) with
   | false => rfl
   | true => have := inR_iff.1 e; exact absurd ⟨this.1, by omega⟩ h
 have h := all_ix (fun k i => spec_l04Each.l0 k (n : Int) x i) x.length (fun j => decide (x.getD j 0 ∈ ups n) && !decide (x.getD j 0 ∈ x.take j)) false ((x.length : Int) == (n : Int)) 0 (fun j _ hj hq => ?_) (fun j _ hj hq r hr => ?_) (fun j hj _ hh _ => ?_)
 ·refine Ev.eq h ?_
  unfold eachOf
  rw [hun]
  by_cases hh : allIx 0 x.length (fun j => decide (x.getD j 0 ∈ ups n) && !decide (x.getD j 0 ∈ x.take j)) = true
  ·rw [if_pos hh]
   have h1 : x.Nodup := (nodupIx x).2 (fun j hj => by have := allIx_iff.1 hh j (Nat.zero_le _) hj; simp only [Bool.and_eq_true, Bool.not_eq_true', decide_eq_false_iff_not] at this; exact this.2)
   have h2 : ∀ a ∈ x, a ∈ ups n := fun a ha => by
    obtain ⟨j, hj, e⟩ := List.mem_iff_getElem.1 ha
    have := allIx_iff.1 hh j (Nat.zero_le _) hj
    rw [Bool.and_eq_true, decide_eq_true_eq, List.getD_eq_getElem?_getD, List.getElem?_eq_getElem hj, Option.getD_some, e] at this
    exact this.1
   by_cases e : x.length = n
   ·rw [decide_eq_true ⟨e, h1, h2⟩]; simp [e]
   ·rw [decide_eq_false (fun hc => e hc.1)]; simp; omega
  ·rw [if_neg hh, eq_comm, decide_eq_false_iff_not]
   rintro ⟨_, h1, h2⟩
   refine hh (allIx_iff.2 (fun j _ hj => ?_))
   have := (nodupIx x).1 h1 j hj
   rw [Bool.and_eq_true, decide_eq_true_eq, Bool.not_eq_true', decide_eq_false_iff_not]
   refine ⟨h2 _ ?_, this⟩
   rw [List.getD_eq_getElem?_getD, List.getElem?_eq_getElem hj]; exact List.getElem_mem hj
 ·have e0 : rd x (j : Int) = x.getD j 0 := by unfold rd; rw [Int.toNat_natCast]
  refine Ev.step (f := fun k => (spec_l00In.f (x.getD j 0) 0 (wrap64 ((n : Int) - 1))).bind fun t324 => (if t324 = true then ((spec_l00Has.f k (x.take j) (x.getD j 0)).bind fun t136 => (if t136 = true then (some false) else (spec_l04Each.l0 k (n : Int) x (wrap64 ((j : Int) + 1))))) else (some false))) (fun k => ?_) ?_
  ·simp only [spec_l04Each.l0]
   rw [if_pos (by omega), if_pos (by omega), e0, if_pos (by omega), Int.toNat_natCast]
  ·simp only [hin, Option.bind_some]
   by_cases c : x.getD j 0 ∈ ups n
   ·simp only [decide_eq_true c, if_true]
    refine Ev.bind (hasEv _ (by rw [List.length_take]; omega) _) ?_
    rw [decide_eq_true c, Bool.true_and, Bool.not_eq_false'] at hq
    rw [hq]; exact Ev.now _
   ·simp only [decide_eq_false c, Bool.false_eq_true, if_false]; exact Ev.now _
 ·have e0 : rd x (j : Int) = x.getD j 0 := by unfold rd; rw [Int.toNat_natCast]
  rw [Bool.and_eq_true, decide_eq_true_eq, Bool.not_eq_true'] at hq
  refine Ev.step (f := fun k => (spec_l00In.f (x.getD j 0) 0 (wrap64 ((n : Int) - 1))).bind fun t324 => (if t324 = true then ((spec_l00Has.f k (x.take j) (x.getD j 0)).bind fun t136 => (if t136 = true then (some false) else (spec_l04Each.l0 k (n : Int) x ((j + 1 : Nat) : Int)))) else (some false))) (fun k => ?_) ?_
  ·simp only [spec_l04Each.l0]
   rw [if_pos (by omega), if_pos (by omega), e0, if_pos (by omega), Int.toNat_natCast, wrap_sm (i := (j : Int) + 1) (by omega) (by omega)]
   rfl
  ·simp only [hin, Option.bind_some, decide_eq_true hq.1, if_true]
   refine Ev.bind (hasEv _ (by rw [List.length_take]; omega) _) ?_
   rw [hq.2]
   simp only [Bool.false_eq_true, if_false]
   exact hr
 ·refine Ev.step (f := fun _ => some ((x.length : Int) == (n : Int))) (fun k => ?_) (Ev.now _)
  simp only [spec_l04Each.l0]
  rw [if_neg (by omega)]
/-- One parcel of the load, at a stop: how many are lifted, what is left, whether one has been met. -/
def ownAt (l : List (S82)) (s i : Int) : Bool := decide (wrap64 (l.getD i.toNat z82).f0 = s)
def dgStep (l : List (S82)) (s : Int) (st : Int × List Int × Bool) (i : Int) : Int × List Int × Bool :=
 if ownAt l s i = true then (st.1, st.2.1, true) else ((if st.2.2 = true then st.1 + 1 else st.1), st.2.1 ++ [i], st.2.2)
theorem dg_shift (s : Int) : ∀ (now : List Int) (c : Int) (out : List Int) (met : Bool), now.foldl (dgStep l s) (c, out, met) = (c + (now.foldl (dgStep l s) (0, out, met)).1, (now.foldl (dgStep l s) (0, out, met)).2)
 | [], c, out, met => by simp
 | i :: is, c, out, met => by
  rw [List.foldl_cons, List.foldl_cons]
  unfold dgStep
  by_cases h : ownAt l s i = true
  ·simp only [if_pos h]
   have := dg_shift s is c out true
   unfold dgStep at this
   exact this
  ·simp only [if_neg h]
   cases met with
   | false =>
    simp only [Bool.false_eq_true, if_false]
    have := dg_shift s is c (out ++ [i]) false
    unfold dgStep at this
    exact this
   | true =>
    simp only [if_true]
    have h1 := dg_shift s is (c + 1) (out ++ [i]) true
    have h2 := dg_shift s is (0 + 1) (out ++ [i]) true
    unfold dgStep at h1 h2
    rw [h1, h2]
    exact Prod.ext (by dsimp only; omega) rfl
theorem dg_bounds (s : Int) : ∀ (now : List Int) (c : Int) (out : List Int) (met : Bool), c ≤ (now.foldl (dgStep l s) (c, out, met)).1 ∧ (now.foldl (dgStep l s) (c, out, met)).1 ≤ c + now.length ∧ (now.foldl (dgStep l s) (c, out, met)).2.1.length ≤ out.length + now.length ∧ ∀ a ∈ (now.foldl (dgStep l s) (c, out, met)).2.1, a ∈ out ∨ a ∈ now
 | [], c, out, met => by simp
 | i :: is, c, out, met => by
  rw [List.foldl_cons]
  by_cases h : ownAt l s i = true
  ·have e : dgStep l s (c, out, met) i = (c, out, true) := by unfold dgStep; rw [if_pos h]
   rw [e]
   obtain ⟨h1, h2, h3, h4⟩ := dg_bounds s is c out true
   simp only [List.length_cons]
   exact ⟨h1, by omega, by omega, fun a ha => (h4 a ha).imp id (List.mem_cons_of_mem _)⟩
  ·have e : dgStep l s (c, out, met) i = ((if met = true then c + 1 else c), out ++ [i], met) := by unfold dgStep; rw [if_neg h]
   rw [e]
   obtain ⟨h1, h2, h3, h4⟩ := dg_bounds s is (if met = true then c + 1 else c) (out ++ [i]) met
   rw [List.length_append] at h3
   simp only [List.length_cons, List.length_nil] at h3 ⊢
   refine ⟨?_, ?_, by omega, fun a ha => ?_⟩
   ·cases met with
    | false => simpa using h1
    | true => simp only [if_true] at h1 ⊢; omega
   ·cases met with
    | false => simp only [Bool.false_eq_true, if_false] at h2 ⊢; omega
    | true => simp only [if_true] at h2 ⊢; omega
   ·rcases h4 a ha with h5 | h5
    ·rcases List.mem_append.1 h5 with h6 | h6
     ·exact .inl h6
     ·rw [List.mem_singleton] at h6; subst h6; exact .inr List.mem_cons_self
    ·exact .inr (List.mem_cons_of_mem _ h5)
def inL (l : List (S82)) (x : List Int) : Prop := x.length ≤ 10 ∧ ∀ a ∈ x, 0 ≤ a ∧ a < (l.length : Int)
theorem getD_in {x : List Int} (h : inL l x) {j : Nat} (hj : j < x.length) : 0 ≤ x.getD j 0 ∧ x.getD j 0 < (l.length : Int) := by
 rw [List.getD_eq_getElem?_getD, List.getElem?_eq_getElem hj]; exact h.2 _ (List.getElem_mem hj)
theorem dgStep_own {s i : Int} (h : wrap64 (rd_T82 l i).f0 = s) (st : Int × List Int × Bool) : dgStep l s st i = (st.1, st.2.1, true) := by
 unfold dgStep; exact if_pos (decide_eq_true h)
theorem dgStep_not {s i : Int} (h : ¬ wrap64 (rd_T82 l i).f0 = s) (st : Int × List Int × Bool) : dgStep l s st i = ((if st.2.2 = true then st.1 + 1 else st.1), st.2.1 ++ [i], st.2.2) := by
 unfold dgStep; exact if_neg (fun hh => h (of_decide_eq_true hh))
theorem implDig {now : List Int} (hn : inL l now) (s : Int) : Ev (fun k => impl_dig.f k l now s) ((now.foldl (dgStep l s) (0, [], false)).1, (now.foldl (dgStep l s) (0, [], false)).2.1) := by
 unfold impl_dig.f
 have hl := hn.1
 refine fold_in (fun k (st : Int × List Int × Bool) i => impl_dig.l0 k l s st.1 st.2.1 st.2.2 now (now.length : Int) i) now 0 (fun m st => 0 ≤ st.1 ∧ st.1 ≤ m ∧ st.2.1.length ≤ m) (fun _ st x => dgStep l s st x) _ (fun m st hm hp => ?_) (0, [], false) ⟨by simp, by simp, by simp⟩ (fun _ => ?_)
 ·obtain ⟨c, out, met⟩ := st
  obtain ⟨p1, p2, p3⟩ := hp
  dsimp only at p1 p2 p3 ⊢
  have hg := getD_in hn hm
  have e0 : rd now (m : Int) = now.getD m 0 := by unfold rd; rw [Int.toNat_natCast]
  have ew : wrap64 ((m : Int) + 1) = ((m + 1 : Nat) : Int) := by rw [wrap_sm (i := (m : Int) + 1) (by omega) (by omega)]; rfl
  have hc : c ≤ 10 := by omega
  have ho : out.length ≤ 10 := by omega
  by_cases h : wrap64 (rd_T82 l (now.getD m 0)).f0 = s
  ·rw [dgStep_own h]
   refine ⟨⟨p1, by dsimp only; omega, by dsimp only; omega⟩, fun r hr => Ev.step (fun k => ?_) hr⟩
   simp only [impl_dig.l0]
   rw [if_pos (by omega), if_pos (by omega), if_pos (by omega), e0, if_pos hg.1, if_pos hg.2, ew]
   cases met with
   | true => rw [if_pos rfl, if_pos h]
   | false => rw [if_neg (by simp), if_pos h, show ((wrap64 (rd_T82 l (now.getD m 0)).f0) == s) = true from beq_iff_eq.2 h]
  ·rw [dgStep_not h]
   refine ⟨⟨?_, ?_, by simp; omega⟩, fun r hr => Ev.step (fun k => ?_) hr⟩
   ·dsimp only; split <;> omega
   ·dsimp only; split <;> omega
   ·simp only [impl_dig.l0]
    rw [if_pos (by omega), if_pos (by omega), if_pos (by omega), e0, if_pos hg.1, if_pos hg.2, ew]
    cases met with
    | true =>
     rw [if_pos rfl, if_neg h, if_pos (by omega)]
     unfold impl_bit.f
     simp only [if_true, Option.bind_some]
     rw [wrap_sm (i := c + 1) (by omega) (by omega)]
    | false =>
     rw [if_neg (by simp), if_neg h, if_pos (by omega), show ((wrap64 (rd_T82 l (now.getD m 0)).f0) == s) = false from beq_eq_false_iff_ne.2 h]
     unfold impl_bit.f
     simp only [Bool.false_eq_true, if_false, Option.bind_some]
     rw [wrap_sm (i := c + 0) (by omega) (by omega), Int.add_zero]
 ·refine Ev.step (f := fun _ => some ((foldi (fun _ st x => dgStep l s st x) 0 now (0, [], false)).1, (foldi (fun _ st x => dgStep l s st x) 0 now (0, [], false)).2.1)) (fun k => ?_) ?_
  ·simp only [impl_dig.l0]
   rw [if_neg (by omega)]
  ·rw [foldi_foldl]; exact Ev.now _
/-- One stop. -/
def dgOut (l : List (S82)) (st : Int × List Int) (s : Int) : Int × List Int := ((st.2.foldl (dgStep l s) (st.1, [], false)).1, (st.2.foldl (dgStep l s) (st.1, [], false)).2.1)
def digAll (l : List (S82)) (load v : List Int) : Int := (v.foldl (dgOut l) (0, load)).1
def digP (l : List (S82)) (m : Nat) (st : Int × List Int) : Prop := 0 ≤ st.1 ∧ st.1 ≤ 10 * (m : Int) ∧ inL l st.2
theorem digP_step {m : Nat} {st : Int × List Int} (h : digP l m st) (s : Int) : digP l (m + 1) (dgOut l st s) := by
 obtain ⟨h1, h2, h3, h4⟩ := h
 obtain ⟨b1, b2, b3, b4⟩ := dg_bounds (l := l) s st.2 st.1 [] false
 unfold dgOut
 refine ⟨by dsimp only; omega, by dsimp only; omega, ?_, fun a ha => ?_⟩
 ·dsimp only; simp only [List.length_nil] at b3; omega
 ·rcases b4 a ha with h5 | h5
  ·cases h5
  ·exact h4 a h5
theorem specDigIn {now v : List Int} (hq : inL l now) (c0 : Int) (h0 : 0 ≤ c0) (h1 : c0 ≤ 100) (m : Nat) (hm : (m : Int) < v.length) (hm2 : m < 10) (s : Int) (hs : rd v (m : Int) = s) (r : Int)
  (hr : Ev (fun k => spec_l04Digging.l0 k l v (now.foldl (dgStep l s) (c0, [], false)).1 (now.foldl (dgStep l s) (c0, [], false)).2.1 ((m + 1 : Nat) : Int)) r) : Ev (fun k => spec_l04Digging.l1 k l v c0 now (m : Int) [] false 0) r := by
 have hl := hq.1
 refine fold_in (fun k (st : Int × List Int × Bool) i => spec_l04Digging.l1 k l v st.1 now (m : Int) st.2.1 st.2.2 i) now 0 (fun j st => 0 ≤ st.1 ∧ st.1 ≤ 100 + j ∧ st.2.1.length ≤ j) (fun _ st x => dgStep l s st x) r (fun j st hj hp => ?_) (c0, [], false) ⟨h0, by simp; exact h1, by simp⟩ (fun _ => ?_)
 ·obtain ⟨c, out, met⟩ := st
  obtain ⟨p1, p2, p3⟩ := hp
  dsimp only at p1 p2 p3 ⊢
  have hc : c ≤ 110 := by clear hs hr hm; omega
  have ho : out.length ≤ 10 := by clear hs hr hm; omega
  have hjn : (j : Int) < now.length := Int.ofNat_lt.2 hj
  have hj10 : j < 10 := Nat.lt_of_lt_of_le hj hl
  have hg := getD_in hq hj
  have e0 : rd now (j : Int) = now.getD j 0 := by unfold rd; rw [Int.toNat_natCast]
  have ew : wrap64 ((j : Int) + 1) = ((j + 1 : Nat) : Int) := by clear e0 hs hr hg; rw [wrap_sm (i := (j : Int) + 1) (by omega) (by omega)]; rfl
  have q1 : 0 ≤ c + 1 := by clear hs e0 ew hg hr; omega
  have q2 : c + 1 ≤ 100 + ((j + 1 : Nat) : Int) := by clear hs e0 ew hg hr; omega
  have q3 : c ≤ 100 + ((j + 1 : Nat) : Int) := by clear hs e0 ew hg hr; omega
  have q4 : out.length ≤ j + 1 := Nat.le_succ_of_le p3
  have q5 : out.length < 17592186044416 := by clear hs e0 ew hg hr; omega
  have q6 : wrap64 (c + 1) = c + 1 := by clear hs e0 ew hg hr; exact wrap_sm (by omega) (by omega)
  by_cases h : wrap64 (rd_T82 l (now.getD j 0)).f0 = s
  ·rw [dgStep_own h]
   refine ⟨⟨p1, q3, q4⟩, fun r hr => Ev.step (fun k => ?_) hr⟩
   simp only [spec_l04Digging.l1]
   rw [if_pos hjn, if_pos (Int.natCast_nonneg j), e0, if_pos hg.1, if_pos hg.2, if_pos (Int.natCast_nonneg m), if_pos hm, hs, if_pos h, ew]
  ·rw [dgStep_not h]
   refine ⟨⟨?_, ?_, by rw [List.length_append]; exact Nat.succ_le_succ p3⟩, fun r hr => Ev.step (fun k => ?_) hr⟩
   ·dsimp only; split
    ·exact q1
    ·exact p1
   ·dsimp only; split
    ·exact q2
    ·exact q3
   ·simp only [spec_l04Digging.l1]
    rw [if_pos hjn, if_pos (Int.natCast_nonneg j), e0, if_pos hg.1, if_pos hg.2, if_pos (Int.natCast_nonneg m), if_pos hm, hs, if_neg h, ew]
    cases met with
    | true => rw [if_pos rfl, if_pos q5, q6, if_pos rfl]
    | false => rw [if_neg (by simp), if_pos q5, if_neg (by simp)]
 ·refine Ev.step (f := fun k => spec_l04Digging.l0 k l v (foldi (fun _ st x => dgStep l s st x) 0 now (c0, [], false)).1 (foldi (fun _ st x => dgStep l s st x) 0 now (c0, [], false)).2.1 ((m + 1 : Nat) : Int)) (fun k => ?_) ?_
  ·simp only [spec_l04Digging.l1]
   rw [if_neg (Int.lt_irrefl _), show wrap64 ((m : Int) + 1) = ((m + 1 : Nat) : Int) from by clear hs hr; rw [wrap_sm (i := (m : Int) + 1) (by omega) (by omega)]; rfl]
  ·rw [foldi_foldl]; exact hr
theorem specDigAll {load v : List Int} (hn : inL l load) (hv : v.length ≤ 10) : Ev (fun k => spec_l04Digging.f k l load v) (digAll l load v) := by
 have hln := hn.1
 have e : ∀ k, spec_l04Digging.f k l load v = spec_l04Digging.l0 k l v 0 load 0 := by
  intro k
  unfold spec_l04Digging.f spec_l00Own.f
  simp only [Option.bind_some]
  rw [if_pos (by simp only [List.length_nil]; omega)]
  rfl
 refine Ev.congr e ?_
 unfold digAll
 refine fold_in (fun k (st : Int × List Int) i => spec_l04Digging.l0 k l v st.1 st.2 i) v 0 (digP l) (fun _ st x => dgOut l st x) _ (fun m st hm hp => ⟨digP_step hp _, fun r hr => ?_⟩) (0, load) ⟨by simp, by simp, hn⟩ (fun _ => ?_)
 ·obtain ⟨c0, now⟩ := st
  have hp1 : 0 ≤ c0 := hp.1
  have hp2 : c0 ≤ 10 * (m : Int) := hp.2.1
  have hq : inL l now := hp.2.2
  refine Ev.step (f := fun k => spec_l04Digging.l1 k l v c0 now (m : Int) [] false 0) (fun k => ?_) ?_
  ·simp only [spec_l04Digging.l0]
   rw [if_pos (by omega)]
  ·exact specDigIn hq c0 hp1 (by omega) m (by omega) (by omega) (v.getD m 0) (by unfold rd; rw [Int.toNat_natCast]) r hr
 ·refine Ev.step (f := fun _ => some (foldi (fun _ st x => dgOut l st x) 0 v (0, load)).1) (fun k => ?_) ?_
  ·simp only [spec_l04Digging.l0]
   rw [if_neg (by omega)]
  ·rw [foldi_foldl]; exact Ev.now _
theorem stps_rising (l : List (S82)) : (stps l).Pairwise (· < ·) := (stps_gen (l := l) 9).1
theorem stps_len (l : List (S82)) : (stps l).length ≤ 9 := by
 have := addS_len (l := l) (List.range 9) []
 simp only [List.length_nil, List.length_range] at this
 unfold stps; omega
theorem each_in {load : List Int} (hl : l.length ≤ 10) (h : eachOf load (ups l.length) = true) : inL l load := by
 obtain ⟨h1, _, h3⟩ := of_decide_eq_true h
 have : (ups l.length).length = l.length := by unfold ups; simp
 exact ⟨by omega, fun a ha => mem_ups.1 (h3 a ha)⟩
theorem each_len {v : List Int} (h : eachOf v (stps l) = true) : v.length ≤ 10 := by
 obtain ⟨h1, _, _⟩ := of_decide_eq_true h
 have := stps_len l; omega
theorem dg_rest (s : Int) : ∀ (now : List Int) (c : Int) (out : List Int) (met : Bool), (now.foldl (dgStep l s) (c, out, met)).2.1 = out ++ now.filter (fun i => !ownAt l s i)
 | [], c, out, met => by simp
 | i :: is, c, out, met => by
  rw [List.foldl_cons, List.filter_cons]
  have e : dgStep l s (c, out, met) i = if ownAt l s i = true then (c, out, true) else ((if met = true then c + 1 else c), out ++ [i], met) := rfl
  rw [e]
  cases h : ownAt l s i with
  | true => rw [if_pos rfl, dg_rest s is]; simp
  | false => rw [if_neg (by decide), dg_rest s is]; simp
end
end Go.Proofs.Ytihnefkkgbokcaa.Pure
set_option linter.unusedVariables false
namespace Go.Proofs.Ytihnefkkgbokcaa.Pure
open Go.RowKit Go.Proofs.Ytihnefkkgbokcaa.Q Go.Proofs.YtihnefkkgbokcaaMine Go.Proofs.YtihnefkkgbokcaaW.PrintWords
theorem mask_bit : ∀ p : Fin 512, ∀ x : Fin 9, (Go.bits .and .i64 (shr .i64 (p.val : Int) (x.val : Int)) 1 == 0) = !(p.val.testBit x.val) := by decide +kernel
theorem mask_clr : ∀ p : Fin 512, ∀ x : Fin 9, p.val.testBit x.val = true → Go.bits .andNot .i64 (p.val : Int) (shl .i64 1 (x.val : Int)) = ((p.val - 2 ^ x.val : Nat) : Int) ∧ 2 ^ x.val ≤ p.val := by decide +kernel
theorem mask_tst : ∀ p : Fin 512, ∀ x y : Fin 9, p.val.testBit x.val = true → (p.val - 2 ^ x.val).testBit y.val = (p.val.testBit y.val && !(x.val == y.val)) := by decide +kernel
theorem mask_all : ∀ n : Fin 10, wrap64 ((shl .i64 1 (n.val : Int)) - 1) = ((2 ^ n.val - 1 : Nat) : Int) := by decide +kernel
def cnt (p : Nat) : Nat := ((List.range 9).filter (fun x => p.testBit x)).length
theorem mask_cnt : ∀ p : Fin 512, ∀ x : Fin 9, p.val.testBit x.val = true → cnt (p.val - 2 ^ x.val) < cnt p.val := by decide +kernel
theorem mask_low : ∀ n : Fin 10, ∀ x : Fin 9, (2 ^ n.val - 1).testBit x.val = decide (x.val < n.val) := by decide +kernel
theorem mask_some : ∀ p : Fin 512, 0 < p.val → ∃ x : Fin 9, p.val.testBit x.val = true := by decide +kernel
theorem bit_off {p x : Nat} (hp : p < 512) (hx : x < 9) : Go.bits .and .i64 (shr .i64 (p : Int) (x : Int)) 1 = 0 ↔ p.testBit x = false := by
 have h := mask_bit ⟨p, hp⟩ ⟨x, hx⟩
 simp only at h
 constructor
 ·intro e; rw [e] at h; simpa using h.symm
 ·intro e; rw [e] at h; simpa using h
theorem bit_clr {p x : Nat} (hp : p < 512) (hx : x < 9) (h : p.testBit x = true) : Go.bits .andNot .i64 (p : Int) (shl .i64 1 (x : Int)) = ((p - 2 ^ x : Nat) : Int) ∧ 2 ^ x ≤ p := mask_clr ⟨p, hp⟩ ⟨x, hx⟩ h
theorem bit_tst {p x y : Nat} (hp : p < 512) (hx : x < 9) (hy : y < 9) (h : p.testBit x = true) : (p - 2 ^ x).testBit y = (p.testBit y && !(x == y)) := mask_tst ⟨p, hp⟩ ⟨x, hx⟩ ⟨y, hy⟩ h
theorem bit_cnt {p x : Nat} (hp : p < 512) (hx : x < 9) (h : p.testBit x = true) : cnt (p - 2 ^ x) < cnt p := mask_cnt ⟨p, hp⟩ ⟨x, hx⟩ h
end Go.Proofs.Ytihnefkkgbokcaa.Pure
set_option linter.unusedVariables false
set_option linter.unusedSimpArgs false
namespace Go.Proofs.Ytihnefkkgbokcaa.Pure
open Go.RowKit Go.Proofs.Ytihnefkkgbokcaa.Q Go.Proofs.YtihnefkkgbokcaaMine Go.Proofs.YtihnefkkgbokcaaW.PrintWords
section
variable {l : List (S82)} {all : List Int}
/-- Is the bag's stop (one of all) at a bit that is set? -/
def stands (l : List (S82)) (all : List Int) (p : Nat) (i : Int) : Bool := (List.range all.length).any (fun x => p.testBit x && ownAt l (all.getD x 0) i)
def ldOf (l : List (S82)) (all l1 : List Int) (p : Int) : List Int := l1.filter (stands l all p.toNat)
theorem own_one {s s' i : Int} (h : ownAt l s i = true) (h' : ownAt l s' i = true) : s = s' := by
 unfold ownAt at h h'
 rw [decide_eq_true_eq] at h h'
 rw [← h, ← h']
theorem stands_clr (hn : all.Nodup) (ha : all.length ≤ 9) {p x : Nat} (hp : p < 512) (hx : x < all.length) (h : p.testBit x = true) (i : Int) : stands l all (p - 2 ^ x) i = (stands l all p i && !ownAt l (all.getD x 0) i) := by
 rw [Bool.eq_iff_iff]
 unfold stands
 simp only [List.any_eq_true, List.mem_range, Bool.and_eq_true, Bool.not_eq_true']
 constructor
 ·rintro ⟨y, hy, hb, ho⟩
  rw [bit_tst hp (by omega) (by omega) h, Bool.and_eq_true, Bool.not_eq_true', beq_eq_false_iff_ne] at hb
  refine ⟨⟨y, hy, hb.1, ho⟩, ?_⟩
  cases e : ownAt l (all.getD x 0) i with
  | false => rfl
  | true =>
   have := own_one ho e
   rw [List.getD_eq_getElem?_getD, List.getElem?_eq_getElem hy, List.getD_eq_getElem?_getD, List.getElem?_eq_getElem hx, Option.getD_some, Option.getD_some] at this
   exact absurd ((List.getElem_inj hn).1 this).symm hb.2
 ·rintro ⟨⟨y, hy, hb, ho⟩, he⟩
  refine ⟨y, hy, ?_, ho⟩
  rw [bit_tst hp (by omega) (by omega) h, hb, Bool.true_and, Bool.not_eq_true', beq_eq_false_iff_ne]
  rintro rfl
  rw [ho] at he
  cases he
theorem ld_clr {l1 : List Int} (hn : all.Nodup) (ha : all.length ≤ 9) {p x : Nat} (hp : p < 512) (hx : x < all.length) (h : p.testBit x = true) : (ldOf l all l1 (p : Int)).filter (fun i => !ownAt l (all.getD x 0) i) = ldOf l all l1 ((p - 2 ^ x : Nat) : Int) := by
 unfold ldOf
 rw [List.filter_filter, Int.toNat_natCast, Int.toNat_natCast]
 refine List.filter_congr (fun i _ => ?_)
 rw [stands_clr hn ha hp hx h, Bool.and_comm]
end
end Go.Proofs.Ytihnefkkgbokcaa.Pure
set_option linter.unusedVariables false
set_option linter.unusedSimpArgs false
namespace Go.Proofs.Ytihnefkkgbokcaa.Pure
open Go.RowKit Go.Proofs.Ytihnefkkgbokcaa.Q Go.Proofs.YtihnefkkgbokcaaMine Go.Proofs.YtihnefkkgbokcaaW.PrintWords
section
variable {l : List (S82)} {all : List Int}
theorem dig_more {k d : Nat} {now : List Int} {s : Int} {r : Int × List Int} (h : impl_dig.f k l now s = some r) : impl_dig.f (k + d) l now s = some r := by
 induction d with
 | zero => exact h
 | succ d ih => exact impl_dig.mono _ _ _ _ _ ih
theorem dig_is {k : Nat} {now : List Int} {s t : Int} {r : List Int} (hn : inL l now) (h : impl_dig.f k l now s = some (t, r)) : t = (now.foldl (dgStep l s) (0, [], false)).1 ∧ r = now.filter (fun i => !ownAt l s i) := by
 obtain ⟨K, hK⟩ := implDig hn s
 have h1 := dig_more (d := K) h
 have h2 := hK (k + K) (by omega)
 simp only [h1] at h2
 have h3 := Option.some.inj h2
 have e := dg_rest (l := l) s now 0 [] false
 rw [List.nil_append] at e
 rw [← e]
 exact ⟨congrArg Prod.fst h3, congrArg Prod.snd h3⟩
theorem ld_in {l1 : List Int} (h : inL l l1) (p : Int) : inL l (ldOf l all l1 p) :=
 ⟨Nat.le_trans (List.length_filter_le _ _) h.1, fun a ha => h.2 a (List.mem_filter.1 ha).1⟩
theorem fit_step {l1 : List Int} (h1 : inL l l1) (hn : all.Nodup) (ha : all.length ≤ 9) {q x : Nat} (hq : q < 2 ^ all.length) (hx : x < all.length) (hb : q.testBit x = true) {k : Nat} {t : Int} {r : List Int} (hd : impl_dig.f k l (ldOf l all l1 (q : Int)) (all.getD x 0) = some (t, r)) :
  Go.bits .andNot .i64 (q : Int) (shl .i64 1 (x : Int)) = ((q - 2 ^ x : Nat) : Int) ∧ q - 2 ^ x < 2 ^ all.length ∧ cnt (q - 2 ^ x) < cnt q ∧ r = ldOf l all l1 ((q - 2 ^ x : Nat) : Int) := by
 have h512 : 2 ^ all.length ≤ 2 ^ 9 := Nat.pow_le_pow_right (by decide) ha
 have hq5 : q < 512 := Nat.lt_of_lt_of_le hq h512
 refine ⟨(bit_clr hq5 (by omega) hb).1, Nat.lt_of_le_of_lt (Nat.sub_le _ _) hq, bit_cnt hq5 (by omega) hb, ?_⟩
 rw [(dig_is (ld_in h1 _) hd).2]
 exact ld_clr hn ha hq5 hx hb
end
end Go.Proofs.Ytihnefkkgbokcaa.Pure
set_option linter.unusedVariables false
set_option linter.unusedSimpArgs false
namespace Go.Proofs.Ytihnefkkgbokcaa.Pure
open Go.RowKit Go.Proofs.Ytihnefkkgbokcaa.Q Go.Proofs.YtihnefkkgbokcaaMine Go.Proofs.YtihnefkkgbokcaaW.PrintWords
section
variable {l : List (S82)} {all : List Int}
def Left (all : List Int) (q : Nat) (s : Int) : Prop := s = -1 ∨ ∃ x, x < all.length ∧ q.testBit x = true ∧ all.getD x 0 = s
theorem find_first {q : Nat} (hq : q < 512) (ha : all.length ≤ 9) : ∀ (k : Nat) (x1 : List Int) (x2 x13 x14 x24 : Int) (xW : Int) (r : Int × Int), Left all q x13 → 0 ≤ x24 → impl_BestVisit_1.l0 k (q : Int) x1 x2 x13 x14 all (all.length : Int) x24 l xW = some r → Left all q r.1
 | 0, _, _, _, _, _, _, _, _, _, h => by simp [impl_BestVisit_1.l0] at h
 | k + 1, x1, x2, x13, x14, x24, xW, r, hL, h0, h => by
  simp only [impl_BestVisit_1.l0] at h
  split at h
  ·rename_i hlt
   have hw : 0 ≤ wrap64 (x24 + 1) := by rw [wrap_sm (i := x24 + 1) (by omega) (by omega)]; omega
   split at h
   ·exact find_first hq ha k _ _ _ _ _ _ _ hL hw h
   ·rename_i hb
    have hx : Left all q (rd all x24) := by
     refine .inr ⟨x24.toNat, by omega, ?_, rfl⟩
     have hb' : ¬ Go.bits .and .i64 (shr .i64 (q : Int) ((x24.toNat : Nat) : Int)) 1 = 0 := by rw [Int.toNat_of_nonneg h0]; exact hb
     rw [bit_off hq (by omega)] at hb'
     simpa using hb'
    obtain ⟨bt381, _, h⟩ := Option.bind_eq_some_iff.mp h
    obtain ⟨bt387, _, h⟩ := Option.bind_eq_some_iff.mp h
    split at h
    ·exact find_first hq ha k _ _ _ _ _ _ _ hx hw h
    ·split at h
     ·exact find_first hq ha k _ _ _ _ _ _ _ hx hw h
     ·exact find_first hq ha k _ _ _ _ _ _ _ hL hw h
  ·obtain rfl := Option.some.inj h
   exact hL
end
end Go.Proofs.Ytihnefkkgbokcaa.Pure
set_option linter.unusedVariables false
set_option linter.unusedSimpArgs false
namespace Go.Proofs.Ytihnefkkgbokcaa.Pure
open Go.RowKit Go.Proofs.Ytihnefkkgbokcaa.Q Go.Proofs.YtihnefkkgbokcaaMine Go.Proofs.YtihnefkkgbokcaaW.PrintWords
section
variable {l : List (S82)} {all : List Int}
theorem start_is (ha : all.length ≤ 9) : wrap64 ((shl .i64 1 (all.length : Int)) - 1) = ((2 ^ all.length - 1 : Nat) : Int) := mask_all ⟨all.length, by omega⟩
theorem ld_start {l1 : List Int} (ha : all.length ≤ 9) (h : ∀ i ∈ l1, ∃ x, x < all.length ∧ ownAt l (all.getD x 0) i = true) : ldOf l all l1 ((2 ^ all.length - 1 : Nat) : Int) = l1 := by
 unfold ldOf
 rw [Int.toNat_natCast, List.filter_eq_self]
 intro i hi
 obtain ⟨x, hx, ho⟩ := h i hi
 unfold stands
 rw [List.any_eq_true]
 refine ⟨x, List.mem_range.2 hx, ?_⟩
 have hb := mask_low ⟨all.length, by omega⟩ ⟨x, by omega⟩
 simp only at hb
 rw [hb, ho]
 simp [hx]
end
end Go.Proofs.Ytihnefkkgbokcaa.Pure
set_option linter.unusedVariables false
set_option linter.unusedSimpArgs false
namespace Go.Proofs.Ytihnefkkgbokcaa.Pure
open Go.RowKit Go.Proofs.Ytihnefkkgbokcaa.Q Go.Proofs.YtihnefkkgbokcaaMine Go.Proofs.YtihnefkkgbokcaaW.PrintWords
theorem mask_cnt1 : ∀ p : Fin 512, ∀ x : Fin 9, p.val.testBit x.val = true → cnt (p.val - 2 ^ x.val) + 1 = cnt p.val := by decide +kernel
theorem mask_nil : ∀ p : Fin 512, cnt p.val = 0 → p.val = 0 := by decide +kernel
theorem mask_full : ∀ n : Fin 10, cnt (2 ^ n.val - 1) = n.val := by decide +kernel
theorem foldi_ix {α σ : Type} (z : α) (inv : Nat → σ → Prop) (g : Nat → σ → α → σ) (x : List α) (hs : ∀ m s, m < x.length → inv m s → inv (m + 1) (g m s (x.getD m z))) (s0 : σ) (h0 : inv 0 s0) : inv x.length (foldi g 0 x s0) := by
 suffices hh : ∀ (d m : Nat), m + d = x.length → ∀ s, inv m s → inv x.length (foldi g m (x.drop m) s) from hh x.length 0 (by omega) s0 h0
 intro d
 induction d with
 | zero =>
  intro m hm s h
  obtain rfl : m = x.length := by omega
  rw [List.drop_eq_nil_of_le (by omega)]
  exact h
 | succ d ih =>
  intro m hm s h
  rw [drop_step z (by omega)]
  exact ih (m + 1) (by omega) _ (hs m s (by omega) h)
section
variable {l : List (S82)} {all l1 : List Int} {W : Int}
def dgN (l : List (S82)) (all l1 : List Int) (p : Nat) (s : Int) : Int := ((ldOf l all l1 (p : Int)).foldl (dgStep l s) (0, [], false)).1
def oneC (l : List (S82)) (all l1 : List Int) (W : Int) (p : Nat) (at_ s : Int) : Int := W * dgN l all l1 p s + mx (s - at_) (at_ - s)
/-- One stop tried: the first of the least, what it costs, the visit. -/
def stepC (l : List (S82)) (all l1 : List Int) (W : Int) (R : Nat → Int → Int × Int × List Int) (p : Nat) (at_ : Int) (m : Nat) (st : Int × Int × List Int) (s : Int) : Int × Int × List Int :=
 if p.testBit m = true then (if st.1 < 0 ∨ oneC l all l1 W p at_ s + (R (p - 2 ^ m) s).2.1 < st.2.1 then (s, oneC l all l1 W p at_ s + (R (p - 2 ^ m) s).2.1, s :: (R (p - 2 ^ m) s).2.2) else st) else st
def bodyC (l : List (S82)) (all l1 : List Int) (W : Int) (R : Nat → Int → Int × Int × List Int) (p : Nat) (at_ : Int) : Int × Int × List Int := foldi (stepC l all l1 W R p at_) 0 all (-1, 0, [])
def recC (l : List (S82)) (all l1 : List Int) (W : Int) : Nat → Nat → Int → Int × Int × List Int
 | 0, _, _ => (-1, 0, [])
 | d + 1, p, at_ => bodyC l all l1 W (recC l all l1 W d) p at_
def goodC (l : List (S82)) (all l1 : List Int) (W : Int) (R : Nat → Int → Int × Int × List Int) (p : Nat) (at_ : Int) (m : Nat) (st : Int × Int × List Int) : Prop :=
 (st = (-1, 0, []) ∧ ∀ x, x < m → p.testBit x = false) ∨ ∃ x, x < all.length ∧ p.testBit x = true ∧ st = (all.getD x 0, oneC l all l1 W p at_ (all.getD x 0) + (R (p - 2 ^ x) (all.getD x 0)).2.1, all.getD x 0 :: (R (p - 2 ^ x) (all.getD x 0)).2.2)
theorem good_zero {R : Nat → Int → Int × Int × List Int} {p : Nat} {at_ : Int} : goodC l all l1 W R p at_ 0 (-1, 0, []) := .inl ⟨rfl, fun x hx => absurd hx (by omega)⟩
theorem good_step {R : Nat → Int → Int × Int × List Int} {p : Nat} {at_ : Int} {m : Nat} {st : Int × Int × List Int} (hm : m < all.length) (h : goodC l all l1 W R p at_ m st) : goodC l all l1 W R p at_ (m + 1) (stepC l all l1 W R p at_ m st (all.getD m 0)) := by
 unfold stepC
 by_cases hb : p.testBit m = true
 ·rw [if_pos hb]
  split
  ·exact .inr ⟨m, hm, hb, rfl⟩
  ·rename_i hc
   rcases h with ⟨rfl, _⟩ | h
   ·exact absurd (.inl (by decide)) hc
   ·exact .inr h
 ·rw [if_neg hb]
  rcases h with ⟨h1, h2⟩ | h
  ·refine .inl ⟨h1, fun x hx => ?_⟩
   by_cases e : x = m
   ·rw [e]; simpa using hb
   ·exact h2 x (by omega)
  ·exact .inr h
theorem good_body (R : Nat → Int → Int × Int × List Int) (p : Nat) (at_ : Int) : goodC l all l1 W R p at_ all.length (bodyC l all l1 W R p at_) :=
 foldi_ix 0 (goodC l all l1 W R p at_) _ all (fun m s hm h => good_step hm h) _ good_zero
theorem dgN_bd (h1 : inL l l1) (p : Nat) (s : Int) : 0 ≤ dgN l all l1 p s ∧ dgN l all l1 p s ≤ 10 := by
 unfold dgN
 obtain ⟨b1, b2, _⟩ := dg_bounds (l := l) s (ldOf l all l1 (p : Int)) 0 [] false
 have := (ld_in (all := all) h1 (p : Int)).1
 exact ⟨b1, by omega⟩
theorem prod_bd {a b : Int} (ha : 0 ≤ a) (ha' : a ≤ 100) (hb : 0 ≤ b) (hb' : b ≤ 100) : 0 ≤ a * b ∧ a * b ≤ 100 * b := ⟨Int.mul_nonneg ha hb, Int.mul_le_mul_of_nonneg_right ha' hb⟩
theorem mx_bd {s a : Int} (hs : 0 ≤ s) (hs' : s ≤ 8) (h : 0 ≤ a) (h' : a ≤ 8) : 0 ≤ mx (s - a) (a - s) ∧ mx (s - a) (a - s) ≤ 8 := by
 unfold mx
 split <;> omega
theorem oneC_bd (h1 : inL l l1) (hW : 0 ≤ W) (hW' : W ≤ 100) (p : Nat) {s a : Int} (hs : 0 ≤ s) (hs' : s ≤ 8) (h : 0 ≤ a) (h' : a ≤ 8) : 0 ≤ oneC l all l1 W p a s ∧ oneC l all l1 W p a s ≤ 1008 := by
 unfold oneC
 obtain ⟨d0, d1⟩ := dgN_bd (all := all) h1 p s
 have hp := prod_bd hW hW' d0 (by omega)
 have hm := mx_bd hs hs' h h'
 constructor
 ·exact Int.add_nonneg hp.1 hm.1
 ·generalize W * dgN l all l1 p s = q at *
  omega
theorem own_wrap {W d s a nx : Int} (hW : 0 ≤ W) (hW' : W ≤ 100) (hd : 0 ≤ d) (hd' : d ≤ 10) (hs : 0 ≤ s) (hs' : s ≤ 8) (h : 0 ≤ a) (h' : a ≤ 8) (hn : 0 ≤ nx) (hn' : nx ≤ 100000) : wrap64 (wrap64 (wrap64 (W * d) + mx (wrap64 (s - a)) (wrap64 (a - s))) + nx) = W * d + mx (s - a) (a - s) + nx := by
 have hp := prod_bd hW hW' hd (by omega)
 have hm := mx_bd hs hs' h h'
 rw [wrap_sm (i := s - a) (by omega) (by omega), wrap_sm (i := a - s) (by omega) (by omega)]
 generalize W * d = q at *
 generalize mx (s - a) (a - s) = m at *
 rw [wrap_sm (i := q) (by omega) (by omega), wrap_sm (i := q + m) (by omega) (by omega), wrap_sm (i := q + m + nx) (by omega) (by omega)]
theorem at_mem {x : Nat} (hx : x < all.length) : all.getD x 0 ∈ all := by
 rw [List.getD_eq_getElem?_getD, List.getElem?_eq_getElem hx, Option.getD_some]
 exact List.getElem_mem hx
theorem recC_bd (h1 : inL l l1) (hW : 0 ≤ W) (hW' : W ≤ 100) (hA : ∀ s ∈ all, 0 ≤ s ∧ s ≤ 8) : ∀ (d p : Nat) (a : Int), 0 ≤ a → a ≤ 8 → 0 ≤ (recC l all l1 W d p a).2.1 ∧ (recC l all l1 W d p a).2.1 ≤ 1008 * (d : Int)
 | 0, _, _, _, _ => ⟨Int.le_refl _, Int.le_refl _⟩
 | d + 1, p, a, h, h' => by
  unfold recC
  rcases good_body (l := l) (all := all) (l1 := l1) (W := W) (recC l all l1 W d) p a with ⟨e, _⟩ | ⟨x, hx, _, e⟩
  ·rw [e]; dsimp only; omega
  ·rw [e]
   dsimp only
   have hs := hA _ (at_mem hx)
   have b1 := oneC_bd (all := all) h1 hW hW' p hs.1 hs.2 h h'
   have b2 := recC_bd h1 hW hW' hA d (p - 2 ^ x) _ hs.1 hs.2
   omega
theorem body_nil (R : Nat → Int → Int × Int × List Int) {p : Nat} (at_ : Int) (h : ∀ x, x < all.length → p.testBit x = false) : bodyC l all l1 W R p at_ = (-1, 0, []) := by
 rcases good_body (l := l) (all := all) (l1 := l1) (W := W) R p at_ with ⟨e, _⟩ | ⟨x, hx, hb, _⟩
 ·exact e
 ·rw [h x hx] at hb; cases hb
theorem low_bit {p n : Nat} (hp : p < 2 ^ n) (hn : n ≤ 9) (h0 : p ≠ 0) : ∃ x, x < n ∧ p.testBit x = true := by
 have h512 : 2 ^ n ≤ 2 ^ 9 := Nat.pow_le_pow_right (by decide) hn
 obtain ⟨x, hx⟩ := mask_some ⟨p, Nat.lt_of_lt_of_le hp h512⟩ (by show 0 < p; omega)
 refine ⟨x.val, ?_, hx⟩
 by_cases hl : x.val < n
 ·exact hl
 ·have : p < 2 ^ x.val := Nat.lt_of_lt_of_le hp (Nat.pow_le_pow_right (by decide) (by omega))
  rw [Nat.testBit_lt_two_pow this] at hx
  cases hx
theorem body_some (R : Nat → Int → Int × Int × List Int) {p : Nat} (at_ : Int) (hp : p < 2 ^ all.length) (ha : all.length ≤ 9) (h0 : p ≠ 0) : ∃ x, x < all.length ∧ p.testBit x = true ∧ bodyC l all l1 W R p at_ = (all.getD x 0, oneC l all l1 W p at_ (all.getD x 0) + (R (p - 2 ^ x) (all.getD x 0)).2.1, all.getD x 0 :: (R (p - 2 ^ x) (all.getD x 0)).2.2) := by
 rcases good_body (l := l) (all := all) (l1 := l1) (W := W) R p at_ with ⟨_, e⟩ | h
 ·obtain ⟨x, hx, hb⟩ := low_bit hp ha h0
  rw [e x hx] at hb; cases hb
 ·exact h
theorem ld_dig (hn : all.Nodup) (ha : all.length ≤ 9) {p x : Nat} (hp : p < 2 ^ all.length) (hx : x < all.length) (hb : p.testBit x = true) : ((ldOf l all l1 (p : Int)).foldl (dgStep l (all.getD x 0)) (0, [], false)).2.1 = ldOf l all l1 ((p - 2 ^ x : Nat) : Int) := by
 have h512 : 2 ^ all.length ≤ 2 ^ 9 := Nat.pow_le_pow_right (by decide) ha
 have e := dg_rest (l := l) (all.getD x 0) (ldOf l all l1 (p : Int)) 0 [] false
 rw [List.nil_append] at e
 rw [e]
 exact ld_clr hn ha (Nat.lt_of_lt_of_le hp h512) hx hb
end
end Go.Proofs.Ytihnefkkgbokcaa.Pure
set_option linter.unusedVariables false
set_option linter.unusedSimpArgs false
namespace Go.Proofs.Ytihnefkkgbokcaa.Pure
open Go.RowKit Go.Proofs.Ytihnefkkgbokcaa.Q Go.Proofs.YtihnefkkgbokcaaMine Go.Proofs.YtihnefkkgbokcaaW.PrintWords
section
variable {l : List (S82)} {all l1 : List Int} {W : Int}
theorem find_loop (h1 : inL l l1) (hn : all.Nodup) (ha : all.length ≤ 9) (hA : ∀ s ∈ all, 0 ≤ s ∧ s ≤ 8) (hW : 0 ≤ W) (hW' : W ≤ 100) (R : Nat → Int → Int × Int × List Int) {p : Nat} (hp : p < 2 ^ all.length) {at_ : Int} (h0 : 0 ≤ at_) (h8 : at_ ≤ 8)
  (hR : ∀ x, x < all.length → p.testBit x = true → Ev (fun k => impl_BestVisit_1.f k ((p - 2 ^ x : Nat) : Int) (ldOf l all l1 ((p - 2 ^ x : Nat) : Int)) (all.getD x 0) all l W) ((R (p - 2 ^ x) (all.getD x 0)).1, (R (p - 2 ^ x) (all.getD x 0)).2.1))
  (hB : ∀ x, x < all.length → 0 ≤ (R (p - 2 ^ x) (all.getD x 0)).2.1 ∧ (R (p - 2 ^ x) (all.getD x 0)).2.1 ≤ 100000) :
  Ev (fun k => impl_BestVisit_1.f k (p : Int) (ldOf l all l1 (p : Int)) at_ all l W) ((bodyC l all l1 W R p at_).1, (bodyC l all l1 W R p at_).2.1) := by
 have h512 : 2 ^ all.length ≤ 2 ^ 9 := Nat.pow_le_pow_right (by decide) ha
 have hp5 : p < 512 := Nat.lt_of_lt_of_le hp h512
 refine Ev.step (f := fun k => impl_BestVisit_1.l0 k (p : Int) (ldOf l all l1 (p : Int)) at_ (-1) 0 all (all.length : Int) 0 l W) (fun k => by simp only [impl_BestVisit_1.f]) ?_
 refine fold_in (fun k (st : Int × Int × List Int) i => impl_BestVisit_1.l0 k (p : Int) (ldOf l all l1 (p : Int)) at_ st.1 st.2.1 all (all.length : Int) i l W) all 0 (goodC l all l1 W R p at_) (stepC l all l1 W R p at_) _ (fun m st hm hg => ⟨good_step hm hg, fun r hr => ?_⟩) (-1, 0, []) good_zero (fun _ => ?_)
 ·have e0 : rd all (m : Int) = all.getD m 0 := by unfold rd; rw [Int.toNat_natCast]
  have ew : wrap64 ((m : Int) + 1) = ((m + 1 : Nat) : Int) := by rw [wrap_sm (i := (m : Int) + 1) (by omega) (by omega)]; rfl
  have hs := hA _ (at_mem hm)
  unfold stepC at hr
  cases hb : p.testBit m with
  | false =>
   rw [hb, if_neg (by decide)] at hr
   refine Ev.step (fun k => ?_) hr
   simp only [impl_BestVisit_1.l0]
   rw [if_pos (by omega), if_pos (by omega), if_pos (by omega), if_pos ((bit_off hp5 (by omega)).2 hb), ew]
  | true =>
   rw [hb, if_pos rfl] at hr
   have hc := (bit_clr hp5 (by omega) hb).1
   refine Ev.step (f := fun k => (impl_dig.f k l (ldOf l all l1 (p : Int)) (all.getD m 0)).bind fun bt381 => ((impl_BestVisit_1.f k ((p - 2 ^ m : Nat) : Int) bt381.2 (all.getD m 0) all l W).bind fun bt387 => (if st.1 < 0 then (impl_BestVisit_1.l0 k (p : Int) (ldOf l all l1 (p : Int)) at_ (all.getD m 0) (wrap64 ((wrap64 ((wrap64 (W * bt381.1)) + (mx (wrap64 ((all.getD m 0) - at_)) (wrap64 (at_ - (all.getD m 0)))))) + bt387.2)) all (all.length : Int) ((m + 1 : Nat) : Int) l W) else (if (wrap64 ((wrap64 ((wrap64 (W * bt381.1)) + (mx (wrap64 ((all.getD m 0) - at_)) (wrap64 (at_ - (all.getD m 0)))))) + bt387.2)) < st.2.1 then (impl_BestVisit_1.l0 k (p : Int) (ldOf l all l1 (p : Int)) at_ (all.getD m 0) (wrap64 ((wrap64 ((wrap64 (W * bt381.1)) + (mx (wrap64 ((all.getD m 0) - at_)) (wrap64 (at_ - (all.getD m 0)))))) + bt387.2)) all (all.length : Int) ((m + 1 : Nat) : Int) l W) else (impl_BestVisit_1.l0 k (p : Int) (ldOf l all l1 (p : Int)) at_ st.1 st.2.1 all (all.length : Int) ((m + 1 : Nat) : Int) l W))))) (fun k => ?_) ?_
   ·simp only [impl_BestVisit_1.l0]
    rw [if_pos (by omega), if_pos (by omega), if_pos (by omega), if_neg (fun h => by have := (bit_off hp5 (by omega)).1 h; rw [hb] at this; cases this), ew, e0, hc]
   ·refine Ev.bind (implDig (ld_in h1 _) _) ?_
    dsimp only
    rw [ld_dig hn ha hp hm hb]
    refine Ev.bind (hR m hm hb) ?_
    dsimp only
    have hB' := hB m hm
    obtain ⟨d0, d1⟩ := dgN_bd (all := all) h1 p (all.getD m 0)
    rw [show ((ldOf l all l1 (p : Int)).foldl (dgStep l (all.getD m 0)) (0, [], false)).1 = dgN l all l1 p (all.getD m 0) from rfl, own_wrap hW hW' d0 d1 hs.1 hs.2 h0 h8 hB'.1 hB'.2]
    rw [show W * dgN l all l1 p (all.getD m 0) + mx (all.getD m 0 - at_) (at_ - all.getD m 0) = oneC l all l1 W p at_ (all.getD m 0) from rfl]
    by_cases c1 : st.1 < 0
    ·rw [if_pos (.inl c1)] at hr
     simp only [if_pos c1]; exact hr
    ·by_cases c2 : oneC l all l1 W p at_ (all.getD m 0) + (R (p - 2 ^ m) (all.getD m 0)).2.1 < st.2.1
     ·rw [if_pos (.inr c2)] at hr
      simp only [if_neg c1, if_pos c2]; exact hr
     ·rw [if_neg (fun h => h.elim c1 c2)] at hr
      simp only [if_neg c1, if_neg c2]; exact hr
 ·refine Ev.step (f := fun _ => some ((bodyC l all l1 W R p at_).1, (bodyC l all l1 W R p at_).2.1)) (fun k => ?_) (Ev.now _)
  simp only [impl_BestVisit_1.l0]
  rw [if_neg (by omega)]; rfl
theorem find_is (h1 : inL l l1) (hn : all.Nodup) (ha : all.length ≤ 9) (hA : ∀ s ∈ all, 0 ≤ s ∧ s ≤ 8) (hW : 0 ≤ W) (hW' : W ≤ 100) : ∀ (d p : Nat) (at_ : Int), cnt p = d → p < 2 ^ all.length → 0 ≤ at_ → at_ ≤ 8 →
  Ev (fun k => impl_BestVisit_1.f k (p : Int) (ldOf l all l1 (p : Int)) at_ all l W) ((recC l all l1 W d p at_).1, (recC l all l1 W d p at_).2.1)
 | 0, p, at_, hd, hp, h0, h8 => by
  have h512 : 2 ^ all.length ≤ 2 ^ 9 := Nat.pow_le_pow_right (by decide) ha
  have hz : p = 0 := mask_nil ⟨p, Nat.lt_of_lt_of_le hp h512⟩ hd
  have h := find_loop h1 hn ha hA hW hW' (fun _ _ => (-1, 0, [])) hp h0 h8 (fun x hx hb => by rw [hz, Nat.zero_testBit] at hb; cases hb) (fun x hx => ⟨Int.le_refl _, by dsimp only; omega⟩)
  rw [body_nil _ _ (fun x hx => by rw [hz, Nat.zero_testBit])] at h
  exact h
 | d + 1, p, at_, hd, hp, h0, h8 => by
  have h512 : 2 ^ all.length ≤ 2 ^ 9 := Nat.pow_le_pow_right (by decide) ha
  have hp5 : p < 512 := Nat.lt_of_lt_of_le hp h512
  refine find_loop h1 hn ha hA hW hW' (recC l all l1 W d) hp h0 h8 (fun x hx hb => ?_) (fun x hx => ?_)
  ·have hc := mask_cnt1 ⟨p, hp5⟩ ⟨x, by omega⟩ hb
   have hs := hA _ (at_mem hx)
   exact find_is h1 hn ha hA hW hW' d (p - 2 ^ x) _ (by simp only at hc; omega) (Nat.lt_of_le_of_lt (Nat.sub_le _ _) hp) hs.1 hs.2
  ·have hs := hA _ (at_mem hx)
   have b := recC_bd (all := all) h1 hW hW' hA d (p - 2 ^ x) _ hs.1 hs.2
   have hd9 : d ≤ 9 := by
    have : cnt p ≤ 9 := by
     unfold cnt
     have := List.length_filter_le (fun x => p.testBit x) (List.range 9)
     rwa [List.length_range] at this
    omega
   omega
theorem index_is (hn : all.Nodup) (ha : all.length ≤ 9) {x : Nat} (hx : x < all.length) : Ev (fun k => f1z.f k all (all.getD x 0)) (x : Int) := by
 unfold f1z.f
 suffices hh : ∀ (d m : Nat), m + d = x → Ev (fun k => f1z.l0 k all (all.getD x 0) (all.length : Int) (m : Int)) (x : Int) from hh x 0 (by omega)
 intro d
 induction d with
 | zero =>
  intro m hm
  obtain rfl : m = x := by omega
  refine Ev.step (f := fun _ => some (m : Int)) (fun k => ?_) (Ev.now _)
  simp only [f1z.l0]
  rw [if_pos (by omega), if_pos (by omega), if_pos (by omega), if_pos (by unfold rd; rw [Int.toNat_natCast])]
 | succ d ih =>
  intro m hm
  refine Ev.step (f := fun k => f1z.l0 k all (all.getD x 0) (all.length : Int) ((m + 1 : Nat) : Int)) (fun k => ?_) (ih (m + 1) (by omega))
  simp only [f1z.l0]
  rw [if_pos (by omega), if_pos (by omega), if_pos (by omega), if_neg ?_, wrap_sm (i := (m : Int) + 1) (by omega) (by omega)]
  ·rfl
  ·unfold rd
   rw [Int.toNat_natCast, List.getD_eq_getElem?_getD, List.getElem?_eq_getElem hx, List.getD_eq_getElem?_getD, List.getElem?_eq_getElem (show m < all.length by omega), Option.getD_some, Option.getD_some]
   intro e
   have := (List.getElem_inj hn).1 e
   omega
theorem outer_is (h1 : inL l l1) (hn : all.Nodup) (ha : all.length ≤ 9) (hA : ∀ s ∈ all, 0 ≤ s ∧ s ≤ 8) (hW : 0 ≤ W) (hW' : W ≤ 100) (cost : Int) : ∀ (d p : Nat) (at_ : Int) (out : List Int), cnt p = d → p < 2 ^ all.length → 0 ≤ at_ → at_ ≤ 8 → out.length + d ≤ 9 →
  Ev (fun k => impl_BestVisit.l0 k (ldOf l all l1 (p : Int)) (p : Int) at_ cost out l all W) (out ++ (recC l all l1 W d p at_).2.2, cost, 0)
 | 0, p, at_, out, hd, hp, h0, h8, ho => by
  have h512 : 2 ^ all.length ≤ 2 ^ 9 := Nat.pow_le_pow_right (by decide) ha
  have hz : p = 0 := mask_nil ⟨p, Nat.lt_of_lt_of_le hp h512⟩ hd
  subst hz
  refine Ev.step (f := fun _ => some (out, cost, 0)) (fun k => ?_) (Ev.eq (Ev.now _) ?_)
  ·simp only [impl_BestVisit.l0]
   rw [if_neg (by omega)]
  ·unfold recC; rw [List.append_nil]
 | d + 1, p, at_, out, hd, hp, h0, h8, ho => by
  have h512 : 2 ^ all.length ≤ 2 ^ 9 := Nat.pow_le_pow_right (by decide) ha
  have hp5 : p < 512 := Nat.lt_of_lt_of_le hp h512
  have hz : p ≠ 0 := by
   rintro rfl
   have e : cnt 0 = 0 := by decide +kernel
   omega
  obtain ⟨x, hx, hb, e⟩ := body_some (l := l) (l1 := l1) (W := W) (recC l all l1 W d) at_ hp ha hz
  have hF := find_is h1 hn ha hA hW hW' (d + 1) p at_ hd hp h0 h8
  have hs := hA _ (at_mem hx)
  have hc := mask_cnt1 ⟨p, hp5⟩ ⟨x, by omega⟩ hb
  have er : recC l all l1 W (d + 1) p at_ = bodyC l all l1 W (recC l all l1 W d) p at_ := rfl
  rw [er, e] at hF ⊢
  dsimp only at hF ⊢
  refine Ev.step (f := fun k => (impl_BestVisit_1.f k (p : Int) (ldOf l all l1 (p : Int)) at_ all l W).bind fun bt409 => (if out.length < 17592186044416 then ((impl_dig.f k l (ldOf l all l1 (p : Int)) bt409.1).bind fun bt414 => ((f1z.f k all bt409.1).bind fun t418 => (if 0 ≤ t418 then (impl_BestVisit.l0 k bt414.2 (Go.bits .andNot .i64 (p : Int) (shl .i64 1 t418)) bt409.1 cost (out ++ [bt409.1]) l all W) else (none)))) else (none))) (fun k => ?_) ?_
  ·simp only [impl_BestVisit.l0]
   rw [if_pos (by omega)]
  ·refine Ev.bind hF ?_
   dsimp only
   simp only [if_pos (show out.length < 17592186044416 by omega)]
   refine Ev.bind (implDig (ld_in h1 _) _) ?_
   dsimp only
   rw [ld_dig hn ha hp hx hb]
   refine Ev.bind (index_is hn ha hx) ?_
   simp only [if_pos (show (0 : Int) ≤ (x : Int) by omega), (bit_clr hp5 (show x < 9 by omega) hb).1]
   refine Ev.eq (outer_is h1 hn ha hA hW hW' cost d (p - 2 ^ x) (all.getD x 0) (out ++ [all.getD x 0]) (by simp only at hc; omega) (Nat.lt_of_le_of_lt (Nat.sub_le _ _) hp) hs.1 hs.2 (by rw [List.length_append, List.length_singleton]; omega)) ?_
   rw [List.append_assoc]; rfl
end
end Go.Proofs.Ytihnefkkgbokcaa.Pure
set_option linter.unusedVariables false
set_option linter.unusedSimpArgs false
namespace Go.Proofs.Ytihnefkkgbokcaa.Pure
open Go.RowKit Go.Proofs.Ytihnefkkgbokcaa.Q Go.Proofs.YtihnefkkgbokcaaMine Go.Proofs.YtihnefkkgbokcaaW.PrintWords
theorem ev_det {α : Type} {g : Nat → Option α} (hg : ∀ k, LeO (g k) (g (k + 1))) {j : Nat} {r s : α} (h : g j = some r) (he : Ev g s) : r = s := by
 obtain ⟨K, hK⟩ := Ev.of hg h
 obtain ⟨K', hK'⟩ := he
 have e1 := hK (max K K') (by omega)
 rw [hK' (max K K') (by omega)] at e1
 exact (Option.some.inj e1).symm
section
variable {l : List (S82)} {all l1 : List Int} {W : Int}
theorem stps_bd {s : Int} (h : s ∈ stps l) : 0 ≤ s ∧ s ≤ 8 := by
 have := ((stps_gen (l := l) 9).2 s).1 h
 omega
theorem stps_nodup (l : List (S82)) : (stps l).Nodup := (stps_rising l).imp (fun h => by omega)
theorem stps_own (ho : okPs l = true) {i : Int} (h0 : 0 ≤ i) (h1 : i < (l.length : Int)) : ∃ x, x < (stps l).length ∧ ownAt l ((stps l).getD x 0) i = true := by
 obtain ⟨hl, hok⟩ := okPs_all ho
 have hm := (get_mem z82 (show i.toNat < l.length by omega)).1
 have hx := hok _ hm
 unfold okP at hx
 rw [Bool.and_eq_true, inR_iff, inR_iff] at hx
 have hin : (l.getD i.toNat z82).f0 ∈ stps l := by
  refine ((stps_gen (l := l) 9).2 _).2 ⟨by omega, ?_⟩
  exact (wAt_pos _ l 0 hok (by omega) (by omega)).1.2 (.inr ⟨_, hm, rfl⟩)
 obtain ⟨x, hx2, e⟩ := List.mem_iff_getElem.1 hin
 refine ⟨x, hx2, ?_⟩
 unfold ownAt
 rw [decide_eq_true_eq, List.getD_eq_getElem?_getD (l := stps l), List.getElem?_eq_getElem hx2, Option.getD_some, e]
 exact wrap_id (by omega) (by omega)
theorem index_at (hn : all.length ≤ 9) {s : Int} : ∀ (k : Nat) (i0 i : Int), 0 ≤ i0 → f1z.l0 k all s (all.length : Int) i0 = some i → i = -1 ∨ (0 ≤ i ∧ i < (all.length : Int) ∧ rd all i = s)
 | 0, _, _, _, h => by simp [f1z.l0] at h
 | k + 1, i0, i, h0, h => by
  simp only [f1z.l0] at h
  split at h
  ·rename_i hlt
   split at h
   ·rename_i e
    obtain rfl := Option.some.inj h
    exact .inr ⟨h0, hlt, e.symm⟩
   ·exact index_at hn k _ _ (by rw [wrap_sm (i := i0 + 1) (by omega) (by omega)]; omega) h
  ·obtain rfl := Option.some.inj h
   exact .inl rfl
theorem wf_sm {i : Int} (h0 : 0 ≤ i) (h1 : i ≤ 4611686018427387904) : (Lit.int .i64 i).wf = true := by
 rw [← wrap_sm (i := i) (by omega) h1]
 exact wrap64_wf _
theorem fit_is (h1 : inL l l1) (hn : all.Nodup) (ha : all.length ≤ 9) (hA : ∀ s ∈ all, 0 ≤ s ∧ s ≤ 8) (hO : ∀ i ∈ l1, ∃ x, x < all.length ∧ ownAt l (all.getD x 0) i = true) : impl_BestVisit.Fit (ups (2 ^ all.length)) (ldOf l all l1) (fun p => cnt p.toNat) all l l1 W := by
 have h512 : 2 ^ all.length ≤ 2 ^ 9 := Nat.pow_le_pow_right (by decide) ha
 have hpos : 0 < 2 ^ all.length := Nat.pow_pos (by decide)
 have hlen : (ups (2 ^ all.length)).length = 2 ^ all.length := by unfold ups; simp
 have hst := start_is ha
 refine ⟨?_, ?_, ?_, ?_, ?_, ?_, ?_⟩
 ·intro p hp x hx0 hx hb k t r hd
  obtain ⟨p0, p1⟩ := mem_ups.1 hp
  obtain ⟨q, rfl⟩ := Int.eq_ofNat_of_zero_le p0
  obtain ⟨y, rfl⟩ := Int.eq_ofNat_of_zero_le hx0
  have hq : q < 2 ^ all.length := Int.ofNat_lt.1 p1
  have hy : y < all.length := Int.ofNat_lt.1 hx
  have hb2 : q.testBit y = true := by
   rw [bit_off (Nat.lt_of_lt_of_le hq h512) (by omega)] at hb
   simpa using hb
  have e0 : rd all (y : Int) = all.getD y 0 := by unfold rd; rw [Int.toNat_natCast]
  rw [e0] at hd
  obtain ⟨f1, f2, f3, f4⟩ := fit_step h1 hn ha hq hy hb2 hd
  rw [f1]
  refine ⟨mem_ups.2 ⟨Int.natCast_nonneg _, Int.ofNat_lt.2 f2⟩, ?_, f4⟩
  rw [Int.toNat_natCast, Int.toNat_natCast]
  exact f3
 ·rw [hlen]
  have : 2 ^ all.length * all.length ≤ 2 ^ 9 * 9 := Nat.mul_le_mul h512 ha
  exact Nat.lt_of_le_of_lt this (by decide)
 ·intro p hp
  obtain ⟨p0, p1⟩ := mem_ups.1 hp
  have h5 : ((2 ^ all.length : Nat) : Int) ≤ 512 := Int.ofNat_le.2 h512
  exact wf_sm p0 (by omega)
 ·intro s hs
  have := hA s hs
  exact wf_sm this.1 (by omega)
 ·rw [hst]
  exact mem_ups.2 ⟨Int.natCast_nonneg _, Int.ofNat_lt.2 (by omega)⟩
 ·rw [hst]
  exact ld_start ha hO
 ·intro k p a s c t r i hp hp0 hf hd hi hi0
  obtain ⟨p0, p1⟩ := mem_ups.1 hp
  obtain ⟨q, rfl⟩ := Int.eq_ofNat_of_zero_le p0
  have hq : q < 2 ^ all.length := Int.ofNat_lt.1 p1
  have hq5 : q < 512 := Nat.lt_of_lt_of_le hq h512
  have hL : Left all q s := by
   cases k with
   | zero => simp [impl_BestVisit_1.f] at hf
   | succ k =>
    simp only [impl_BestVisit_1.f] at hf
    exact find_first hq5 ha k _ _ _ _ _ _ _ (.inl rfl) (Int.le_refl _) hf
  have hI : i = -1 ∨ (0 ≤ i ∧ i < (all.length : Int) ∧ rd all i = s) := by
   unfold f1z.f at hi
   exact index_at ha k 0 i (Int.le_refl _) hi
  rcases hI with rfl | ⟨_, hlt, e⟩
  ·exact absurd hi0 (by decide)
  ·obtain ⟨y, rfl⟩ := Int.eq_ofNat_of_zero_le hi0
   have hy : y < all.length := Int.ofNat_lt.1 hlt
   have e0 : rd all (y : Int) = all.getD y 0 := by unfold rd; rw [Int.toNat_natCast]
   rw [e0] at e
   have hs := hA _ (at_mem hy)
   rcases hL with hL | ⟨x, hx, hb, ex⟩
   ·rw [hL] at e; omega
   ·have exy : x = y := by
     rw [← ex] at e
     simp only [List.getD_eq_getElem?_getD, List.getElem?_eq_getElem hx, List.getElem?_eq_getElem hy, Option.getD_some] at e
     exact ((List.getElem_inj hn).1 e).symm
    subst exy
    rw [← ex] at hd
    obtain ⟨f1, f2, f3, f4⟩ := fit_step h1 hn ha hq hx hb hd
    rw [f1]
    exact ⟨mem_ups.2 ⟨Int.natCast_nonneg _, Int.ofNat_lt.2 f2⟩, f4.symm⟩
theorem visit_ok (hl : l.length ≤ 2097152) (h : ∀ x ∈ l, wfParcel x) (hl1 : l1.length ≤ 2097152) (j : Nat) : impl_BestVisit.Ok j l l1 W := by
 intro ind all hv _ hi he hs
 rw [impl_okValidParcels h] at hv
 have ho := Option.some.inj hv
 obtain rfl := ev_det (fun k => impl_indices.mono _ k) hi (implIndices hl)
 have he2 := ev_det (fun k => impl_isEach.mono _ _ k) he (isEachEv l1 (ups l.length) (ups_rising _) hl1)
 obtain rfl := ev_det (fun k => impl_stops.mono _ k) hs (implStops ho)
 have h1 := each_in (okPs_all ho).1 he2.symm
 exact ⟨_, _, _, fit_is h1 (stps_nodup l) (stps_len l) (fun s hs => stps_bd hs) (fun i hi => stps_own ho (h1.2 i hi).1 (h1.2 i hi).2)⟩
end
end Go.Proofs.Ytihnefkkgbokcaa.Pure
set_option linter.unusedVariables false
set_option linter.unusedSimpArgs false
namespace Go.Proofs.Ytihnefkkgbokcaa.Pure
open Go.RowKit Go.Proofs.Ytihnefkkgbokcaa.Q Go.Proofs.YtihnefkkgbokcaaMine Go.Proofs.YtihnefkkgbokcaaW.PrintWords Go.Proofs.YtihnefkkgbokcaaW.PrintMore
def wkStep (s : Int × Int) (x : Int) : Int × Int := (wrap64 (s.1 + mx (wrap64 (x - s.2)) (wrap64 (s.2 - x))), x)
def walk (v : List Int) : Int := (v.foldl wkStep (0, 0)).1
theorem specMx (a b : Int) : spec_l00Max.f a b = some (mx a b) := by
 unfold spec_l00Max.f mx
 by_cases h : a > b
 ·rw [if_pos h, if_neg (by omega)]
 ·rw [if_neg h]
  by_cases h2 : a < b
  ·rw [if_pos h2]
  ·rw [if_neg h2, show b = a by omega]
theorem specWalk (v : List Int) (hv : v.length ≤ 2097152) : Ev (fun k => spec_l04Walk.f k v) (walk v) := by
 unfold spec_l04Walk.f walk
 refine fold_in (fun k (s : Int × Int) i => spec_l04Walk.l0 k v s.1 s.2 i) v 0 (fun _ _ => True) (fun _ s x => wkStep s x) _ (fun m s hm _ => ⟨trivial, fun r hr => ?_⟩) (0, 0) trivial (fun _ => ?_)
 ·refine Ev.step (fun k => ?_) hr
  simp only [spec_l04Walk.l0]
  rw [if_pos (by omega), if_pos (by omega), wrap_sm (i := (m : Int) + 1) (by omega) (by omega), specMx]
  unfold rd; rw [Int.toNat_natCast]; rfl
 ·refine Ev.step (f := fun _ => some (foldi (fun _ s x => wkStep s x) 0 v (0, 0)).1) (fun k => ?_) ?_
  ·simp only [spec_l04Walk.l0]
   rw [if_neg (by omega)]
  ·rw [foldi_foldl]; exact Ev.now _
section
variable {l : List (S82)} {all l1 : List Int} {W : Int}
/-- What has been begun, and what is left. -/
structure Begun (l : List (S82)) (all l1 : List Int) (W : Int) (p : Nat) (at_ : Int) (begun : List Int) (base : Int) : Prop where
 len : begun.length + cnt p = all.length
 has : ∀ x, x < all.length → decide (all.getD x 0 ∈ begun) = !p.testBit x
 dug : ∃ D Wk, begun.foldl (dgOut l) (0, l1) = (D, ldOf l all l1 (p : Int)) ∧ begun.foldl wkStep (0, 0) = (Wk, at_) ∧ base = W * D + Wk ∧ 0 ≤ D ∧ D ≤ 10 * (begun.length : Int) ∧ 0 ≤ Wk ∧ Wk ≤ 8 * (begun.length : Int)
 low : 0 ≤ at_
 high : at_ ≤ 8
theorem Begun.bd (ha : all.length ≤ 9) (hW : 0 ≤ W) (hW' : W ≤ 100) {p : Nat} {at_ : Int} {begun : List Int} {base : Int} (h : Begun l all l1 W p at_ begun base) : 0 ≤ base ∧ base ≤ 10000 := by
 obtain ⟨D, Wk, _, _, hb, d0, d1, w0, w1⟩ := h.dug
 have hl := h.len
 have hp := prod_bd hW hW' d0 (by omega)
 rw [hb]
 generalize W * D = q at *
 omega
theorem Begun.step (h1 : inL l l1) (hn : all.Nodup) (ha : all.length ≤ 9) (hA : ∀ s ∈ all, 0 ≤ s ∧ s ≤ 8) (hW : 0 ≤ W) (hW' : W ≤ 100) {p : Nat} (hp : p < 2 ^ all.length) {at_ : Int} {begun : List Int} {base : Int} (h : Begun l all l1 W p at_ begun base) {x : Nat} (hx : x < all.length) (hb : p.testBit x = true) : Begun l all l1 W (p - 2 ^ x) (all.getD x 0) (begun ++ [all.getD x 0]) (base + oneC l all l1 W p at_ (all.getD x 0)) := by
 have h512 : 2 ^ all.length ≤ 2 ^ 9 := Nat.pow_le_pow_right (by decide) ha
 have hp5 : p < 512 := Nat.lt_of_lt_of_le hp h512
 have hc := mask_cnt1 ⟨p, hp5⟩ ⟨x, by omega⟩ hb
 simp only at hc
 have hs := hA _ (at_mem hx)
 have hl := h.len
 have hlo := h.low
 have hhi := h.high
 refine ⟨by rw [List.length_append, List.length_singleton]; omega, fun y hy => ?_, ?_, hs.1, hs.2⟩
 ·have hh := h.has y hy
  rw [bit_tst hp5 (by omega) (by omega) hb]
  by_cases e : y = x
  ·subst e
   simp
  ·have hne : ¬ all.getD y 0 = all.getD x 0 := by
    simp only [List.getD_eq_getElem?_getD, List.getElem?_eq_getElem hx, List.getElem?_eq_getElem hy, Option.getD_some]
    exact fun hh => e ((List.getElem_inj hn).1 hh)
   have e2 : (all.getD y 0 ∈ begun ++ [all.getD x 0]) ↔ (all.getD y 0 ∈ begun) := by
    rw [List.mem_append, List.mem_singleton]
    exact ⟨fun h => h.elim id (fun h => absurd h hne), .inl⟩
   rw [decide_eq_decide.2 e2, hh, show (x == y) = false from beq_eq_false_iff_ne.2 (fun h => e h.symm)]
   simp
 ·obtain ⟨D, Wk, e1, e2, eb, d0, d1, w0, w1⟩ := h.dug
  obtain ⟨g0, g1⟩ := dgN_bd (all := all) h1 p (all.getD x 0)
  have hm := mx_bd hs.1 hs.2 h.low h.high
  refine ⟨D + dgN l all l1 p (all.getD x 0), Wk + mx (all.getD x 0 - at_) (at_ - all.getD x 0), ?_, ?_, ?_, by omega, ?_, by omega, ?_⟩
  ·rw [List.foldl_append, e1, List.foldl_cons, List.foldl_nil]
   unfold dgOut
   dsimp only
   rw [dg_shift, ld_dig hn ha hp hx hb]
   rfl
  ·rw [List.foldl_append, e2, List.foldl_cons, List.foldl_nil]
   unfold wkStep
   dsimp only
   rw [wrap_sm (i := all.getD x 0 - at_) (by omega) (by omega), wrap_sm (i := at_ - all.getD x 0) (by omega) (by omega), wrap_sm (by omega) (by omega)]
  ·unfold oneC
   rw [eb, Int.mul_add]; omega
  ·rw [List.length_append, List.length_singleton]; omega
  ·rw [List.length_append, List.length_singleton]; omega
def cvS (begun : List Int) (base : Int) (st : Int × Int × List Int) : List Int × Int := if st.1 < 0 then ([], -1) else (begun ++ st.2.2, base + st.2.1)
theorem best_loop (h1 : inL l l1) (hn : all.Nodup) (ha : all.length ≤ 9) (hA : ∀ s ∈ all, 0 ≤ s ∧ s ≤ 8) (hW : 0 ≤ W) (hW' : W ≤ 100) (R : Nat → Int → Int × Int × List Int) {p : Nat} (hp : p < 2 ^ all.length) (hz : p ≠ 0) {at_ : Int} {begun : List Int} {base : Int} (hG : Begun l all l1 W p at_ begun base)
  (hR : ∀ x, x < all.length → p.testBit x = true → Ev (fun k => spec_l04Best.f k l l1 all (begun ++ [all.getD x 0]) W) ((begun ++ [all.getD x 0]) ++ (R (p - 2 ^ x) (all.getD x 0)).2.2, base + oneC l all l1 W p at_ (all.getD x 0) + (R (p - 2 ^ x) (all.getD x 0)).2.1))
  (hB : ∀ x, x < all.length → 0 ≤ (R (p - 2 ^ x) (all.getD x 0)).2.1 ∧ (R (p - 2 ^ x) (all.getD x 0)).2.1 ≤ 100000) :
  Ev (fun k => spec_l04Best.l0 k l l1 all begun W [] (-1) 0) (begun ++ (bodyC l all l1 W R p at_).2.2, base + (bodyC l all l1 W R p at_).2.1) := by
 have hbd := hG.bd ha hW hW'
 have hlen := hG.len
 refine fold_in (fun k (st : Int × Int × List Int) i => spec_l04Best.l0 k l l1 all begun W (cvS begun base st).1 (cvS begun base st).2 i) all 0 (goodC l all l1 W R p at_) (stepC l all l1 W R p at_) _ (fun m st hm hg => ⟨good_step hm hg, fun r hr => ?_⟩) (-1, 0, []) good_zero (fun _ => ?_)
 ·have e0 : rd all (m : Int) = all.getD m 0 := by unfold rd; rw [Int.toNat_natCast]
  have ew : wrap64 ((m : Int) + 1) = ((m + 1 : Nat) : Int) := by rw [wrap_sm (i := (m : Int) + 1) (by omega) (by omega)]; rfl
  have hs := hA _ (at_mem hm)
  have hh := hasEv begun (by omega) (all.getD m 0)
  rw [hG.has m hm] at hh
  refine Ev.step (f := fun k => (spec_l00Has.f k begun (all.getD m 0)).bind fun t179 => (if t179 = true then (spec_l04Best.l0 k l l1 all begun W (cvS begun base st).1 (cvS begun base st).2 ((m + 1 : Nat) : Int)) else ((spec_l04Best.f k l l1 all (begun ++ [all.getD m 0]) W).bind fun bt190 => (if (cvS begun base st).2 < 0 then (spec_l04Best.l0 k l l1 all begun W bt190.1 bt190.2 ((m + 1 : Nat) : Int)) else (if bt190.2 < (cvS begun base st).2 then (spec_l04Best.l0 k l l1 all begun W bt190.1 bt190.2 ((m + 1 : Nat) : Int)) else (spec_l04Best.l0 k l l1 all begun W (cvS begun base st).1 (cvS begun base st).2 ((m + 1 : Nat) : Int))))))) (fun k => ?_) ?_
  ·simp only [spec_l04Best.l0]
   rw [if_pos (Int.ofNat_lt.2 hm), if_pos (Int.natCast_nonneg m), e0, ew]
   unfold spec_l00Own.f
   simp only [Option.bind_some, List.length_nil, List.nil_append, if_pos (show 0 + begun.length < 17592186044416 by omega), List.length_singleton, if_pos (show begun.length + 1 < 17592186044416 by omega)]
  ·refine Ev.bind hh ?_
   unfold stepC at hr
   cases hb : p.testBit m with
   | false =>
    rw [hb, if_neg (by decide)] at hr
    simp only [Bool.not_false, if_true]
    exact hr
   | true =>
    rw [hb, if_pos rfl] at hr
    simp only [Bool.not_true, Bool.false_eq_true, if_false]
    refine Ev.bind (hR m hm hb) ?_
    dsimp only
    have hB' := hB m hm
    have ho := oneC_bd (all := all) h1 hW hW' p hs.1 hs.2 hG.low hG.high
    by_cases c1 : st.1 < 0
    ·rw [if_pos (.inl c1)] at hr
     have e1 : cvS begun base st = ([], -1) := if_pos c1
     rw [e1]
     simp only [if_pos (show (-1 : Int) < 0 by decide)]
     unfold cvS at hr
     dsimp only at hr
     rw [if_neg (show ¬ all.getD m 0 < 0 by omega)] at hr
     dsimp only at hr
     rw [List.append_assoc, Int.add_assoc]
     exact hr
    ·have e1 : cvS begun base st = (begun ++ st.2.2, base + st.2.1) := if_neg c1
     have hst : 0 ≤ st.2.1 := by
      rcases hg with ⟨rfl, _⟩ | ⟨x, hx, _, rfl⟩
      ·exact Int.le_refl _
      ·dsimp only
       have hsx := hA _ (at_mem hx)
       have := oneC_bd (all := all) h1 hW hW' p hsx.1 hsx.2 hG.low hG.high
       have := hB x hx
       omega
     rw [e1]
     dsimp only
     simp only [if_neg (show ¬ base + st.2.1 < 0 by omega)]
     by_cases c2 : oneC l all l1 W p at_ (all.getD m 0) + (R (p - 2 ^ m) (all.getD m 0)).2.1 < st.2.1
     ·rw [if_pos (.inr c2)] at hr
      simp only [if_pos (show base + oneC l all l1 W p at_ (all.getD m 0) + (R (p - 2 ^ m) (all.getD m 0)).2.1 < base + st.2.1 by omega)]
      unfold cvS at hr
      dsimp only at hr
      rw [if_neg (show ¬ all.getD m 0 < 0 by omega)] at hr
      dsimp only at hr
      rw [List.append_assoc, Int.add_assoc]
      exact hr
     ·rw [if_neg (fun h => h.elim c1 c2)] at hr
      simp only [if_neg (show ¬ base + oneC l all l1 W p at_ (all.getD m 0) + (R (p - 2 ^ m) (all.getD m 0)).2.1 < base + st.2.1 by omega)]
      rw [e1] at hr
      exact hr
 ·refine Ev.step (f := fun _ => some (cvS begun base (bodyC l all l1 W R p at_))) (fun k => ?_) (Ev.eq (Ev.now _) ?_)
  ·simp only [spec_l04Best.l0]
   rw [if_neg (by omega)]; rfl
  ·obtain ⟨x, hx, _, e⟩ := body_some (l := l) (l1 := l1) (W := W) R at_ hp ha hz
   have hs := hA _ (at_mem hx)
   unfold cvS
   rw [if_neg (by rw [e]; dsimp only; omega)]
theorem best_is (h1 : inL l l1) (hn : all.Nodup) (ha : all.length ≤ 9) (hA : ∀ s ∈ all, 0 ≤ s ∧ s ≤ 8) (hW : 0 ≤ W) (hW' : W ≤ 100) : ∀ (d p : Nat) (at_ : Int) (begun : List Int) (base : Int), cnt p = d → p < 2 ^ all.length → Begun l all l1 W p at_ begun base →
  Ev (fun k => spec_l04Best.f k l l1 all begun W) (begun ++ (recC l all l1 W d p at_).2.2, base + (recC l all l1 W d p at_).2.1)
 | 0, p, at_, begun, base, hd, hp, hG => by
  have hlen := hG.len
  have hbd := hG.bd ha hW hW'
  obtain ⟨D, Wk, e1, e2, eb, d0, d1, w0, w1⟩ := hG.dug
  refine Ev.step (f := fun k => (spec_l04Digging.f k l l1 begun).bind fun t173 => ((spec_l04Walk.f k begun).bind fun t174 => (some (begun, wrap64 ((wrap64 (W * t173)) + t174))))) (fun k => ?_) ?_
  ·simp only [spec_l04Best.f]
   rw [if_pos (by omega)]
  ·refine Ev.bind (specDigAll h1 (by omega)) (Ev.bind (specWalk begun (by omega)) (Ev.eq (Ev.now _) ?_))
   unfold digAll walk recC
   have hq := prod_bd hW hW' d0 (by omega)
   rw [e1, e2, List.append_nil, Int.add_zero, eb]
   dsimp only
   rw [eb] at hbd
   generalize W * D = q at *
   rw [wrap_sm (i := q) (by omega) (by omega), wrap_sm (i := q + Wk) (by omega) (by omega)]
 | d + 1, p, at_, begun, base, hd, hp, hG => by
  have hlen := hG.len
  have h512 : 2 ^ all.length ≤ 2 ^ 9 := Nat.pow_le_pow_right (by decide) ha
  have hp5 : p < 512 := Nat.lt_of_lt_of_le hp h512
  have hz : p ≠ 0 := by
   rintro rfl
   have e : cnt 0 = 0 := by decide +kernel
   omega
  refine Ev.step (f := fun k => spec_l04Best.l0 k l l1 all begun W [] (-1) 0) (fun k => ?_) ?_
  ·simp only [spec_l04Best.f]
   rw [if_neg (by omega)]
  ·refine best_loop h1 hn ha hA hW hW' (recC l all l1 W d) hp hz hG (fun x hx hb => ?_) (fun x hx => ?_)
   ·have hc := mask_cnt1 ⟨p, hp5⟩ ⟨x, by omega⟩ hb
    simp only at hc
    exact best_is h1 hn ha hA hW hW' d (p - 2 ^ x) _ _ _ (by omega) (Nat.lt_of_le_of_lt (Nat.sub_le _ _) hp) (hG.step h1 hn ha hA hW hW' hp hx hb)
   ·have hs := hA _ (at_mem hx)
    have b := recC_bd (all := all) h1 hW hW' hA d (p - 2 ^ x) _ hs.1 hs.2
    omega
end
end Go.Proofs.Ytihnefkkgbokcaa.Pure
set_option linter.unusedVariables false
set_option linter.unusedSimpArgs false
namespace Go.Proofs.Ytihnefkkgbokcaa.Pure
open Go.RowKit Go.Proofs.Ytihnefkkgbokcaa.Q Go.Proofs.YtihnefkkgbokcaaMine Go.Proofs.YtihnefkkgbokcaaW.PrintWords
section
variable {l : List (S82)}
def rBestVisit (l : List (S82)) (l1 : List Int) (W : Int) : List Int × Int × Int := if okPs l = true then (if inR W 0 100 = true then (if eachOf l1 (ups l.length) = true then ((recC l (stps l) l1 W (stps l).length (2 ^ (stps l).length - 1) 0).2.2, (recC l (stps l) l1 W (stps l).length (2 ^ (stps l).length - 1) 0).2.1, 0) else ([], 0, 4)) else ([], 0, 2)) else ([], 0, 1)
theorem full_lt (n : Nat) : 2 ^ n - 1 < 2 ^ n := by
 have : 0 < 2 ^ n := Nat.pow_pos (by decide)
 omega
theorem full_cnt (ha : (stps l).length ≤ 9) : cnt (2 ^ (stps l).length - 1) = (stps l).length := mask_full ⟨(stps l).length, by omega⟩
theorem specBestVisit (hl : l.length ≤ 2097152) (h : ∀ x ∈ l, wfParcel x) (l1 : List Int) (hl1 : l1.length ≤ 2097152) (W : Int) : Ev (fun k => spec_BestVisit.f k l l1 W) (rBestVisit l l1 W) := by
 unfold spec_BestVisit.f rBestVisit
 refine Ev.bind (spec_okValidParcels hl h) ?_
 cases ho : okPs l with
 | false => exact Ev.now _
 | true =>
  simp only [if_true, l00In_eq, Option.bind_some]
  cases hw : inR W 0 100 with
  | false => exact Ev.now _
  | true =>
   simp only [if_true]
   have hW := inR_iff.1 hw
   refine Ev.bind (eachEv l.length l1 hl hl1) ?_
   cases hb : eachOf l1 (ups l.length) with
   | false => exact Ev.now _
   | true =>
    simp only [if_true]
    have h1 := each_in (okPs_all ho).1 hb
    have ha := stps_len l
    refine Ev.bind (specStops hl) ?_
    have hG : Begun l (stps l) l1 W (2 ^ (stps l).length - 1) 0 [] 0 := by
     refine ⟨by rw [full_cnt ha]; simp, fun x hx => ?_, ⟨0, 0, ?_, rfl, by simp, Int.le_refl _, Int.le_refl _, Int.le_refl _, Int.le_refl _⟩, Int.le_refl _, by decide⟩
     ·have hb := mask_low ⟨(stps l).length, by omega⟩ ⟨x, by omega⟩
      simp only at hb
      rw [hb]
      simp [hx]
     ·rw [List.foldl_nil, ld_start ha (fun i hi => stps_own ho (h1.2 i hi).1 (h1.2 i hi).2)]
    refine Ev.bind (best_is h1 (stps_nodup l) ha (fun s hs => stps_bd hs) hW.1 hW.2 (stps l).length (2 ^ (stps l).length - 1) 0 [] 0 (full_cnt ha) (full_lt _) hG) ?_
    rw [List.nil_append, Int.zero_add]
    exact Ev.now _
theorem implBestVisit (hl : l.length ≤ 2097152) (h : ∀ x ∈ l, wfParcel x) (l1 : List Int) (hl1 : l1.length ≤ 2097152) (W : Int) : Ev (fun k => impl_BestVisit.f k l l1 W) (rBestVisit l l1 W) := by
 unfold impl_BestVisit.f
 simp only [if_pos (fun j => visit_ok (W := W) hl h hl1 j)]
 unfold impl_BestVisit.g rBestVisit
 simp only [impl_okValidParcels h, Option.bind_some]
 cases ho : okPs l with
 | false => exact Ev.now _
 | true =>
  simp only [if_true, within_eq, Option.bind_some]
  cases hw : inR W 0 100 with
  | false => exact Ev.now _
  | true =>
   simp only [if_true]
   have hW := inR_iff.1 hw
   refine Ev.bind (implIndices hl) (Ev.bind (isEachEv l1 (ups l.length) (ups_rising _) hl1) ?_)
   cases hb : eachOf l1 (ups l.length) with
   | false => exact Ev.now _
   | true =>
    simp only [if_true]
    have h1 := each_in (okPs_all ho).1 hb
    have ha := stps_len l
    refine Ev.bind (implStops ho) ?_
    rw [start_is ha]
    have hs := ld_start ha (fun i hi => stps_own ho (h1.2 i hi).1 (h1.2 i hi).2)
    have hF := find_is h1 (stps_nodup l) ha (fun s hs => stps_bd hs) hW.1 hW.2 (stps l).length (2 ^ (stps l).length - 1) 0 (full_cnt ha) (full_lt _) (Int.le_refl _) (by decide)
    rw [hs] at hF
    refine Ev.bind hF ?_
    have hO := outer_is h1 (stps_nodup l) ha (fun s hs => stps_bd hs) hW.1 hW.2 (recC l (stps l) l1 W (stps l).length (2 ^ (stps l).length - 1) 0).2.1 (stps l).length (2 ^ (stps l).length - 1) 0 [] (full_cnt ha) (full_lt _) (Int.le_refl _) (by decide) (by simp; exact ha)
    rw [hs, List.nil_append] at hO
    exact hO
theorem vis_len {all l1 : List Int} {W : Int} : ∀ (d p : Nat) (a : Int), (recC l all l1 W d p a).2.2.length ≤ d
 | 0, _, _ => Nat.le_refl _
 | d + 1, p, a => by
  unfold recC
  rcases good_body (l := l) (all := all) (l1 := l1) (W := W) (recC l all l1 W d) p a with ⟨e, _⟩ | ⟨x, hx, _, e⟩
  ·rw [e]; dsimp only; simp
  ·rw [e]
   dsimp only
   rw [List.length_cons]
   have := vis_len (all := all) (l1 := l1) (W := W) d (p - 2 ^ x) (all.getD x 0)
   omega
theorem rBest_len (l1 : List Int) (W : Int) : (rBestVisit l l1 W).1.length ≤ 9 := by
 unfold rBestVisit
 have h1 := vis_len (l := l) (all := stps l) (l1 := l1) (W := W) (stps l).length (2 ^ (stps l).length - 1) 0
 have h2 := stps_len l
 split
 ·split
  ·split
   ·dsimp only; omega
   ·simp
  ·simp
 ·simp
end
end Go.Proofs.Ytihnefkkgbokcaa.Pure
set_option linter.unusedVariables false
set_option linter.unusedSimpArgs false
namespace Go.Proofs.Ytihnefkkgbokcaa.Pure
open Go.RowKit Go.Proofs.Ytihnefkkgbokcaa.Q Go.Proofs.YtihnefkkgbokcaaMine Go.Proofs.YtihnefkkgbokcaaW.PrintWords
theorem eqInt64S (x : List Int) (hx : x.length ≤ 2097152) : Ev (fun k => laws_eqInt64S.f k x x) true := by
 have e : ∀ k, laws_eqInt64S.f k x x = laws_eqInt64S.l0 k x x 0 := by
  intro k
  unfold laws_eqInt64S.f
  rw [if_pos rfl]
 refine Ev.congr e ?_
 refine eq_all laws_eqInt64S.l0 x (by omega) (fun k i h0 h1 => ?_)
 simp only [laws_eqInt64S.l0]
 by_cases h : i < (x.length : Int)
 ·simp only [if_pos h, if_pos h0, if_true]
 ·simp only [if_neg h]
end Go.Proofs.Ytihnefkkgbokcaa.Pure
set_option linter.unusedVariables false
set_option linter.unusedSimpArgs false
namespace Go.Proofs.Ytihnefkkgbokcaa.Pure
open Go.RowKit Go.Proofs.Ytihnefkkgbokcaa.Q Go.Proofs.YtihnefkkgbokcaaMine Go.Proofs.YtihnefkkgbokcaaW.PrintWords
def marks (n : Nat) : List Int := (List.range n).map (fun i : Nat => (i : Int) + 1)
theorem marks_length (n : Nat) : (marks n).length = n := by simp [marks]
theorem marks_get {n j : Nat} (h : j < n) : (marks n)[j]? = some ((j : Int) + 1) := by simp [marks, h]
theorem marks_getD {n j : Nat} (h : j < n) : (marks n).getD j 0 = (j : Int) + 1 := by rw [List.getD_eq_getElem?_getD, marks_get h]; rfl
theorem markInt64S (x : List Int) (hx : x.length ≤ 2097152) : Ev (fun k => laws_markInt64S.f k x 1) (1 + (x.length : Int), marks x.length) := by
 unfold laws_markInt64S.f
 suffices hh : ∀ (d m : Nat), m + d = x.length → ∀ y : List Int, y.length = x.length → (∀ j, j < m → y[j]? = some ((j : Int) + 1)) → Ev (fun k => laws_markInt64S.l0 k y (1 + (m : Int)) (m : Int)) (1 + (x.length : Int), marks x.length) from hh x.length 0 (by omega) x rfl (fun j h => by omega)
 intro d
 induction d with
 | zero =>
  intro m hm y hy hj
  obtain rfl : m = x.length := by omega
  have e : y = marks x.length := by
   apply List.ext_getElem?
   intro j
   by_cases h : j < x.length
   ·rw [hj j h, marks_get h]
   ·rw [List.getElem?_eq_none (by omega), List.getElem?_eq_none (by rw [marks_length]; omega)]
  refine Ev.step (f := fun _ => some (1 + (x.length : Int), y)) (fun k => ?_) (Ev.eq (Ev.now _) (by rw [e]))
  simp only [laws_markInt64S.l0]; rw [if_neg (by omega)]
 | succ d ih =>
  intro m hm y hy hj
  refine Ev.step (f := fun k => laws_markInt64S.l0 k (y.set m (1 + (m : Int))) (1 + ((m + 1 : Nat) : Int)) ((m + 1 : Nat) : Int)) (fun k => ?_) (ih (m + 1) (by omega) _ (by simp [hy]) (fun j h => ?_))
  ·simp only [laws_markInt64S.l0]
   rw [if_pos (by omega), if_pos (by omega), wrap_sm (i := (m : Int) + 1) (by omega) (by omega), wrap_sm (i := 1 + (m : Int) + 1) (by omega) (by omega), Int.toNat_natCast, show 1 + (m : Int) + 1 = 1 + ((m + 1 : Nat) : Int) by omega]; rfl
  ·by_cases e : j = m
   ·subst e; rw [List.getElem?_set_self (by omega), Int.add_comm]
   ·rw [List.getElem?_set_ne (by omega)]; exact hj j (by omega)
theorem heldInt64S (n : Nat) (hn : n ≤ 2097152) : Ev (fun k => laws_heldInt64S.f k (marks n) 1) (1 + (n : Int)) := by
 unfold laws_heldInt64S.f
 have hl := marks_length n
 suffices hh : ∀ (d m : Nat), m + d = n → Ev (fun k => laws_heldInt64S.l0 k (marks n) (1 + (m : Int)) (m : Int)) (1 + (n : Int)) from hh n 0 (by omega)
 intro d
 induction d with
 | zero =>
  intro m hm
  obtain rfl : m = n := by omega
  refine Ev.step (f := fun _ => some (1 + (m : Int))) (fun k => ?_) (Ev.now _)
  simp only [laws_heldInt64S.l0]; rw [if_neg (by omega)]
 | succ d ih =>
  intro m hm
  refine Ev.step (fun k => ?_) (ih (m + 1) (by omega))
  simp only [laws_heldInt64S.l0]
  rw [if_pos (by omega), if_pos (by omega), show rd (marks n) (m : Int) = (marks n).getD m 0 from rfl, marks_getD (by omega), if_pos (by omega), wrap_sm (i := (m : Int) + 1) (by omega) (by omega), wrap_sm (i := 1 + (m : Int) + 1) (by omega) (by omega), show 1 + (m : Int) + 1 = 1 + ((m + 1 : Nat) : Int) by omega]; rfl
end Go.Proofs.Ytihnefkkgbokcaa.Pure
set_option linter.unusedVariables false
set_option linter.unusedSimpArgs false
namespace Go.Proofs.Ytihnefkkgbokcaa.Pure
open Go.RowKit Go.Proofs.Ytihnefkkgbokcaa.Q Go.Proofs.YtihnefkkgbokcaaMine Go.Proofs.YtihnefkkgbokcaaW.PrintWords
theorem toInt64S (x : List Int) (hx : x.length ≤ 2097152) : Ev (fun k => laws_toInt64S.f k x) x := by
 have e : ∀ k, laws_toInt64S.f k x = laws_toInt64S.l0 k x (List.replicate x.length 0) 0 := by
  intro k
  unfold laws_toInt64S.f
  rw [if_pos (by omega), if_pos (by omega), Int.toNat_natCast]
 refine Ev.congr e (Ev.eq ?_ (List.map_id x))
 exact fill_all laws_toInt64S.l0 id 0 0 x (by omega) (fun k y i => by simp only [laws_toInt64S.l0, rd, id])
end Go.Proofs.Ytihnefkkgbokcaa.Pure
set_option linter.unusedVariables false
set_option linter.unusedSimpArgs false
namespace Go.Proofs.Ytihnefkkgbokcaa.Pure
open Go.RowKit Go.Proofs.Ytihnefkkgbokcaa.Q Go.Proofs.YtihnefkkgbokcaaMine Go.Proofs.YtihnefkkgbokcaaW.PrintWords
theorem markParcelS2 (x : List (S82)) (hx : x.length ≤ 2097152) : ∃ (r : Int) (y : List (S82)), Ev (fun k => laws_markParcelS.f k x 1) (r, y) ∧ 0 ≤ r ∧ r ≤ 1 + 8 * (x.length : Int) := by
 unfold laws_markParcelS.f
 suffices hh : ∀ (d m : Nat), m + d = x.length → ∀ (y : List (S82)) (c : Int), y.length = x.length → 0 ≤ c → c ≤ 1 + 8 * (m : Int) → ∃ (r : Int) (z : List (S82)), Ev (fun k => laws_markParcelS.l0 k y c (m : Int)) (r, z) ∧ 0 ≤ r ∧ r ≤ 1 + 8 * (x.length : Int) from hh x.length 0 (by omega) x 1 rfl (by omega) (by omega)
 intro d
 induction d with
 | zero =>
  intro m hm y c hy hc hc1
  exact ⟨c, y, Ev.step (f := fun _ => some (c, y)) (fun k => by simp only [laws_markParcelS.l0]; rw [if_neg (by omega)]) (Ev.now _), hc, by omega⟩
 | succ d ih =>
  intro m hm y c hy hc hc1
  have hw1 : wrap64 (c + 1) = c + 1 := wrap_sm (by omega) (by omega)
  have hw2 : wrap64 (c + 1 + 1) = c + 1 + 1 := wrap_sm (by omega) (by omega)
  obtain ⟨r, z, h, h0⟩ := ih (m + 1) (by omega) ((y.set (m : Int).toNat (⟨IntKind.i8.wrap c, (rd_T82 y (m : Int)).f1⟩ : S82)).set (m : Int).toNat ⟨(rd_T82 (y.set (m : Int).toNat (⟨IntKind.i8.wrap c, (rd_T82 y (m : Int)).f1⟩ : S82)) (m : Int)).f0, IntKind.i16.wrap (c + 1)⟩) (c + 1 + 1) (by rw [List.length_set, List.length_set]; exact hy) (by omega) (by omega)
  refine ⟨r, z, Ev.step (fun k => ?_) h, h0⟩
  simp only [laws_markParcelS.l0]
  rw [if_pos (by omega), if_pos (by omega), wrap_sm (i := (m : Int) + 1) (by omega) (by omega), Option.bind_some, hw1, hw2]; rfl
theorem markAny64 (x : List Int) (hx : x.length ≤ 2097152) (a : Int) (h0 : 0 ≤ a) (h1 : a ≤ 1000000000000000) : ∃ y, Ev (fun k => laws_markInt64S.f k x a) (a + (x.length : Int), y) := by
 unfold laws_markInt64S.f
 suffices hh : ∀ (d m : Nat), m + d = x.length → ∀ (y : List Int) (c : Int), y.length = x.length → 0 ≤ c → c ≤ 1000000000000000 + (m : Int) → ∃ z, Ev (fun k => laws_markInt64S.l0 k y c (m : Int)) (c + (d : Int), z) from hh x.length 0 (by omega) x a rfl h0 (by omega)
 intro d
 induction d with
 | zero =>
  intro m hm y c hy hc hc1
  exact ⟨y, Ev.step (f := fun _ => some (c, y)) (fun k => by simp only [laws_markInt64S.l0]; rw [if_neg (by omega)]) (Ev.eq (Ev.now _) (by simp))⟩
 | succ d ih =>
  intro m hm y c hy hc hc1
  obtain ⟨z, h⟩ := ih (m + 1) (by omega) (y.set (m : Int).toNat c) (c + 1) (by rw [List.length_set]; exact hy) (by omega) (by omega)
  refine ⟨z, Ev.step (fun k => ?_) (Ev.eq h (by congr 1; omega))⟩
  simp only [laws_markInt64S.l0]
  rw [if_pos (by omega), if_pos (by omega), wrap_sm (i := (m : Int) + 1) (by omega) (by omega), wrap_sm (i := c + 1) (by omega) (by omega)]; rfl
theorem BestVisit : laws_FnExactBestVisit.Pure := by
 intro l0 l1 a2 ⟨_, hb0, hw0⟩ ⟨_, hb1, hw1⟩ h2
 apply Ev.rounds
 unfold laws_FnExactBestVisit.f
 by_cases g1 : (l1.length : Int) > 1048576
 ·simp only [if_pos g1]; exact Ev.now _
 simp only [if_neg g1]
 simp only [szParcelS l0 (by omega) (1048576) (by omega) (by omega), Option.bind_some]
 by_cases g0 : (1048576 : Int) - (l0.length : Int) < 0
 ·simp only [if_pos g0, if_pos (show (-1 : Int) < 0 by omega)]; exact Ev.now _
 simp only [if_neg g0]
 have hl0 : (l0.map cvParcel).length ≤ 2097152 := by rw [List.length_map]; omega
 have hc0 := wfsParcel (l := l0) hw0
 have hl1 : l1.length ≤ 2097152 := by omega
 have hS := specBestVisit hl0 hc0 l1 hl1 a2
 have hI := implBestVisit hl0 hc0 l1 hl1 a2
 have hT : (rBestVisit (l0.map cvParcel) l1 a2).1.length ≤ 2097152 := Nat.le_trans (rBest_len l1 a2) (by decide)
 generalize rBestVisit (l0.map cvParcel) l1 a2 = R at hS hI hT
 obtain ⟨r, y, hm, hr, hr2⟩ := markParcelS2 (l0.map cvParcel) hl0
 obtain ⟨y2, hm2⟩ := markAny64 l1 hl1 r hr (by omega)
 have hM := markInt64S R.1 hT
 have hH := heldInt64S R.1.length hT
 have hn : ¬ (1 + (R.1.length : Int)) < 0 := by omega
 have hrn : ¬ (r + (l1.length : Int)) < 0 := by omega
 have hE := eqInt64S R.1 hT
 repeat (first | exact Ev.now _ | (with_reducible refine Ev.bind hS ?_) | (with_reducible refine Ev.bind hI ?_) | (with_reducible refine Ev.bind hM ?_) | (with_reducible refine Ev.bind hH ?_) | (with_reducible refine Ev.bind hm ?_) | (with_reducible refine Ev.bind hm2 ?_) | (with_reducible refine Ev.bind hE ?_) | (with_reducible refine Ev.bind (toInt64S l1 hl1) ?_) | (with_reducible refine Ev.bind (eqInt64S l1 hl1) ?_) | (with_reducible refine Ev.bind (toParcelS l0 (by omega)) ?_) | (with_reducible refine Ev.bind (eqParcelS _ hl0) ?_) | simp only [if_true, eq_self_iff_true, bne_self_eq_false, Bool.false_eq_true, if_false, Option.bind_some, if_neg hn, if_neg hrn] | (show Ev (fun n => laws_FnExactBestVisit.j0 n _ _ _ _ _ _ _ _ _ _ _ _) _; refine Ev.step (fun k => by simp only [laws_FnExactBestVisit.j0]; rfl) ?_) | (show Ev (fun n => laws_FnExactBestVisit.j1 n _ _ _ _ _ _ _ _) _; refine Ev.step (fun k => by simp only [laws_FnExactBestVisit.j1]; rfl) ?_) | (show Ev (fun n => laws_FnExactBestVisit.j2 n _ _ _) _; refine Ev.step (fun k => by simp only [laws_FnExactBestVisit.j2]; rfl) ?_))
end Go.Proofs.Ytihnefkkgbokcaa.Pure
