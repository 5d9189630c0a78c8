/- What each parcel weighs; whether there is a step for it; the program's test for the next item. -/
import Derived.Test.YtdeipindfhkioaaQ5
import Derived.Test.YtdeipindfhkioaaPureCHave
set_option linter.unusedVariables false
set_option linter.unusedSimpArgs false
namespace Go.Proofs.Ytdeipindfhkioaa.Pure
open Go.RowKit Go.Proofs.Ytdeipindfhkioaa.Q Go.Proofs.YtdeipindfhkioaaMine Go.Proofs.YtdeipindfhkioaaW.PrintWords Go.Proofs.YtdeipindfhkioaaW.PrintMore
def wg (ws : List Int) (q : Int) : List Int → Nat → Int
 | [], _ => 0
 | x :: xs, i => (if x = q then ws.getD i 0 else 0) + wg ws q xs (i + 1)
theorem wg_cons (ws : List Int) (q x : Int) (xs : List Int) (i : Nat) : wg ws q (x :: xs) i = (if x = q then ws.getD i 0 else 0) + wg ws q xs (i + 1) := rfl
theorem wg_append (ws : List Int) (q : Int) : ∀ (xs zs : List Int) (i : Nat), wg ws q (xs ++ zs) i = wg ws q xs i + wg ws q zs (i + xs.length)
 | [], zs, i => by simp [wg]
 | x :: xs, zs, i => by
  rw [List.cons_append, wg_cons, wg_cons, wg_append ws q xs zs (i + 1), List.length_cons, show i + 1 + xs.length = i + (xs.length + 1) by omega]
  omega
theorem wg_snoc (ws : List Int) (q x : Int) (xs : List Int) : wg ws q (xs ++ [x]) 0 = wg ws q xs 0 + (if x = q then ws.getD xs.length 0 else 0) := by
 rw [wg_append, wg_cons, Nat.zero_add]
 show _ + (_ + 0) = _
 omega
theorem wg_none {ws : List Int} {q : Int} : ∀ (xs : List Int) (i : Nat), (∀ x ∈ xs, x ≠ q) → wg ws q xs i = 0
 | [], _, _ => rfl
 | x :: xs, i, h => by
  rw [wg_cons, if_neg (h x (by simp)), wg_none xs (i + 1) (fun y hy => h y (by simp [hy]))]
  rfl
/-- Items are light enough. -/
def light (ws : List Int) : Prop := ∀ i, 0 ≤ ws.getD i 0 ∧ ws.getD i 0 ≤ 2000
theorem light_of {ws : List Int} (h : ∀ w ∈ ws, 1 ≤ w ∧ w ≤ 2000) : light ws := by
 intro i
 by_cases hi : i < ws.length
 ·have := h _ (get_mem 0 hi).1; omega
 ·rw [List.getD_eq_getElem?_getD, List.getElem?_eq_none (by omega)]; simp
theorem wg_bd {ws : List Int} (hw : light ws) (q : Int) : ∀ (xs : List Int) (i : Nat), 0 ≤ wg ws q xs i ∧ wg ws q xs i ≤ 2000 * (xs.length : Int)
 | [], _ => by simp [wg]
 | x :: xs, i => by
  have h1 := wg_bd hw q xs (i + 1)
  have h2 := hw i
  rw [wg_cons, List.length_cons]
  split <;> omega
/-- The weights of the first m parcels. -/
def wl (ws xs : List Int) (m : Nat) : List Int := (List.range m).map (fun (k : Nat) => wg ws (k : Int) xs 0)
theorem wl_len (ws xs : List Int) (m : Nat) : (wl ws xs m).length = m := by simp [wl]
theorem wl_get {ws xs : List Int} {m j : Nat} (h : j < m) : (wl ws xs m).getD j 0 = wg ws (j : Int) xs 0 := by
 unfold wl
 rw [List.getD_eq_getElem?_getD, List.getElem?_map, List.getElem?_range h]; rfl
theorem wl_elem {ws xs : List Int} {m i : Nat} (h : i < (wl ws xs m).length) : (wl ws xs m)[i] = wg ws (i : Int) xs 0 := by simp [wl]
theorem wl_set {ws xs : List Int} {m j : Nat} (h : j < m) : (wl ws xs m).set j (wg ws (j : Int) xs 0 + ws.getD xs.length 0) = wl ws (xs ++ [(j : Int)]) m := by
 refine List.ext_getElem (by simp [wl]) (fun i h1 h2 => ?_)
 rw [List.getElem_set, wl_elem, wl_elem, wg_snoc]
 by_cases e : j = i
 ·rw [if_pos e, if_pos (by omega), e]
 ·rw [if_neg e, if_neg (by omega)]; omega
theorem wl_app {ws xs : List Int} {m : Nat} (h : ∀ x ∈ xs, x < (m : Int)) : wl ws xs m ++ [ws.getD xs.length 0] = wl ws (xs ++ [(m : Int)]) (m + 1) := by
 unfold wl
 rw [List.range_succ, List.map_append, List.map_singleton, wg_snoc, if_pos rfl, wg_none xs 0 (fun x hx => by have := h x hx; omega), Int.zero_add]
 congr 1
 refine List.map_congr_left (fun k hk => ?_)
 have := List.mem_range.1 hk
 rw [wg_snoc, if_neg (by omega)]; omega
theorem weights_eq {ws xs : List Int} (hw : light ws) (hx : ∀ x ∈ xs, 0 ≤ x ∧ x < 8) (hl : xs.length ≤ ws.length) (h8 : ws.length ≤ 8) : Ev (fun k => impl_weights.f k ws xs) (wl ws xs 8) := by
 unfold impl_weights.f
 simp only [if_pos (show 8 ≤ 35184372088832 by omega)]
 suffices hh : ∀ (d i : Nat), i + d = xs.length → Ev (fun k => impl_weights.l0 k ws (wl ws (xs.take i) 8) xs (xs.length : Int) (i : Int)) (wl ws xs 8) by
  have := hh xs.length 0 (by omega)
  rw [List.take_zero] at this
  exact this
 intro d
 induction d with
 | zero =>
  intro i hi
  refine Ev.step (f := fun _ => some (wl ws xs 8)) (fun k => ?_) (Ev.now _)
  simp only [impl_weights.l0]; rw [if_neg (by omega), List.take_of_length_le (by omega)]
 | succ d ih =>
  intro i hi
  obtain ⟨p0, p8⟩ := hx _ (get_mem (0 : Int) (show i < xs.length by omega)).1
  have hq : ((xs.getD i 0).toNat : Int) = xs.getD i 0 := by omega
  have hlen : (xs.take i).length = i := by rw [List.length_take]; omega
  have ht : xs.take (i + 1) = xs.take i ++ [(((xs.getD i 0).toNat : Nat) : Int)] := by
   rw [hq, List.take_add_one, getD_ge (z := 0) (show i < xs.length by omega)]; rfl
  have hb := wg_bd hw (xs.getD i 0) (xs.take i) 0
  have hw1 := hw i
  refine Ev.step (f := fun k => impl_weights.l0 k ws (wl ws (xs.take (i + 1)) 8) xs (xs.length : Int) ((i + 1 : Nat) : Int)) (fun k => ?_) (ih (i + 1) (by omega))
  simp only [impl_weights.l0]
  have e1 : rd (wl ws (xs.take i) 8) (xs.getD i 0) = wg ws (xs.getD i 0) (xs.take i) 0 := by
   have := wl_get (ws := ws) (xs := xs.take i) (m := 8) (j := (xs.getD i 0).toNat) (by omega)
   rw [hq] at this
   exact this
  rw [if_pos (by omega), if_pos (by omega), if_pos (by omega), show rd xs (i : Int) = xs.getD i 0 from rfl, if_pos p0, if_pos (by rw [wl_len]; omega), if_pos (by omega), wrap_sm (i := (i : Int) + 1) (by omega) (by omega), e1, show rd ws (i : Int) = ws.getD i 0 from rfl, wrap_sm (by omega) (by omega)]
  have := wl_set (ws := ws) (xs := xs.take i) (m := 8) (j := (xs.getD i 0).toNat) (by omega)
  rw [hlen, hq] at this
  rw [ht, this, hq]; rfl
theorem findI_some {α : Type} (q : α → Bool) : ∀ l : List α, 0 ≤ findI q l ↔ ∃ x ∈ l, q x = true
 | [] => by simp [findI]
 | y :: ys => by
  have h := findI_some q ys
  have hlo := findI_lo q ys
  unfold findI
  cases hq : q y with
  | true => simp [hq]
  | false =>
   simp only [Bool.false_eq_true, if_false]
   constructor
   ·intro h0
    by_cases c : findI q ys < 0
    ·simp [c] at h0
    ·obtain ⟨x, hx, e⟩ := h.1 (by omega)
     exact ⟨x, by simp [hx], e⟩
   ·rintro ⟨x, hx, e⟩
    rcases List.mem_cons.1 hx with rfl | hx
    ·rw [hq] at e; cases e
    ·have := h.2 ⟨x, hx, e⟩
     rw [if_neg (by omega)]; omega
theorem step_mono {st : List Int} {w w' : Int} (h : w ≤ w') (h0 : 0 ≤ stepOf st w') : 0 ≤ stepOf st w := by
 obtain ⟨x, hx, e⟩ := (findI_some _ st).1 h0
 exact (findI_some _ st).2 ⟨x, hx, decide_eq_true (by have := of_decide_eq_true e; omega)⟩
theorem step_zero {st : List Int} {pr : List (List Int)} (ho : okT st pr = true) : 0 ≤ stepOf st 0 := by
 obtain ⟨⟨h1, _⟩, _, h3, _⟩ := okT_bd ho
 have := h3 _ (get_mem (0 : Int) (show 0 < st.length by omega)).1
 exact (findI_some _ st).2 ⟨st.getD 0 0, (get_mem (0 : Int) (show 0 < st.length by omega)).1, decide_eq_true (by omega)⟩
/-- There is a step for a parcel. -/
def okP (st ws xs : List Int) (k : Nat) : Bool := decide (0 ≤ stepOf st (wg ws (k : Int) xs 0))
theorem okP_nil {st : List Int} {pr : List (List Int)} (ho : okT st pr = true) (ws : List Int) (k : Nat) : okP st ws [] k = true := decide_eq_true (step_zero ho)
theorem okP_mono {st ws : List Int} (hw : light ws) (xs zs : List Int) (k : Nat) (h : okP st ws (xs ++ zs) k = true) : okP st ws xs k = true := by
 unfold okP at *
 have h := of_decide_eq_true h
 rw [wg_append] at h
 have := wg_bd hw (k : Int) zs (0 + xs.length)
 exact decide_eq_true (step_mono (by omega) h)
theorem okP_other (st ws xs : List Int) {j k : Nat} (h : j ≠ k) : okP st ws (xs ++ [(j : Int)]) k = okP st ws xs k := by
 unfold okP
 rw [wg_snoc, if_neg (by omega), Int.add_zero]
theorem implMayP {st : List Int} {pr : List (List Int)} (h : wfTable st pr) {ws xs : List Int} (hw : light ws) (h8 : ws.length ≤ 8) (hx : ∀ x ∈ xs, 0 ≤ x ∧ x < (ws.length : Int)) (hl : xs.length < ws.length) {k : Nat} (hk : k ≤ xs.length) : Ev (fun q => f6z.f q xs (k : Int) st pr ws) (okP st ws (xs ++ [(k : Int)]) k) := by
 unfold f6z.f
 refine Ev.bind (weights_eq hw (fun x hx2 => by have := hx x hx2; omega) (by omega) h8) ?_
 have hb := wg_bd hw (k : Int) xs 0
 have hw1 := hw xs.length
 have e1 : rd (wl ws xs 8) (k : Int) = wg ws (k : Int) xs 0 := wl_get (by omega)
 simp only [if_pos (show (0 : Int) ≤ (k : Int) by omega), wl_len, if_pos (show (k : Int) < ((8 : Nat) : Int) by omega), if_pos (show (0 : Int) ≤ (xs.length : Int) by omega), if_pos (show (xs.length : Int) < (ws.length : Int) by omega), e1, show rd ws (xs.length : Int) = ws.getD xs.length 0 from rfl, wrap_sm (i := wg ws (k : Int) xs 0 + ws.getD xs.length 0) (by omega) (by omega), implStep h, Option.bind_some]
 refine Ev.eq (Ev.now _) ?_
 unfold okP
 rw [wg_snoc, if_pos rfl]
end Go.Proofs.Ytdeipindfhkioaa.Pure
