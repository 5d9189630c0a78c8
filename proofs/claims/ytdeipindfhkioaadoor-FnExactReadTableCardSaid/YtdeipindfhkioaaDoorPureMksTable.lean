/- A law's marks in a table (whole numbers of 16 bits), and the look whether they are held. -/
import Derived.Test.YtdeipindfhkioaaDoorQ6
import Derived.Test.YtdeipindfhkioaaDoorPureEqTab
set_option linter.unusedVariables false
set_option linter.unusedSimpArgs false
namespace Go.Proofs.YtdeipindfhkioaaDoor.Pure
open Go.RowKit Go.Proofs.YtdeipindfhkioaaDoor.Q Go.Proofs.YtdeipindfhkioaaDoorMine Go.Proofs.YtdeipindfhkioaaDoorW.PrintWords
def mksF (r : Int) (n : Nat) : List Int := (List.range n).map (fun i : Nat => IntKind.i16.wrap (r + (i : Int)))
theorem mksF_length (r : Int) (n : Nat) : (mksF r n).length = n := by simp [mksF]
theorem mksF_get {r : Int} {n j : Nat} (h : j < n) : (mksF r n)[j]? = some (IntKind.i16.wrap (r + (j : Int))) := by simp [mksF, h]
theorem mksF_getD {r : Int} {n j : Nat} (h : j < n) : (mksF r n).getD j 0 = IntKind.i16.wrap (r + (j : Int)) := by rw [List.getD_eq_getElem?_getD, mksF_get h]; rfl
theorem markFrom16 (x : List Int) (hx : x.length ≤ 2097152) (r : Int) (h0 : 0 ≤ r) (h1 : r ≤ 1000000000000000) : Ev (fun k => laws_markInt16S.f k x r) (r + (x.length : Int), mksF r x.length) := by
 unfold laws_markInt16S.f
 suffices hh : ∀ (d m : Nat), m + d = x.length → ∀ y : List Int, y.length = x.length → (∀ j, j < m → y[j]? = some (IntKind.i16.wrap (r + (j : Int)))) → Ev (fun k => laws_markInt16S.l0 k y (r + (m : Int)) (m : Int)) (r + (x.length : Int), mksF r x.length) from Ev.congr (fun k => by simp) (hh x.length 0 (by omega) x rfl (fun j h => by omega))
 intro d
 induction d with
 | zero =>
  intro m hm y hy hj
  obtain rfl : m = x.length := by omega
  have e : y = mksF r x.length := by
   apply List.ext_getElem?
   intro j
   by_cases h : j < x.length
   ·rw [hj j h, mksF_get h]
   ·rw [List.getElem?_eq_none (by omega), List.getElem?_eq_none (by rw [mksF_length]; omega)]
  refine Ev.step (f := fun _ => some (r + (x.length : Int), y)) (fun k => ?_) (Ev.eq (Ev.now _) (by rw [e]))
  simp only [laws_markInt16S.l0]; rw [if_neg (by omega)]
 | succ d ih =>
  intro m hm y hy hj
  refine Ev.step (f := fun k => laws_markInt16S.l0 k (y.set m (IntKind.i16.wrap (r + (m : Int)))) (r + ((m + 1 : Nat) : Int)) ((m + 1 : Nat) : Int)) (fun k => ?_) (ih (m + 1) (by omega) _ (by simp [hy]) (fun j h => ?_))
  ·simp only [laws_markInt16S.l0]
   rw [if_pos (by omega), if_pos (by omega), wrap_sm (i := (m : Int) + 1) (by omega) (by omega), wrap_sm (i := r + (m : Int) + 1) (by omega) (by omega), Int.toNat_natCast, show r + (m : Int) + 1 = r + ((m + 1 : Nat) : Int) by omega]; rfl
  ·by_cases e : j = m
   ·subst e; rw [List.getElem?_set_self (by omega)]
   ·rw [List.getElem?_set_ne (by omega)]; exact hj j (by omega)
theorem heldFrom16 (n : Nat) (hn : n ≤ 2097152) (r : Int) (h0 : 0 ≤ r) (h1 : r ≤ 1000000000000000) : Ev (fun k => laws_heldInt16S.f k (mksF r n) r) (r + (n : Int)) := by
 unfold laws_heldInt16S.f
 have hl := mksF_length r n
 suffices hh : ∀ (d m : Nat), m + d = n → Ev (fun k => laws_heldInt16S.l0 k (mksF r n) (r + (m : Int)) (m : Int)) (r + (n : Int)) from Ev.congr (fun k => by simp) (hh n 0 (by omega))
 intro d
 induction d with
 | zero =>
  intro m hm
  obtain rfl : m = n := by omega
  refine Ev.step (f := fun _ => some (r + (m : Int))) (fun k => ?_) (Ev.now _)
  simp only [laws_heldInt16S.l0]; rw [if_neg (by omega)]
 | succ d ih =>
  intro m hm
  refine Ev.step (fun k => ?_) (ih (m + 1) (by omega))
  simp only [laws_heldInt16S.l0]
  rw [if_pos (by omega), if_pos (by omega), show rd (mksF r n) (m : Int) = (mksF r n).getD m 0 from rfl, mksF_getD (by omega), if_pos (by omega), wrap_sm (i := (m : Int) + 1) (by omega) (by omega), wrap_sm (i := r + (m : Int) + 1) (by omega) (by omega), show r + (m : Int) + 1 = r + ((m + 1 : Nat) : Int) by omega]; rfl
/-- Marks from r on in rows of these lengths; behind the last one. -/
def mksSS : Int → List (List Int) → List (List Int)
 | _, [] => []
 | r, x :: xs => mksF r x.length :: mksSS (r + (x.length : Int)) xs
def totSS : List (List Int) → Int
 | [] => 0
 | x :: xs => (x.length : Int) + totSS xs
theorem mksSS_length : ∀ (xs : List (List Int)) (r : Int), (mksSS r xs).length = xs.length
 | [], _ => rfl
 | x :: xs, r => by simp [mksSS, mksSS_length xs]
theorem totSS_nonneg : ∀ xs : List (List Int), 0 ≤ totSS xs
 | [] => by simp [totSS]
 | x :: xs => by have := totSS_nonneg xs; simp only [totSS]; omega
theorem totSS_le : ∀ xs : List (List Int), (∀ y ∈ xs, y.length ≤ 2097152) → totSS xs ≤ 2097152 * (xs.length : Int)
 | [], _ => by simp [totSS]
 | x :: xs, h => by
  have h1 := totSS_le xs (fun y hy => h y (List.mem_cons_of_mem _ hy))
  have h2 := h x List.mem_cons_self
  simp only [totSS, List.length_cons]; omega
theorem markInt16SS (xs : List (List Int)) (a : Int) (ha0 : 0 ≤ a) (ha1 : a ≤ 3000000) (hx : xs.length ≤ 2097152) (hy : ∀ y ∈ xs, y.length ≤ 2097152) : Ev (fun k => laws_markInt16SS.f k xs a) (a + totSS xs, mksSS a xs) := by
 unfold laws_markInt16SS.f
 suffices hh : ∀ (d m : Nat), m + d = xs.length → ∀ (pre : List (List Int)) (c : Int), pre.length = m → 0 ≤ c → c ≤ 3000000 + 2097152 * (m : Int) → Ev (fun k => laws_markInt16SS.l0 k (pre ++ xs.drop m) c (m : Int)) (c + totSS (xs.drop m), pre ++ mksSS c (xs.drop m)) from hh xs.length 0 (by omega) [] a rfl (by omega) (by omega)
 intro d
 induction d with
 | zero =>
  intro m hm pre c hp hc hc1
  obtain rfl : m = xs.length := by omega
  rw [List.drop_eq_nil_of_le (by omega)]
  refine Ev.step (f := fun _ => some (c, pre ++ [])) (fun k => ?_) (Ev.eq (Ev.now _) (by simp [totSS, mksSS]))
  simp only [laws_markInt16SS.l0]; rw [if_neg (by simp; omega)]
 | succ d ih =>
  intro m hm pre c hp hc hc1
  have hl := hy _ (get_mem ([] : List Int) (show m < xs.length by omega)).1
  rw [drop_step ([] : List Int) (show m < xs.length by omega)]
  generalize hE : xs.getD m [] = el at *
  have hget : (pre ++ el :: xs.drop (m + 1)).getD m [] = el := by rw [List.getD_eq_getElem?_getD, List.getElem?_append_right (by omega), hp, Nat.sub_self]; rfl
  have hset : ∀ z : List Int, (pre ++ el :: xs.drop (m + 1)).set m z = (pre ++ [z]) ++ xs.drop (m + 1) := fun z => by
   rw [List.set_append_right _ _ (by omega), hp, Nat.sub_self, List.set_cons_zero, List.append_assoc]; rfl
  have hlen : (pre ++ el :: xs.drop (m + 1)).length = xs.length := by simp; omega
  refine Ev.step (f := fun k => (laws_markInt16S.f k el c).bind fun bt => laws_markInt16SS.l0 k ((pre ++ [bt.2]) ++ xs.drop (m + 1)) bt.1 ((m + 1 : Nat) : Int)) (fun k => ?_) (Ev.bind (markFrom16 el hl c hc (by omega)) (Ev.eq (ih (m + 1) (by omega) (pre ++ [mksF c el.length]) (c + (el.length : Int)) (by simp [hp]) (by omega) (by omega)) ?_))
  ·simp only [laws_markInt16SS.l0]
   rw [if_pos (by omega), if_pos (by omega), wrap_sm (i := (m : Int) + 1) (by omega) (by omega), Int.toNat_natCast, hget]
   simp only [hset]; rfl
  ·simp only [totSS, mksSS]
   rw [Int.add_assoc, List.append_assoc]; rfl
theorem heldInt16SS (xs : List (List Int)) (a : Int) (ha0 : 0 ≤ a) (ha1 : a ≤ 3000000) (hx : xs.length ≤ 2097152) (hy : ∀ y ∈ xs, y.length ≤ 2097152) : Ev (fun k => laws_heldInt16SS.f k (mksSS a xs) a) (a + totSS xs) := by
 unfold laws_heldInt16SS.f
 have hL := mksSS_length xs a
 suffices hh : ∀ (d m : Nat), m + d = xs.length → ∀ (c : Int), (mksSS a xs).drop m = mksSS c (xs.drop m) → 0 ≤ c → c ≤ 3000000 + 2097152 * (m : Int) → Ev (fun k => laws_heldInt16SS.l0 k (mksSS a xs) c (m : Int)) (c + totSS (xs.drop m)) from hh xs.length 0 (by omega) a rfl (by omega) (by omega)
 intro d
 induction d with
 | zero =>
  intro m hm c hd hc hc1
  obtain rfl : m = xs.length := by omega
  rw [List.drop_eq_nil_of_le (by omega)]
  refine Ev.step (f := fun _ => some c) (fun k => ?_) (Ev.eq (Ev.now _) (by simp [totSS]))
  simp only [laws_heldInt16SS.l0]; rw [if_neg (by omega)]
 | succ d ih =>
  intro m hm c hd hc hc1
  have hl := hy _ (get_mem ([] : List Int) (show m < xs.length by omega)).1
  rw [drop_step ([] : List Int) (show m < xs.length by omega)] at hd ⊢
  generalize hE : xs.getD m [] = el at *
  rw [drop_step ([] : List Int) (show m < (mksSS a xs).length by omega)] at hd
  simp only [mksSS] at hd
  injection hd with hd1 hd2
  have hrd : rd_L1 (mksSS a xs) (m : Int) = mksF c el.length := by unfold rd_L1; rw [Int.toNat_natCast]; exact hd1
  refine Ev.step (f := fun k => (laws_heldInt16S.f k (mksF c el.length) c).bind fun t => if t < 0 then some (-1) else laws_heldInt16SS.l0 k (mksSS a xs) t ((m + 1 : Nat) : Int)) (fun k => ?_) (Ev.bind (heldFrom16 el.length hl c hc (by omega)) ?_)
  ·simp only [laws_heldInt16SS.l0]
   rw [if_pos (by omega), if_pos (by omega), wrap_sm (i := (m : Int) + 1) (by omega) (by omega), hrd]; rfl
  ·have hn : ¬ (c + (el.length : Int)) < 0 := by omega
   simp only [if_neg hn]
   refine Ev.eq (ih (m + 1) (by omega) _ hd2 (by omega) (by omega)) ?_
   simp only [totSS]; omega
def mrkT (st : List Int) (pr : List (List Int)) : Int := 1 + (st.length : Int) + totSS pr
theorem markTableR {st : List Int} {pr : List (List Int)} (h1 : st.length ≤ 2097152) (h2 : pr.length ≤ 2097152) (h3 : ∀ y ∈ pr, y.length ≤ 2097152) : Ev (fun k => laws_markTable.f k st pr 1) (mrkT st pr, mksF 1 st.length, mksSS (1 + (st.length : Int)) pr) := by
 unfold laws_markTable.f
 exact Ev.bind (markFrom16 st h1 1 (by omega) (by omega)) (Ev.bind (markInt16SS pr (1 + (st.length : Int)) (by omega) (by omega) h2 h3) (Ev.now _))
theorem heldTableR {st : List Int} {pr : List (List Int)} (h1 : st.length ≤ 2097152) (h2 : pr.length ≤ 2097152) (h3 : ∀ y ∈ pr, y.length ≤ 2097152) : Ev (fun k => laws_heldTable.f k (mksF 1 st.length) (mksSS (1 + (st.length : Int)) pr) 1) (mrkT st pr) := by
 unfold laws_heldTable.f
 have hn := totSS_nonneg pr
 refine Ev.bind (heldFrom16 st.length h1 1 (by omega) (by omega)) ?_
 simp only [if_neg (show ¬ (1 + (st.length : Int)) < 0 by omega)]
 refine Ev.bind (heldInt16SS pr (1 + (st.length : Int)) (by omega) (by omega) h2 h3) ?_
 simp only [if_neg (show ¬ (1 + (st.length : Int) + totSS pr) < 0 by omega)]
 exact Ev.now _
end Go.Proofs.YtdeipindfhkioaaDoor.Pure
