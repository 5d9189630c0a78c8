/- ReadTable: the reference and the program. -/
import Derived.Test.YtdeipindfhkioaaDoorQ4
import Derived.Test.YtdeipindfhkioaaDoorQ6
import Derived.Test.YtdeipindfhkioaaDoorPureCLines
import Derived.Test.YtdeipindfhkioaaDoorPureCFields
import Derived.Test.YtdeipindfhkioaaDoorPureATabI
set_option linter.unusedVariables false
set_option linter.unusedSimpArgs false
namespace Go.Proofs.YtdeipindfhkioaaDoor.Pure
open Go.RowKit Go.Proofs.YtdeipindfhkioaaDoor.Q Go.Proofs.YtdeipindfhkioaaDoorMine Go.Proofs.YtdeipindfhkioaaDoorW.PrintWords Go.Proofs.YtdeipindfhkioaaDoorW.PrintMore
/-- A line's numbers. -/
def lineOk (p : List UInt8) : Bool := (parts 32 p).all (fun w => (numB w 10000).2)
def lineR (p : List UInt8) : List Int := (parts 32 p).map (fun w => (numB w 10000).1)
theorem numB_bd (w : List UInt8) : 0 ≤ (numB w 10000).1 ∧ (numB w 10000).1 ≤ 10000 := by
 unfold numB
 split
 ·rename_i h; exact ⟨Int.natCast_nonneg _, h.2⟩
 ·simp
theorem numB_dec {w : List UInt8} (h : (numB w 10000).2 = true) : decW (numB w 10000).1 = w := by
 unfold numB at h ⊢
 split at h
 ·rename_i hh
  rw [if_pos hh]
  unfold decW
  rw [Int.toNat_natCast]
  exact okN_dec hh.1
 ·cases h
theorem lineR_bd {p : List UInt8} {n : Int} (h : n ∈ lineR p) : 0 ≤ n ∧ n ≤ 10000 := by
 obtain ⟨w, _, rfl⟩ := List.mem_map.1 h
 exact numB_bd w
theorem lineR_wf (p : List UInt8) : ∀ n ∈ lineR p, wfInt16 n := by
 intro n hn
 have := lineR_bd hn
 unfold wfInt16
 simp [Lit.wf, IntKind.min, IntKind.max, IntKind.signed, IntKind.bits]; omega
theorem lineR_len (p : List UInt8) : (lineR p).length ≤ p.length + 1 := by
 unfold lineR; rw [List.length_map]; exact parts_len 32 p
theorem lnOwn_line (p : List UInt8) : lnOwn (lineR p) = lineR p := by
 unfold lnOwn
 conv => rhs; rw [← List.map_id (lineR p)]
 refine List.map_congr_left (fun n hn => ?_)
 have := lineR_bd hn
 exact IntWalk.i16_in _ (by omega)
theorem rowB_line {p : List UInt8} (h : lineOk p = true) : rowB (lineR p) = p ++ [10] := by
 unfold rowB lineR
 rw [List.map_map]
 have e : (parts 32 p).map (decW ∘ fun w => (numB w 10000).1) = parts 32 p := by
  conv => rhs; rw [← List.map_id (parts 32 p)]
  exact List.map_congr_left (fun w hw => numB_dec (List.all_eq_true.1 h w hw))
 rw [e]
 have := parts_join 32 p []
 unfold parts
 rw [this]; rfl
theorem rowsB_lines : ∀ ps : List (List UInt8), ps.all lineOk = true → rowsB (ps.map lineR) = (ps.map (· ++ [10])).flatten
 | [], _ => rfl
 | p :: ps, h => by
  rw [List.all_cons, Bool.and_eq_true] at h
  rw [List.map_cons, rowsB_cons, rowB_line h.1, rowsB_lines ps h.2]; rfl
def tabOf (rows : List (List Int)) : List Int × List (List Int) := (rows.headD [], rows.tail)
def rReadTable (l : List UInt8) : List Int × List (List Int) × Int :=
 if (parts 10 l).getLast? = some [] ∧ (lns l).all lineOk = true ∧ okT (tabOf ((lns l).map lineR)).1 (tabOf ((lns l).map lineR)).2 = true then ((tabOf ((lns l).map lineR)).1, (tabOf ((lns l).map lineR)).2, 0) else ([], [], 5)
theorem whole {l : List UInt8} (h : (parts 10 l).getLast? = some []) : ((lns l).map (· ++ [10])).flatten = l := by
 have := parts_whole 10 l [] h
 unfold lns lnsOf
 rw [if_pos h]
 exact this
theorem rowsB_end (b : List Int) (ls : List (List Int)) : (rowsB (b :: ls)).getLast? = some 10 := by
 have : ∀ (ls : List (List Int)) (b : List Int), (rowsB (b :: ls)).getLast? = some 10 := by
  intro ls
  induction ls with
  | nil => intro b; rw [rowsB_cons]; unfold rowB rowsB; simp
  | cons c cs ih =>
   intro b
   rw [rowsB_cons, List.getLast?_append, ih c]
   simp
 exact this ls b
theorem last_nil : ∀ (l a : List UInt8), l.getLast? = some 10 → (partsA 10 a l).getLast? = some []
 | [], a, h => by simp at h
 | [b], a, h => by
  simp at h
  subst h
  simp [partsA]
 | b :: c :: l, a, h => by
  rw [List.getLast?_cons_cons] at h
  unfold partsA
  split
  ·obtain ⟨q, qs, hq⟩ := List.exists_cons_of_ne_nil (partsA_ne 10 (c :: l) [])
   rw [hq, List.getLast?_cons_cons, ← hq]
   exact last_nil (c :: l) [] h
  ·exact last_nil (c :: l) _ h
/-- What is found at the end. -/
def finT (l : List UInt8) (x0 : List Int) (x1 : List (List Int)) : List Int × List (List Int) × Int := if l = [] then ([], [], 5) else if (rTableText x0 x1).data.toList = l then (x0, x1, 0) else ([], [], 5)
theorem fin_is (l : List UInt8) (ha : (lns l).all lineOk = true) : finT l (tabOf ((lns l).map lineR)).1 (tabOf ((lns l).map lineR)).2 = rReadTable l := by
 unfold finT rReadTable
 by_cases hl : l = []
 ·subst hl
  rw [if_pos rfl, if_neg]
  rintro ⟨_, _, h⟩
  rw [lns_nil] at h
  exact absurd h (by decide)
 ·rw [if_neg hl]
  unfold rTableText
  by_cases ho : okT (tabOf ((lns l).map lineR)).1 (tabOf ((lns l).map lineR)).2 = true
  ·rw [if_pos ho, bsOf_list]
   have hne : (lns l).map lineR ≠ [] := by
    intro e
    rw [e] at ho
    exact absurd ho (by decide)
   obtain ⟨b, bs, hb⟩ := List.exists_cons_of_ne_nil hne
   have ht : (tabOf ((lns l).map lineR)).1 :: (tabOf ((lns l).map lineR)).2 = (lns l).map lineR := by rw [hb]; rfl
   rw [ht]
   by_cases hw : (parts 10 l).getLast? = some []
   ·rw [if_pos (show rowsB ((lns l).map lineR) = l by rw [rowsB_lines _ ha]; exact whole hw), if_pos ⟨hw, ha, ho⟩]
   ·rw [if_neg (fun e : rowsB ((lns l).map lineR) = l => hw (last_nil l [] (by rw [← e, hb]; exact rowsB_end b bs))), if_neg (fun h => hw h.1)]
  ·rw [if_neg ho, if_neg (fun e => hl (show ([] : List UInt8) = l from e).symm), if_neg (fun h => ho h.2.2)]
theorem list_same {s t : ByteArray} : t.toList = s.toList ↔ t.data.toList = s.data.toList := by rw [ByteArray.toList_eq, ByteArray.toList_eq]
/-- What the lines that are left make of the table. -/
def accT (st : Bool) (x0 : List Int) (x1 : List (List Int)) (rows : List (List Int)) : List Int × List (List Int) := if st = true then (x0, x1 ++ rows) else (match rows with | [] => (x0, x1) | r :: rs => (r, x1 ++ rs))
theorem accT_step (st : Bool) (x0 : List Int) (x1 : List (List Int)) (r : List Int) (rows : List (List Int)) : accT st x0 x1 (r :: rows) = if st = true then accT true x0 (x1 ++ [r]) rows else accT true r x1 rows := by
 unfold accT
 cases st <;> simp
def fine (x0 : List Int) (x1 : List (List Int)) (n : Nat) : Prop := (x0.length ≤ 2097152 ∧ ∀ z ∈ x0, wfInt16 z) ∧ (x1.length + n ≤ 2097152) ∧ ∀ y ∈ x1, y.length ≤ 2097152 ∧ ∀ z ∈ y, wfInt16 z
theorem implLines {s : ByteArray} {l : List UInt8} (hs : s.data.toList = l) (hl : l.length ≤ 1048576) : ∀ (n : Nat) (z : ByteArray) (q : List UInt8) (st : Bool) (x0 : List Int) (x1 : List (List Int)), q.length ≤ n → z.data.toList = q → q.length ≤ 1048576 → fine x0 x1 q.length →
  Ev (fun k => impl_ReadTable.l0 k s z st x0 x1) (if (lns q).all lineOk = true then finT l (accT st x0 x1 ((lns q).map lineR)).1 (accT st x0 x1 ((lns q).map lineR)).2 else ([], [], 5)) := by
 have hzs : ∀ {z : ByteArray} {q : List UInt8}, z.data.toList = q → z.size = q.length := fun h => by rw [← h, Array.length_toList]; rfl
 intro n
 induction n with
 | zero =>
  intro z q st x0 x1 hn hz hq hf
  obtain rfl : q = [] := List.eq_nil_of_length_eq_zero (by omega)
  obtain ⟨⟨f1, f2⟩, f3, f4⟩ := hf
  have hw : wfTable x0 x1 := ⟨f1, by omega, fun y hy => (f4 y hy).1, f2, fun y hy => (f4 y hy).2⟩
  have ha : accT st x0 x1 [] = (x0, x1) := by unfold accT; cases st <;> simp
  rw [lns_nil, List.map_nil, ha]
  refine Ev.step (f := fun k => if s.toList = ([] : List UInt8) then (some ([], [], 5)) else ((impl_TableText.f k x0 x1).bind fun t => (if t.toList = s.toList then (some (x0, x1, 0)) else (some ([], [], 5))))) (fun k => ?_) ?_
  ·simp only [impl_ReadTable.l0]
   rw [if_pos (by rw [hzs hz]; rfl)]
  ·refine Ev.eq (r := finT l x0 x1) ?_ (by simp)
   unfold finT
   by_cases h0 : l = []
   ·rw [if_pos h0]
    exact Ev.pos (list_nil.2 (hs.trans h0)) (Ev.now _)
   ·rw [if_neg h0]
    refine Ev.neg (fun e => h0 (hs.symm.trans (list_nil.1 e))) (Ev.bind (implTableText hw) ?_)
    by_cases h1 : (rTableText x0 x1).data.toList = l
    ·rw [if_pos h1]
     exact Ev.pos (list_same.2 (h1.trans hs.symm)) (Ev.now _)
    ·rw [if_neg h1]
     exact Ev.neg (fun e => h1 ((list_same.1 e).trans hs)) (Ev.now _)
 | succ n ih =>
  intro z q st x0 x1 hn hz hq hf
  by_cases hqe : q = []
  ·exact ih z q st x0 x1 (by rw [hqe]; simp) hz hq hf
  obtain ⟨⟨f1, f2⟩, f3, f4⟩ := hf
  have hsz := hzs hz
  have hpos : 0 < q.length := List.length_pos_iff.2 hqe
  -- the first line, and what is left
  obtain ⟨p, r, hp, hr, hlns, hrl⟩ : ∃ p r : List UInt8, (lnTrim z).data.toList = p ∧ (lnRest z).data.toList = r ∧ lns q = p :: lns r ∧ r.length < q.length ∧ p.length ≤ q.length := by
   have hI : lnI z = Lib.indexByte q 10 := by unfold lnI; rw [hz]
   by_cases hi : 0 ≤ Lib.indexByte q 10
   ·obtain ⟨i, hi'⟩ := Int.eq_ofNat_of_zero_le hi
    obtain ⟨h1, h2, h3⟩ := lns_more hi'
    refine ⟨q.take i, q.drop (i + 1), ?_, ?_, h3, ?_, ?_⟩
    ·unfold lnTrim lnLine
     rw [hI, if_pos hi, hi', show ((i : Int) + 1).toNat = i + 1 by omega, extract_bs hz, bsOf_list, List.drop_zero]
     simp only [Nat.sub_zero, List.toList_toArray]
     exact trim_line h2 h1
    ·unfold lnRest
     rw [hI, if_pos hi, hi', show ((i : Int) + 1).toNat = i + 1 by omega, extract_bs hz, bsOf_list, List.take_of_length_le]
     rw [List.length_drop, hsz]; omega
    ·rw [List.length_drop]; omega
    ·rw [List.length_take]; omega
   ·have hm : Lib.indexByte q 10 = -1 := by have := Lib.indexByte_ge q 10; omega
    refine ⟨q, [], ?_, ?_, lns_one hm hqe, hpos, Nat.le_refl _⟩
    ·unfold lnTrim lnLine
     rw [hI, if_neg hi, hz]
     simp only [List.toList_toArray]
     exact trim_none hm
    ·unfold lnRest
     rw [hI, if_neg hi]
  have hrl2 := hrl.2
  have hrl1 := hrl.1
  refine Ev.step (f := fun k => (impl_fields.f k (lnTrim z) (⟨#[32]⟩ : ByteArray) 10000).bind fun bt => (if bt.2 = true then (if bt.1.length ≤ 4294967296 then (if st = true then (if x1.length < 5864062014805 then (impl_ReadTable.l0 k s (lnRest z) true x0 (x1 ++ [lnOwn bt.1])) else (none)) else (impl_ReadTable.l0 k s (lnRest z) true (lnOwn bt.1) x1)) else (none)) else (some ([], [], 5)))) (fun k => ?_) ?_
  ·simp only [impl_ReadTable.l0]
   rw [if_neg (by rw [hsz]; omega)]
  ·refine Ev.bind (implFields hp (by omega) 32 (most := 10000) (by omega)) ?_
   rw [hlns, List.all_cons, List.map_cons]
   unfold fldL
   cases hk : lineOk p with
   | false =>
    unfold lineOk at hk
    rw [if_neg (by rw [hk]; simp)]
    refine Ev.neg (by simp) (Ev.eq (Ev.now _) (by simp))
   | true =>
    have hk' := hk
    unfold lineOk at hk'
    rw [if_pos hk', Bool.true_and, accT_step]
    have hll := lineR_len p
    have e1 : lnOwn ((parts 32 p).map fun w => (numB w 10000).1) = lineR p := lnOwn_line p
    have e2 : ((parts 32 p).map fun w => (numB w 10000).1).length ≤ 4294967296 := by
     show (lineR p).length ≤ _
     omega
    refine Ev.pos rfl (Ev.pos e2 ?_)
    dsimp only
    rw [e1]
    cases st with
    | true =>
     refine Ev.pos rfl (Ev.pos (by omega) ?_)
     rw [if_pos rfl]
     refine ih (lnRest z) r true x0 (x1 ++ [lineR p]) (by omega) hr (by omega) ⟨⟨f1, f2⟩, by rw [List.length_append, List.length_singleton]; omega, fun y hy => ?_⟩
     rcases List.mem_append.1 hy with h | h
     ·exact f4 y h
     ·rw [List.mem_singleton] at h; subst h
      exact ⟨by omega, lineR_wf p⟩
    | false =>
     refine Ev.neg (by simp) ?_
     simp only [Bool.false_eq_true, if_false]
     exact ih (lnRest z) r true (lineR p) x1 (by omega) hr (by omega) ⟨⟨by omega, lineR_wf p⟩, by omega, f4⟩
theorem accT_tab (rows : List (List Int)) : accT false [] [] rows = tabOf rows := by
 unfold accT tabOf
 cases rows <;> simp
theorem implReadTable {s : ByteArray} (hs : s.data.toList.length ≤ 1048576) : Ev (fun k => impl_ReadTable.f k s) (rReadTable s.data.toList) := by
 unfold impl_ReadTable.f
 have hsz : s.size = s.data.toList.length := by rw [Array.length_toList]; rfl
 refine Ev.pos (by omega) (Ev.eq (implLines (l := s.data.toList) rfl hs s.data.toList.length s s.data.toList false [] [] (Nat.le_refl _) rfl hs ⟨⟨by simp, by simp⟩, by simp; omega, by simp⟩) ?_)
 rw [accT_tab]
 by_cases ha : (lns s.data.toList).all lineOk = true
 ·rw [if_pos ha, fin_is _ ha]
 ·rw [if_neg ha]
  unfold rReadTable
  rw [if_neg (fun h => ha h.2.1)]
theorem specLine {p : List UInt8} (hp : p.length ≤ 1048576) : ∃ x, Ev (fun k => spec_l03Line.f k (bsOf p)) (x, lineOk p) ∧ (lineOk p = true → x = lineR p) := by
 have hpl := parts_len 32 p
 have hml : ∀ {j : Nat}, j < (parts 32 p).length → ((parts 32 p).getD j []).length ≤ 1048576 := fun hj => by
  have := parts_mem (get_mem ([] : List UInt8) hj).1
  omega
 suffices hh : ∀ (d m : Nat), m + d = (parts 32 p).length → ∀ acc : List Int, acc.length = m → ∃ x, Ev (fun k => spec_l03Line.l0 k acc ((parts 32 p).map bsOf) (m : Int)) (x, ((parts 32 p).drop m).all (fun w => (numB w 10000).2)) ∧ (((parts 32 p).drop m).all (fun w => (numB w 10000).2) = true → x = acc ++ ((parts 32 p).drop m).map (fun w => (numB w 10000).1)) by
  obtain ⟨x, h1, h2⟩ := hh (parts 32 p).length 0 (by omega) [] rfl
  refine ⟨x, ?_, fun h => h2 h⟩
  unfold spec_l03Line.f
  exact Ev.bind (specSplit (s := bsOf p) (bsOf_list p) (by omega) 32) h1
 intro d
 induction d with
 | zero =>
  intro m hm acc hacc
  refine ⟨acc, ?_, fun _ => by rw [List.drop_eq_nil_of_le (by omega)]; simp⟩
  rw [List.drop_eq_nil_of_le (by omega)]
  refine Ev.step (f := fun _ => some (acc, true)) (fun k => ?_) (Ev.eq (Ev.now _) (by simp))
  simp only [spec_l03Line.l0]
  rw [if_neg (by rw [List.length_map]; omega)]
 | succ d ih =>
  intro m hm acc hacc
  have hj : m < (parts 32 p).length := by omega
  have hg : rdOf ByteArray.empty ((parts 32 p).map bsOf) (m : Int) = bsOf ((parts 32 p).getD m []) := by
   unfold rdOf
   rw [Int.toNat_natCast, List.getD_eq_getElem?_getD, List.getElem?_map, List.getElem?_eq_getElem hj, List.getD_eq_getElem?_getD, List.getElem?_eq_getElem hj]; rfl
  have hwl := hml hj
  rw [drop_step ([] : List UInt8) hj]
  generalize (parts 32 p).getD m [] = w at hg hwl ⊢
  have hs : ∀ k, spec_l03Line.l0 (k + 1) acc ((parts 32 p).map bsOf) (m : Int) = (spec_l01Number.f k (bsOf w)).bind fun bt138 => (if bt138.2 = true then (if bt138.1 > 10000 then (some (acc, false)) else (if acc.length < 70368744177664 then (spec_l03Line.l0 k (acc ++ [IntKind.i16.wrap (bt138.1)]) ((parts 32 p).map bsOf) ((m + 1 : Nat) : Int)) else (none))) else (some (acc, false))) := fun k => by
   simp only [spec_l03Line.l0]
   rw [if_pos (by rw [List.length_map]; omega), if_pos (by omega), hg, wrap_sm (i := (m : Int) + 1) (by omega) (by omega)]; rfl
  have hN := specNumber (s := bsOf w) (bsOf_list w) (by omega)
  rw [List.all_cons, List.map_cons]
  have hb := num_both (l := w) (most := 10000) (by omega)
  by_cases c1 : (numS w).2 = true
  ·by_cases c2 : (numS w).1 > 10000
   ·have e : numB w 10000 = (0, false) := by rw [hb, if_neg (fun h => by omega)]
    rw [e]
    refine ⟨acc, Ev.step hs (Ev.bind hN (Ev.pos c1 (Ev.pos c2 (Ev.eq (Ev.now _) (by simp))))), fun h => by simp at h⟩
   ·have e : numB w 10000 = ((numS w).1, true) := by rw [hb, if_pos ⟨c1, by omega⟩]
    have hbd := numB_bd w
    rw [e] at hbd
    obtain ⟨x, h1, h2⟩ := ih (m + 1) (by omega) (acc ++ [(numS w).1]) (by rw [List.length_append, List.length_singleton]; omega)
    rw [e]
    refine ⟨x, Ev.step hs (Ev.bind hN (Ev.pos c1 (Ev.neg c2 (Ev.pos (by omega) ?_)))), fun h => ?_⟩
    ·rw [IntWalk.i16_in _ (by dsimp only at hbd; omega)]
     simpa using h1
    ·have := h2 (by simpa using h)
     rw [this]; simp
  ·have e : numB w 10000 = (0, false) := by rw [hb, if_neg (fun h => c1 h.1)]
   rw [e]
   refine ⟨acc, Ev.step hs (Ev.bind hN (Ev.neg c1 (Ev.eq (Ev.now _) (by simp)))), fun h => by simp at h⟩
theorem specLoop {l : List UInt8} (hl : l.length ≤ 1048576) (hw : (parts 10 l).getLast? = some []) : ∀ (d m : Nat), m + d = (lns l).length → ∀ (x0 : List Int) (x1 : List (List Int)), fine x0 x1 d → (m = 0 → x1 = []) →
  Ev (fun k => spec_ReadTable.l0 k ((parts 10 l).map bsOf) ((lns l).length : Int) (m : Int) x0 x1) (if ((lns l).drop m).all lineOk = true then (if okT (accT (decide (m ≠ 0)) x0 x1 (((lns l).drop m).map lineR)).1 (accT (decide (m ≠ 0)) x0 x1 (((lns l).drop m).map lineR)).2 = true then ((accT (decide (m ≠ 0)) x0 x1 (((lns l).drop m).map lineR)).1, (accT (decide (m ≠ 0)) x0 x1 (((lns l).drop m).map lineR)).2, 0) else ([], [], 5)) else ([], [], 5)) := by
 have hll := lns_len l
 have hpe : parts 10 l = lns l ++ [[]] := by
  unfold lns lnsOf
  rw [if_pos hw]
  obtain ⟨h1, h2⟩ := List.getLast?_eq_some_iff.1 hw
  rw [h2, List.dropLast_concat]
 intro d
 induction d with
 | zero =>
  intro m hm x0 x1 hf h0
  obtain ⟨⟨f1, f2⟩, f3, f4⟩ := hf
  have hwt : wfTable x0 x1 := ⟨f1, by omega, fun y hy => (f4 y hy).1, f2, fun y hy => (f4 y hy).2⟩
  rw [List.drop_eq_nil_of_le (by omega)]
  have ha : accT (decide (m ≠ 0)) x0 x1 ([].map lineR) = (x0, x1) := by unfold accT; cases decide (m ≠ 0) <;> simp
  rw [ha]
  refine Ev.step (f := fun k => (spec_l03Ok.f k x0 x1).bind fun t149 => (if t149 = true then (some (x0, x1, 0)) else (some (([] : List Int), ([] : List (List Int)), 5)))) (fun k => ?_) (Ev.bind (specT hwt) ?_)
  ·simp only [spec_ReadTable.l0]
   rw [if_neg (by omega)]
  ·simp only [List.all_nil, if_true]
   split <;> exact Ev.now _
 | succ d ih =>
  intro m hm x0 x1 hf h0
  obtain ⟨⟨f1, f2⟩, f3, f4⟩ := hf
  have hj : m < (lns l).length := by omega
  have hpl := lns_mem (get_mem ([] : List UInt8) hj).1
  have hg : rdOf ByteArray.empty ((parts 10 l).map bsOf) (m : Int) = bsOf ((lns l).getD m []) := by
   unfold rdOf
   rw [Int.toNat_natCast, hpe, List.getD_eq_getElem?_getD, List.getElem?_map, List.getElem?_append_left hj, List.getElem?_eq_getElem hj, List.getD_eq_getElem?_getD, List.getElem?_eq_getElem hj]; rfl
  have hlen : ((parts 10 l).map bsOf).length = (lns l).length + 1 := by rw [List.length_map, hpe, List.length_append]; rfl
  rw [drop_step ([] : List UInt8) hj, List.all_cons, List.map_cons, accT_step]
  generalize (lns l).getD m [] = p at hg hpl ⊢
  obtain ⟨x, hx, hxe⟩ := specLine (p := p) (by omega)
  have hs : ∀ k, spec_ReadTable.l0 (k + 1) ((parts 10 l).map bsOf) ((lns l).length : Int) (m : Int) x0 x1 = (spec_l03Line.f k (bsOf p)).bind fun bt151 => (if bt151.2 = true then (if (m : Int) = 0 then (spec_ReadTable.l0 k ((parts 10 l).map bsOf) ((lns l).length : Int) ((m + 1 : Nat) : Int) bt151.1 x1) else (if x1.length < 5864062014805 then (spec_ReadTable.l0 k ((parts 10 l).map bsOf) ((lns l).length : Int) ((m + 1 : Nat) : Int) x0 (x1 ++ [bt151.1])) else (none))) else (some (([] : List Int), ([] : List (List Int)), 5))) := fun k => by
   simp only [spec_ReadTable.l0]
   rw [if_pos (by omega), if_pos (by omega), if_pos (by rw [hlen]; omega), hg, wrap_sm (i := (m : Int) + 1) (by omega) (by omega)]; rfl
  refine Ev.step hs (Ev.bind hx ?_)
  cases hk : lineOk p with
  | false =>
   refine Ev.neg (by simp) (Ev.eq (Ev.now _) (by simp))
  | true =>
   rw [hxe hk, Bool.true_and]
   have hlr := lineR_len p
   refine Ev.pos rfl ?_
   have e1 : decide (m + 1 ≠ 0) = true := by simp
   by_cases c : m = 0
   ·have ec : decide (m ≠ 0) = false := by simp [c]
    simp only [ec, Bool.false_eq_true, if_false]
    refine Ev.pos (by omega) ?_
    have := ih (m + 1) (by omega) (lineR p) x1 ⟨⟨by omega, lineR_wf p⟩, by omega, f4⟩ (fun h => by omega)
    rw [e1] at this
    exact this
   ·have ec : decide (m ≠ 0) = true := by simp [c]
    simp only [ec, if_true]
    refine Ev.neg (by omega) (Ev.pos (by omega) ?_)
    have := ih (m + 1) (by omega) x0 (x1 ++ [lineR p]) ⟨⟨f1, f2⟩, by rw [List.length_append, List.length_singleton]; omega, fun y hy => by
     rcases List.mem_append.1 hy with h | h
     ·exact f4 y h
     ·rw [List.mem_singleton] at h; subst h
      exact ⟨by omega, lineR_wf p⟩⟩ (fun h => by omega)
    rw [e1] at this
    exact this
theorem specReadTable {s : ByteArray} (hs : s.data.toList.length ≤ 1048576) : Ev (fun k => spec_ReadTable.f k s) (rReadTable s.data.toList) := by
 unfold spec_ReadTable.f
 generalize hl : s.data.toList = l at *
 have hpl := parts_len 10 l
 have hne : parts 10 l ≠ [] := partsA_ne 10 l []
 have hp0 : 0 < (parts 10 l).length := List.length_pos_iff.2 hne
 refine Ev.bind (specSplit (s := s) hl (by omega) 10) ?_
 have hlen : ((parts 10 l).map bsOf).length = (parts 10 l).length := List.length_map _
 rw [hlen, wrap_sm (i := ((parts 10 l).length : Int) - 1) (by omega) (by omega), show ((parts 10 l).length : Int) - 1 = (((parts 10 l).length - 1 : Nat) : Int) by omega]
 refine Ev.pos (by omega) (Ev.pos (by omega) ?_)
 have hg : rdOf ByteArray.empty ((parts 10 l).map bsOf) (((parts 10 l).length - 1 : Nat) : Int) = bsOf ((parts 10 l).getLast hne) := by
  unfold rdOf
  rw [Int.toNat_natCast, List.getD_eq_getElem?_getD, List.getElem?_map, List.getElem?_eq_getElem (show (parts 10 l).length - 1 < (parts 10 l).length by omega), List.getLast_eq_getElem]; rfl
 rw [hg]
 have hlast : (parts 10 l).getLast? = some ((parts 10 l).getLast hne) := List.getLast?_eq_some_getLast hne
 have herr : ∀ x5 : Int, Ev (fun k => spec_ReadTable.j0 k ((parts 10 l).map bsOf) x5 true) ([], [], 5) := fun x5 => Ev.step (f := fun _ => some ([], [], 5)) (fun k => by simp only [spec_ReadTable.j0, if_true]) (Ev.now _)
 by_cases hw : (parts 10 l).getLast hne = []
 ·rw [hw] at hlast
  refine Ev.pos (list_nil.2 (by rw [hw, bsOf_list])) ?_
  have hnl : (parts 10 l).length - 1 = (lns l).length := by
   unfold lns lnsOf
   rw [if_pos hlast, List.length_dropLast]
  rw [hnl]
  by_cases h2 : ((lns l).length : Int) < 2
  ·rw [decide_eq_true h2]
   refine Ev.eq (herr _) ?_
   unfold rReadTable
   rw [if_neg]
   rintro ⟨_, _, ho⟩
   have h3 := (okT_bd ho).2.1
   unfold tabOf at h3
   simp only [List.length_tail, List.length_map] at h3
   omega
  ·rw [decide_eq_false h2]
   refine Ev.step (f := fun k => spec_ReadTable.l0 k ((parts 10 l).map bsOf) ((lns l).length : Int) 0 [] []) (fun k => by simp only [spec_ReadTable.j0, Bool.false_eq_true, if_false]) ?_
   have hll := lns_len l
   refine Ev.eq (specLoop hs hlast (lns l).length 0 (by omega) [] [] ⟨⟨by simp, by simp⟩, by simp; omega, by simp⟩ (fun _ => rfl)) ?_
   rw [List.drop_zero, show decide ((0 : Nat) ≠ 0) = false from rfl, accT_tab]
   unfold rReadTable
   by_cases ha : (lns l).all lineOk = true
   ·rw [if_pos ha]
    by_cases ho : okT (tabOf ((lns l).map lineR)).1 (tabOf ((lns l).map lineR)).2 = true
    ·rw [if_pos ho, if_pos ⟨hlast, ha, ho⟩]
    ·rw [if_neg ho, if_neg (fun h => ho h.2.2)]
   ·rw [if_neg ha, if_neg (fun h => ha h.2.1)]
 ·refine Ev.neg (fun e => hw ?_) (Ev.eq (herr _) ?_)
  ·have := list_nil.1 e
   rwa [bsOf_list] at this
  ·unfold rReadTable
   rw [if_neg (fun h => hw ?_)]
   have := h.1
   rw [hlast] at this
   exact Option.some.inj this
theorem rRead_wf {l : List UInt8} (hl : l.length ≤ 1048576) : wfTable (rReadTable l).1 (rReadTable l).2.1 := by
 unfold rReadTable
 split
 ·rename_i h
  obtain ⟨h1, h2, h3, _, h5⟩ := okT_bd h.2.2
  have hw : ∀ {n : Int}, 0 ≤ n ∧ n ≤ 10000 → wfInt16 n := fun h => by
   unfold wfInt16
   simp [Lit.wf, IntKind.min, IntKind.max, IntKind.signed, IntKind.bits]; omega
  exact ⟨by dsimp only; omega, by dsimp only; omega, fun y hy => by have := (h5 y hy).1; omega, fun n hn => hw (by have := h3 n hn; omega), fun y hy n hn => hw ((h5 y hy).2 n hn)⟩
 ·exact ⟨by simp, by simp, by simp, by simp, by simp⟩
end Go.Proofs.YtdeipindfhkioaaDoor.Pure
