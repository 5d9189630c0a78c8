/- TableText: the reference and the program. -/
import Derived.Test.YtdeipindfhkioaaDoorQ2
import Derived.Test.YtdeipindfhkioaaDoorPureCDec
import Derived.Test.YtdeipindfhkioaaDoorPureCDecI
import Derived.Test.YtdeipindfhkioaaDoorPureCJoin
import Derived.Test.YtdeipindfhkioaaDoorPureCTab
set_option linter.unusedVariables false
set_option linter.unusedSimpArgs false
namespace Go.Proofs.YtdeipindfhkioaaDoor.Pure
open Go.RowKit Go.Proofs.YtdeipindfhkioaaDoor.Q Go.Proofs.YtdeipindfhkioaaDoorMine Go.Proofs.YtdeipindfhkioaaDoorW.PrintWords Go.Proofs.YtdeipindfhkioaaDoorW.PrintMore
/-- A row's numbers as words; a row as a line; the rows' lines. -/
def decW (n : Int) : List UInt8 := Lib.decDigits n.toNat
def rowB (b : List Int) : List UInt8 := Lib.join (b.map decW) [32] ++ [10]
def rowsB (ls : List (List Int)) : List UInt8 := (ls.map rowB).flatten
def fit (b : List Int) : Prop := b.length ≤ 10 ∧ ∀ n ∈ b, 0 ≤ n ∧ n ≤ 10000
theorem decW_len {n : Int} (h : 0 ≤ n ∧ n ≤ 10000) : (decW n).length ≤ 5 := dec_len 4 n.toNat (by omega)
theorem words_le {b : List Int} (h : fit b) : ∀ x ∈ b.map decW, x.length ≤ 5 := by
  intro x hx
  obtain ⟨n, hn, rfl⟩ := List.mem_map.1 hx
  exact decW_len (h.2 n hn)
theorem rowB_len {b : List Int} (h : fit b) : (rowB b).length ≤ 61 := by
  have h1 := join_le (sep := [32]) (b.map decW) (words_le h)
  have h2 := h.1
  unfold rowB
  simp only [List.length_append, List.length_map, List.length_cons, List.length_nil] at h1 ⊢
  omega
theorem rowsB_cons (b : List Int) (ls : List (List Int)) : rowsB (b :: ls) = rowB b ++ rowsB ls := by simp [rowsB]
theorem map_data (b : List Int) : (b.map (fun n => bsOf (decW n))).map (·.data.toList) = b.map decW := by
  rw [List.map_map]
  exact List.map_congr_left (fun n _ => by simp [bsOf])
theorem fit_get {b : List Int} (h : fit b) {j : Nat} (hj : j < b.length) : 0 ≤ b.getD j 0 ∧ b.getD j 0 ≤ 10000 := h.2 _ (get_mem 0 hj).1
theorem implRow {ls : List (List Int)} (hn : ls.length ≤ 7) (hg : ∀ b ∈ ls, fit b) {m : Nat} (hm : m < ls.length) {acc : List UInt8} (hacc : acc.length ≤ 1000) {r : ByteArray}
    (hr : Ev (fun k => impl_TableText.l0 k (bsOf (acc ++ rowB (ls.getD m []))) ls (ls.length : Int) ((m + 1 : Nat) : Int)) r) :
    Ev (fun k => impl_TableText.l1 k (bsOf acc) [] ls (ls.length : Int) (m : Int) (ls.getD m []) ((ls.getD m []).length : Int) 0) r := by
  have hf := hg _ (get_mem [] hm).1
  generalize ls.getD m [] = b at *
  suffices hh : ∀ (d j : Nat), j + d = b.length → Ev (fun k => impl_TableText.l1 k (bsOf acc) ((b.take j).map (fun n => bsOf (decW n))) ls (ls.length : Int) (m : Int) b (b.length : Int) (j : Int)) r by
    simpa using hh b.length 0 (by omega)
  intro d
  induction d with
  | zero =>
    intro j hj
    have h1 := join_le (sep := [32]) (b.map decW) (words_le hf)
    have h2 := hf.1
    simp only [List.length_map, List.length_cons, List.length_nil] at h1
    rw [List.take_of_length_le (by omega)]
    refine Ev.step (f := fun k => impl_TableText.l0 k (bsOf (acc ++ rowB b)) ls (ls.length : Int) ((m + 1 : Nat) : Int)) (fun k => ?_) hr
    simp only [impl_TableText.l1]
    have hJ : strings_Join.f (b.map (fun n => bsOf (decW n))) (⟨#[32]⟩ : ByteArray) = some (bsOf (Lib.join (b.map decW) [32])) := by
      unfold strings_Join.f
      rw [if_pos (by rw [List.length_map]; omega), map_data, if_pos (by show (Lib.join (b.map decW) [32]).length ≤ _; omega)]; rfl
    rw [if_neg (by omega), hJ, Option.bind_some, if_pos (by rw [bsOf_size]; omega), lit_bs, bsOf_append]
    unfold Builder_WriteString.f
    rw [if_pos (by rw [bsOf_size, bsOf_size, List.length_append, List.length_singleton]; omega), Option.bind_some, bsOf_append, wrap_sm (i := (m : Int) + 1) (by omega) (by omega)]
    rfl
  | succ d ih =>
    intro j hj
    have hx := fit_get hf (show j < b.length by omega)
    have h2 := hf.1
    refine Ev.step (fun k => ?_) (ih (j + 1) (by omega))
    simp only [impl_TableText.l1]
    rw [if_pos (by omega), if_pos (by omega), if_pos (by omega), show rd b (j : Int) = b.getD j 0 from rfl, wrap_sm (i := b.getD j 0) (by omega) (by omega), implDecimal hx.1 (by omega), Option.bind_some, if_pos (by rw [List.length_map, List.length_take]; omega), wrap_sm (i := (j : Int) + 1) (by omega) (by omega), List.take_add_one, List.map_append, getD_ge (z := 0) (by omega)]
    rfl
theorem implRows {ls : List (List Int)} (hn : ls.length ≤ 7) (hg : ∀ b ∈ ls, fit b) : Ev (fun k => impl_TableText.l0 k (bsOf []) ls (ls.length : Int) 0) (bsOf (rowsB ls)) := by
  suffices hh : ∀ (d m : Nat), m + d = ls.length → ∀ acc : List UInt8, acc.length ≤ 61 * m → Ev (fun k => impl_TableText.l0 k (bsOf acc) ls (ls.length : Int) (m : Int)) (bsOf (acc ++ rowsB (ls.drop m))) by
    simpa using hh ls.length 0 (by omega) [] (by simp)
  intro d
  induction d with
  | zero =>
    intro m hm acc hacc
    rw [List.drop_eq_nil_of_le (by omega)]
    refine Ev.step (f := fun _ => some (bsOf acc)) (fun k => ?_) (Ev.eq (Ev.now _) (by simp [rowsB]))
    simp only [impl_TableText.l0]; rw [if_neg (by omega)]; rfl
  | succ d ih =>
    intro m hm acc hacc
    have hml : m < ls.length := by omega
    have hf := hg _ (get_mem [] hml).1
    have hl := rowB_len hf
    refine Ev.step (f := fun k => impl_TableText.l1 k (bsOf acc) [] ls (ls.length : Int) (m : Int) (ls.getD m []) ((ls.getD m []).length : Int) 0) (fun k => ?_) (implRow hn hg hml (by omega) ?_)
    · simp only [impl_TableText.l0]
      rw [show rd_L1 ls (m : Int) = ls.getD m [] from rfl, if_pos (by omega), if_pos (by omega), if_pos (by omega)]
    · refine Ev.eq (ih (m + 1) (by omega) _ (by rw [List.length_append]; omega)) ?_
      rw [drop_step [] hml, rowsB_cons, List.append_assoc]
/-- One row, by the reference: behind whatever stands. -/
theorem specRow {b : List Int} (hf : fit b) (h0 : 0 < b.length) (F : Nat → ByteArray → Int → Option ByteArray) (N : Nat → ByteArray → Option ByteArray)
    (hF : ∀ k x i, 0 ≤ i → F (k + 1) x i = if i < (b.length : Int) then (if i > 0 then (if x.size + 1 ≤ 9223372036854775807 then (if 0 ≤ i then ((spec_Decimal.f k (wrap64 (rd b i))).bind fun t => (if (x ++ (⟨#[32]⟩ : ByteArray)).size + t.size ≤ 9223372036854775807 then F k ((x ++ (⟨#[32]⟩ : ByteArray)) ++ t) (wrap64 (i + 1)) else none)) else none) else none) else (if 0 ≤ i then ((spec_Decimal.f k (wrap64 (rd b i))).bind fun t => (if x.size + t.size ≤ 9223372036854775807 then F k (x ++ t) (wrap64 (i + 1)) else none)) else none)) else (if x.size + 1 ≤ 9223372036854775807 then N k (x ++ (⟨#[10]⟩ : ByteArray)) else none))
    {acc : List UInt8} (hacc : acc.length ≤ 1000) {r : ByteArray} (hr : Ev (fun k => N k (bsOf (acc ++ rowB b))) r) : Ev (fun k => F k (bsOf acc) 0) r := by
  have hb := hf.1
  have hw : ∀ j, j < b.length → Ev (fun k => spec_Decimal.f k (wrap64 (rd b (j : Int)))) (bsOf (decW (b.getD j 0))) := fun j hj => by
    have hx := fit_get hf hj
    rw [show rd b (j : Int) = b.getD j 0 from rfl, wrap_sm (i := b.getD j 0) (by omega) (by omega)]
    exact specDec hx.1 (by omega)
  have hh : ∀ (d j : Nat), j + d = b.length → 0 < j → ∀ a : List UInt8, a.length ≤ 1000 + 6 * j → a ++ Lib.joinTail [32] ((b.drop j).map decW) ++ [10] = acc ++ rowB b → Ev (fun k => F k (bsOf a) (j : Int)) r := by
    intro d
    induction d with
    | zero =>
      intro j hj hj0 a ha he
      rw [List.drop_eq_nil_of_le (by omega), List.map_nil, joinTail_nil, List.append_nil] at he
      refine Ev.step (f := fun k => N k (bsOf (acc ++ rowB b))) (fun k => ?_) hr
      rw [hF k _ _ (by omega), if_neg (by omega), if_pos (by rw [bsOf_size]; omega), lit_bs, bsOf_append, he]
    | succ d ih =>
      intro j hj hj0 a ha he
      have hx := decW_len (fit_get hf (show j < b.length by omega))
      refine Ev.step (f := fun k => (spec_Decimal.f k (wrap64 (rd b (j : Int)))).bind fun t => (if (bsOf a ++ (⟨#[32]⟩ : ByteArray)).size + t.size ≤ 9223372036854775807 then F k ((bsOf a ++ (⟨#[32]⟩ : ByteArray)) ++ t) ((j + 1 : Nat) : Int) else none)) (fun k => ?_) (Ev.bind (hw j (by omega)) ?_)
      · rw [hF k _ _ (by omega), if_pos (by omega), if_pos (by omega), if_pos (by rw [bsOf_size]; omega), if_pos (by omega), wrap_sm (i := (j : Int) + 1) (by omega) (by omega)]; rfl
      · rw [lit_bs, bsOf_append]
        refine Ev.pos (by rw [bsOf_size, bsOf_size, List.length_append, List.length_singleton]; omega) ?_
        rw [bsOf_append]
        refine ih (j + 1) (by omega) (by omega) _ (by rw [List.length_append, List.length_append, List.length_singleton]; omega) ?_
        rw [drop_step 0 (show j < b.length by omega), List.map_cons, joinTail_cons] at he
        rw [← he]; simp [List.append_assoc]
  have hx := decW_len (fit_get hf h0)
  refine Ev.step (f := fun k => (spec_Decimal.f k (wrap64 (rd b ((0 : Nat) : Int)))).bind fun t => (if (bsOf acc).size + t.size ≤ 9223372036854775807 then F k (bsOf acc ++ t) ((1 : Nat) : Int) else none)) (fun k => ?_) (Ev.bind (hw 0 h0) ?_)
  · rw [hF k _ _ (by omega), if_pos (by omega), if_neg (by omega), if_pos (by omega), wrap_sm (i := (0 : Int) + 1) (by omega) (by omega)]; rfl
  · refine Ev.pos (by rw [bsOf_size, bsOf_size]; omega) ?_
    rw [bsOf_append]
    refine hh (b.length - 1) 1 (by omega) (by omega) _ (by rw [List.length_append]; omega) ?_
    unfold rowB
    cases b with
    | nil => simp at h0
    | cons x l => simp [Lib.join_cons, List.append_assoc]
def rTableText (st : List Int) (pr : List (List Int)) : ByteArray := if okT st pr = true then bsOf (rowsB (st :: pr)) else ⟨#[]⟩
theorem fits {st : List Int} {pr : List (List Int)} (h : okT st pr = true) : (st :: pr).length ≤ 7 ∧ ∀ b ∈ st :: pr, fit b ∧ 0 < b.length := by
  obtain ⟨h1, h2, h3, _, h5⟩ := okT_bd h
  refine ⟨by rw [List.length_cons]; omega, fun b hb => ?_⟩
  rcases List.mem_cons.1 hb with rfl | hb
  · exact ⟨⟨by omega, fun n hn => by have := h3 n hn; omega⟩, by omega⟩
  · obtain ⟨h6, h7⟩ := h5 b hb
    exact ⟨⟨by omega, fun n hn => h7 n hn⟩, by omega⟩
theorem implTableText {st : List Int} {pr : List (List Int)} (h : wfTable st pr) : Ev (fun k => impl_TableText.f k st pr) (rTableText st pr) := by
  unfold impl_TableText.f rTableText
  refine Ev.bind (implT h) ?_
  cases ho : okT st pr with
  | false => exact Ev.now _
  | true =>
    obtain ⟨hn, hg⟩ := fits ho
    simp only [if_true, Option.bind_some]
    refine Ev.pos (by have := h.2.1; rw [List.length_singleton]; omega) ?_
    rw [nil_bs]
    exact implRows (ls := st :: pr) hn (fun b hb => (hg b hb).1)
theorem specTableText {st : List Int} {pr : List (List Int)} (h : wfTable st pr) : Ev (fun k => spec_TableText.f k st pr) (rTableText st pr) := by
  unfold spec_TableText.f rTableText
  refine Ev.bind (specT h) ?_
  cases ho : okT st pr with
  | false => exact Ev.now _
  | true =>
    obtain ⟨hn, hg⟩ := fits ho
    simp only [if_true]
    refine Ev.bind ?_ (Ev.now _)
    unfold spec_l03Text.f
    have hs := hg st List.mem_cons_self
    rw [nil_bs, rowsB_cons]
    refine specRow hs.1 hs.2 (fun k x i => spec_l03Text.l0 k x i st pr) (fun k x => spec_l03Text.l1 k x 0 st pr) (fun k x i hi => by simp only [spec_l03Text.l0]) (acc := []) (by simp) ?_
    rw [List.nil_append]
    suffices hh : ∀ (d m : Nat), m + d = pr.length → ∀ acc : List UInt8, acc.length ≤ 61 * (m + 1) → Ev (fun k => spec_l03Text.l1 k (bsOf acc) (m : Int) st pr) (bsOf (acc ++ rowsB (pr.drop m))) by
      have := hh pr.length 0 (by omega) (rowB st) (by have := rowB_len hs.1; omega)
      simpa using this
    intro d
    induction d with
    | zero =>
      intro m hm acc hacc
      rw [List.drop_eq_nil_of_le (by omega)]
      refine Ev.step (f := fun _ => some (bsOf acc)) (fun k => ?_) (Ev.eq (Ev.now _) (by simp [rowsB]))
      simp only [spec_l03Text.l1]; rw [if_neg (by omega)]
    | succ d ih =>
      intro m hm acc hacc
      have hml : m < pr.length := by omega
      have hb := hg _ (List.mem_cons_of_mem _ (get_mem [] hml).1)
      have hl := rowB_len hb.1
      rw [List.length_cons] at hn
      refine Ev.step (f := fun k => spec_l03Text.l2 k (bsOf acc) (m : Int) 0 st pr) (fun k => ?_) ?_
      · simp only [spec_l03Text.l1]; rw [if_pos (by omega)]
      · refine specRow hb.1 hb.2 (fun k x i => spec_l03Text.l2 k x (m : Int) i st pr) (fun k x => spec_l03Text.l1 k x ((m + 1 : Nat) : Int) st pr) (fun k x i hi => ?_) (by omega) ?_
        · simp only [spec_l03Text.l2]
          rw [show rd_L1 pr (m : Int) = pr.getD m [] from rfl, if_pos (by omega), if_pos (by omega), wrap_sm (i := (m : Int) + 1) (by omega) (by omega)]; rfl
        · refine Ev.eq (ih (m + 1) (by omega) _ (by rw [List.length_append]; omega)) ?_
          rw [drop_step [] hml, rowsB_cons, List.append_assoc]
end Go.Proofs.YtdeipindfhkioaaDoor.Pure
