/- TableText, by the program alone (out of ATableText). -/
import Derived.Test.YtdeipindfhkioaaDoorQ5
import Derived.Test.YtdeipindfhkioaaDoorPureCDecI
import Derived.Test.YtdeipindfhkioaaDoorPureCJoin
import Derived.Test.YtdeipindfhkioaaDoorPureCTabR
set_option linter.unusedVariables false
set_option linter.unusedSimpArgs false
namespace Go.Proofs.YtdeipindfhkioaaDoor.Pure
open Go.RowKit Go.Proofs.YtdeipindfhkioaaDoor.Q Go.Proofs.YtdeipindfhkioaaDoorMine Go.Proofs.YtdeipindfhkioaaDoorW.PrintWords Go.Proofs.YtdeipindfhkioaaDoorW.PrintMore
/-- A row's numbers as words; a row as a line; the rows' lines. -/
def decW (n : Int) : List UInt8 := Lib.decDigits n.toNat
def rowB (b : List Int) : List UInt8 := Lib.join (b.map decW) [32] ++ [10]
def rowsB (ls : List (List Int)) : List UInt8 := (ls.map rowB).flatten
def fit (b : List Int) : Prop := b.length ≤ 10 ∧ ∀ n ∈ b, 0 ≤ n ∧ n ≤ 10000
theorem decW_len {n : Int} (h : 0 ≤ n ∧ n ≤ 10000) : (decW n).length ≤ 5 := dec_len 4 n.toNat (by omega)
theorem words_le {b : List Int} (h : fit b) : ∀ x ∈ b.map decW, x.length ≤ 5 := by
 intro x hx
 obtain ⟨n, hn, rfl⟩ := List.mem_map.1 hx
 exact decW_len (h.2 n hn)
theorem rowB_len {b : List Int} (h : fit b) : (rowB b).length ≤ 61 := by
 have h1 := join_le (sep := [32]) (b.map decW) (words_le h)
 have h2 := h.1
 unfold rowB
 simp only [List.length_append, List.length_map, List.length_cons, List.length_nil] at h1 ⊢
 omega
theorem rowsB_cons (b : List Int) (ls : List (List Int)) : rowsB (b :: ls) = rowB b ++ rowsB ls := by simp [rowsB]
theorem map_data (b : List Int) : (b.map (fun n => bsOf (decW n))).map (·.data.toList) = b.map decW := by
 rw [List.map_map]
 exact List.map_congr_left (fun n _ => by simp [bsOf])
theorem fit_get {b : List Int} (h : fit b) {j : Nat} (hj : j < b.length) : 0 ≤ b.getD j 0 ∧ b.getD j 0 ≤ 10000 := h.2 _ (get_mem 0 hj).1
theorem implRow {ls : List (List Int)} (hn : ls.length ≤ 7) (hg : ∀ b ∈ ls, fit b) {m : Nat} (hm : m < ls.length) {acc : List UInt8} (hacc : acc.length ≤ 1000) {r : ByteArray}
  (hr : Ev (fun k => impl_TableText.l0 k (bsOf (acc ++ rowB (ls.getD m []))) ls (ls.length : Int) ((m + 1 : Nat) : Int)) r) :
  Ev (fun k => impl_TableText.l1 k (bsOf acc) [] ls (ls.length : Int) (m : Int) (ls.getD m []) ((ls.getD m []).length : Int) 0) r := by
 have hf := hg _ (get_mem [] hm).1
 generalize ls.getD m [] = b at *
 suffices hh : ∀ (d j : Nat), j + d = b.length → Ev (fun k => impl_TableText.l1 k (bsOf acc) ((b.take j).map (fun n => bsOf (decW n))) ls (ls.length : Int) (m : Int) b (b.length : Int) (j : Int)) r by
  simpa using hh b.length 0 (by omega)
 intro d
 induction d with
 | zero =>
  intro j hj
  have h1 := join_le (sep := [32]) (b.map decW) (words_le hf)
  have h2 := hf.1
  simp only [List.length_map, List.length_cons, List.length_nil] at h1
  rw [List.take_of_length_le (by omega)]
  refine Ev.step (f := fun k => impl_TableText.l0 k (bsOf (acc ++ rowB b)) ls (ls.length : Int) ((m + 1 : Nat) : Int)) (fun k => ?_) hr
  simp only [impl_TableText.l1]
  have hJ : strings_Join.f (b.map (fun n => bsOf (decW n))) (⟨#[32]⟩ : ByteArray) = some (bsOf (Lib.join (b.map decW) [32])) := by
   unfold strings_Join.f
   rw [if_pos (by rw [List.length_map]; omega), map_data, if_pos (by show (Lib.join (b.map decW) [32]).length ≤ _; omega)]; rfl
  rw [if_neg (by omega), hJ, Option.bind_some, if_pos (by rw [bsOf_size]; omega), lit_bs, bsOf_append]
  unfold f8z.f
  rw [if_pos (by rw [bsOf_size, bsOf_size, List.length_append, List.length_singleton]; omega), Option.bind_some, bsOf_append, wrap_sm (i := (m : Int) + 1) (by omega) (by omega)]
  rfl
 | succ d ih =>
  intro j hj
  have hx := fit_get hf (show j < b.length by omega)
  have h2 := hf.1
  refine Ev.step (fun k => ?_) (ih (j + 1) (by omega))
  simp only [impl_TableText.l1]
  rw [if_pos (by omega), if_pos (by omega), if_pos (by omega), show rd b (j : Int) = b.getD j 0 from rfl, wrap_sm (i := b.getD j 0) (by omega) (by omega), implDecimal hx.1 (by omega), Option.bind_some, if_pos (by rw [List.length_map, List.length_take]; omega), wrap_sm (i := (j : Int) + 1) (by omega) (by omega), List.take_add_one, List.map_append, getD_ge (z := 0) (by omega)]
  rfl
theorem implRows {ls : List (List Int)} (hn : ls.length ≤ 7) (hg : ∀ b ∈ ls, fit b) : Ev (fun k => impl_TableText.l0 k (bsOf []) ls (ls.length : Int) 0) (bsOf (rowsB ls)) := by
 suffices hh : ∀ (d m : Nat), m + d = ls.length → ∀ acc : List UInt8, acc.length ≤ 61 * m → Ev (fun k => impl_TableText.l0 k (bsOf acc) ls (ls.length : Int) (m : Int)) (bsOf (acc ++ rowsB (ls.drop m))) by
  simpa using hh ls.length 0 (by omega) [] (by simp)
 intro d
 induction d with
 | zero =>
  intro m hm acc hacc
  rw [List.drop_eq_nil_of_le (by omega)]
  refine Ev.step (f := fun _ => some (bsOf acc)) (fun k => ?_) (Ev.eq (Ev.now _) (by simp [rowsB]))
  simp only [impl_TableText.l0]; rw [if_neg (by omega)]; rfl
 | succ d ih =>
  intro m hm acc hacc
  have hml : m < ls.length := by omega
  have hf := hg _ (get_mem [] hml).1
  have hl := rowB_len hf
  refine Ev.step (f := fun k => impl_TableText.l1 k (bsOf acc) [] ls (ls.length : Int) (m : Int) (ls.getD m []) ((ls.getD m []).length : Int) 0) (fun k => ?_) (implRow hn hg hml (by omega) ?_)
  ·simp only [impl_TableText.l0]
   rw [show rd_L1 ls (m : Int) = ls.getD m [] from rfl, if_pos (by omega), if_pos (by omega), if_pos (by omega)]
  ·refine Ev.eq (ih (m + 1) (by omega) _ (by rw [List.length_append]; omega)) ?_
   rw [drop_step [] hml, rowsB_cons, List.append_assoc]
def rTableText (st : List Int) (pr : List (List Int)) : ByteArray := if okT st pr = true then bsOf (rowsB (st :: pr)) else ⟨#[]⟩
theorem fits {st : List Int} {pr : List (List Int)} (h : okT st pr = true) : (st :: pr).length ≤ 7 ∧ ∀ b ∈ st :: pr, fit b ∧ 0 < b.length := by
 obtain ⟨h1, h2, h3, _, h5⟩ := okT_bd h
 refine ⟨by rw [List.length_cons]; omega, fun b hb => ?_⟩
 rcases List.mem_cons.1 hb with rfl | hb
 ·exact ⟨⟨by omega, fun n hn => by have := h3 n hn; omega⟩, by omega⟩
 ·obtain ⟨h6, h7⟩ := h5 b hb
  exact ⟨⟨by omega, fun n hn => h7 n hn⟩, by omega⟩
theorem implTableText {st : List Int} {pr : List (List Int)} (h : wfTable st pr) : Ev (fun k => impl_TableText.f k st pr) (rTableText st pr) := by
 unfold impl_TableText.f rTableText
 refine Ev.bind (implT h) ?_
 cases ho : okT st pr with
 | false => exact Ev.now _
 | true =>
  obtain ⟨hn, hg⟩ := fits ho
  simp only [if_true, Option.bind_some]
  refine Ev.pos (by have := h.2.1; rw [List.length_singleton]; omega) ?_
  rw [nil_bs]
  exact implRows (ls := st :: pr) hn (fun b hb => (hg b hb).1)
end Go.Proofs.YtdeipindfhkioaaDoor.Pure
