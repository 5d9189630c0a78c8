/- BagsText: the reference and the program. -/
import Derived.Test.YtlifofigkllpgaaQ3
import Derived.Test.YtlifofigkllpgaaQ4
import Derived.Test.YtlifofigkllpgaaPureCBags
set_option linter.unusedVariables false
set_option linter.unusedSimpArgs false
namespace Go.Proofs.Ytlifofigkllpgaa.Pure
open Go.RowKit Go.Proofs.Ytlifofigkllpgaa.Q Go.Proofs.YtlifofigkllpgaaMine Go.Proofs.YtlifofigkllpgaaW.PrintWords Go.Proofs.YtlifofigkllpgaaW.PrintMore
def dig (b : List Int) : List Int := b.map (fun n => (wrap64 (48 + n)) % 256)
def wordsOf (l : List (List Int)) : List ByteArray := l.map (fun b => strOfNums (dig b))
def txtBags (l : List (List Int)) : ByteArray := ⟨(Lib.join ((wordsOf l).map (·.data.toList)) [47]).toArray⟩
theorem implWords {l : List (List Int)} (hl : l.length ≤ 2097152) (hy : ∀ y ∈ l, y.length ≤ 2097152) {r : ByteArray} (hr : strings_Join.f (wordsOf l) (⟨#[47]⟩ : ByteArray) = some r) : Ev (fun k => impl_BagsText.l0 k [] l (l.length : Int) 0) r := by
  unfold wordsOf at hr
  refine build_ev (fun k s i => impl_BagsText.l0 k s l (l.length : Int) i) l [] (fun b => strOfNums (dig b)) (fun _ => r) (fun m s hm hs r' hr' => ?_) ?_
  · have hlen := hy _ (get_mem [] hm).1
    refine Ev.step (f := fun k => impl_BagsText.l1 k s [] l (l.length : Int) (m : Int) (l.getD m []) ((l.getD m []).length : Int) 0) (fun k => ?_) ?_
    · simp only [impl_BagsText.l0]
      rw [show rd_L1 l (m : Int) = l.getD m [] from rfl, if_pos (by omega), if_pos (by omega), if_pos (by omega)]
    · generalize hb : l.getD m [] = b at *
      refine build_ev (fun k t i => impl_BagsText.l1 k s t l (l.length : Int) (m : Int) b (b.length : Int) i) b 0 (fun n => (wrap64 (48 + n)) % 256) (fun _ => r') (fun j t hj ht r2 hr2 => ?_) ?_
      · refine Ev.step (fun k => ?_) hr2
        simp only [impl_BagsText.l1]
        rw [if_pos (by omega), if_pos (by omega), if_pos (by omega), if_pos (by omega), wrap_sm (i := (j : Int) + 1) (by omega) (by omega)]; rfl
      · refine Ev.step (fun k => ?_) hr'
        simp only [impl_BagsText.l1]
        rw [if_neg (by omega), if_pos (by omega), wrap_sm (i := (m : Int) + 1) (by omega) (by omega)]; rfl
  · refine Ev.step (f := fun _ => some r) (fun k => ?_) (Ev.now _)
    simp only [impl_BagsText.l0]; rw [if_neg (by omega), hr]; rfl
def bsOf (a : List UInt8) : ByteArray := ⟨a.toArray⟩
theorem bsOf_append (a b : List UInt8) : bsOf a ++ bsOf b = bsOf (a ++ b) := by
  apply ByteArray.ext; simp [bsOf, ByteArray.data_append]
theorem bsOf_size (a : List UInt8) : (bsOf a).size = a.length := by simp [bsOf, ByteArray.size]
def digB (b : List Int) : List UInt8 := (dig b).map (fun n => UInt8.ofNat n.toNat)
theorem strOf_dig (b : List Int) : strOfNums (dig b) = bsOf (digB b) := rfl
theorem digB_length (b : List Int) : (digB b).length = b.length := by simp [digB, dig]
theorem words_bytes (l : List (List Int)) : (wordsOf l).map (·.data.toList) = l.map digB := by
  unfold wordsOf
  rw [List.map_map]
  exact List.map_congr_left (fun b _ => by simp [strOf_dig, bsOf])
theorem joinTail_length (r : List (List Int)) (h : ∀ b ∈ r, b.length ≤ 6) : (Lib.joinTail [47] (r.map digB)).length ≤ 7 * r.length := by
  induction r with
  | nil => simp [Lib.joinTail]
  | cons b r ih =>
    have h1 := ih (fun x hx => h x (List.mem_cons_of_mem _ hx))
    have h2 := h b List.mem_cons_self
    have h3 := digB_length b
    simp only [Lib.joinTail, List.map_cons, List.flatten_cons, List.length_append, List.length_cons, List.length_nil] at h1 ⊢
    omega
theorem txt_eq (l : List (List Int)) : txtBags l = bsOf (Lib.join (l.map digB) [47]) := by unfold txtBags; rw [words_bytes]; rfl
theorem join_len (l : List (List Int)) (h : ∀ b ∈ l, b.length ≤ 6) : (Lib.join (l.map digB) [47]).length ≤ 7 * l.length := by
  cases l with
  | nil => simp [Lib.join_nil]
  | cons b r =>
    rw [List.map_cons, Lib.join_cons, List.length_append, digB_length]
    have h1 := joinTail_length r (fun x hx => h x (List.mem_cons_of_mem _ hx))
    have h2 := h b List.mem_cons_self
    simp only [List.length_cons]; omega
def rBagsText (l : List (List Int)) : ByteArray := if okBs l = true then txtBags l else ⟨#[]⟩
theorem implBagsText {l : List (List Int)} (hl : l.length ≤ 2097152) (hy : ∀ y ∈ l, y.length ≤ 2097152) (h : ∀ y ∈ l, ∀ n ∈ y, wfInt64 n) : Ev (fun k => impl_BagsText.f k l) (rBagsText l) := by
  unfold impl_BagsText.f rBagsText
  simp only [implBags hl, Option.bind_some]
  cases ho : okBs l with
  | false => exact Ev.now _
  | true =>
    obtain ⟨hn, hb⟩ := okBs_bd ho
    simp only [if_true]
    have h1 := join_len l (fun b hb' => (hb b hb').1)
    refine implWords hl hy ?_
    unfold strings_Join.f
    have h2 : (wordsOf l).length = l.length := by simp [wordsOf]
    rw [if_pos (by omega), words_bytes]
    rw [if_pos (by show (Lib.join (l.map digB) [47]).length ≤ _; omega), txt_eq]; rfl
theorem specDigit (n : Int) (h0 : 0 ≤ n) (h1 : n < 10) : Ev (fun k => spec_Decimal.f k n) (strOfNums [(wrap64 (48 + n)) % 256]) := by
  refine Ev.step (f := fun _ => some (strOfNums [(wrap64 (48 + n)) % 256])) (fun k => ?_) (Ev.now _)
  simp only [spec_Decimal.f]
  rw [if_pos h1, show Int.tmod n 10 = n by rw [Int.tmod_eq_emod_of_nonneg h0]; omega]
theorem specBagsText {l : List (List Int)} (hl : l.length ≤ 2097152) (hy : ∀ y ∈ l, y.length ≤ 2097152) (h : ∀ y ∈ l, ∀ n ∈ y, wfInt64 n) : Ev (fun k => spec_BagsText.f k l) (rBagsText l) := by
  unfold spec_BagsText.f rBagsText
  refine Ev.bind (specBags hl hy) ?_
  cases ho : okBs l with
  | false => exact Ev.now _
  | true =>
    obtain ⟨hn, hb⟩ := okBs_bd ho
    simp only [if_true]
    refine Ev.bind ?_ (Ev.now _)
    unfold spec_l04Letters.f
    -- one row, behind whatever stands
    have hrow : ∀ m, m < l.length → ∀ (acc : List UInt8) (r : ByteArray), acc.length ≤ 1000 → Ev (fun k => spec_l04Letters.l0 k l (bsOf (acc ++ digB (l.getD m []))) ((m + 1 : Nat) : Int)) r → Ev (fun k => spec_l04Letters.l1 k l (bsOf acc) (m : Int) 0) r := by
      intro m hm acc r hacc hr
      obtain ⟨hb6, hbn⟩ := hb _ (get_mem [] hm).1
      generalize hbb : l.getD m [] = b at *
      suffices hh : ∀ (d j : Nat), j + d = b.length → Ev (fun k => spec_l04Letters.l1 k l (bsOf (acc ++ digB (b.take j))) (m : Int) (j : Int)) r by
        have := hh b.length 0 (by omega)
        simpa [digB, dig] using this
      intro d
      induction d with
      | zero =>
        intro j hj
        rw [List.take_of_length_le (by omega)]
        refine Ev.step (fun k => ?_) hr
        simp only [spec_l04Letters.l1]
        rw [show rd_L1 l (m : Int) = b from hbb, if_pos (by omega), if_pos (by omega), if_neg (by omega), wrap_sm (i := (m : Int) + 1) (by omega) (by omega)]; rfl
      | succ d ih =>
        intro j hj
        have hx := hbn _ (get_mem 0 (show j < b.length by omega)).1
        refine Ev.step (f := fun k => (spec_Decimal.f k (b.getD j 0)).bind fun t => if (bsOf (acc ++ digB (b.take j))).size + t.size ≤ 9223372036854775807 then spec_l04Letters.l1 k l (bsOf (acc ++ digB (b.take j)) ++ t) (m : Int) ((j + 1 : Nat) : Int) else none) (fun k => ?_) (Ev.bind (specDigit _ hx.1 (by omega)) ?_)
        · simp only [spec_l04Letters.l1]
          rw [show rd_L1 l (m : Int) = b from hbb, if_pos (by omega), if_pos (by omega), if_pos (by omega), if_pos (by omega), wrap_sm (i := (j : Int) + 1) (by omega) (by omega)]; rfl
        · have hd := digB_length (b.take j)
          have ht : (b.take j).length = j := by rw [List.length_take]; omega
          have hsz : (bsOf (acc ++ digB (b.take j))).size + (strOfNums [(wrap64 (48 + b.getD j 0)) % 256]).size ≤ 9223372036854775807 := by
            rw [bsOf_size, strOfNums_size, List.length_append, List.length_singleton]; omega
          simp only [if_pos hsz]
          have e : bsOf (acc ++ digB (b.take j)) ++ strOfNums [(wrap64 (48 + b.getD j 0)) % 256] = bsOf (acc ++ digB (b.take (j + 1))) := by
            rw [show strOfNums [(wrap64 (48 + b.getD j 0)) % 256] = bsOf (digB [b.getD j 0]) from rfl, bsOf_append, List.take_add_one, getD_ge (z := 0) (by omega)]
            simp [digB, dig]
          rw [e]; exact ih (j + 1) (by omega)
    -- all rows
    have hall : ∀ (d m : Nat), m + d = l.length → 0 < m → ∀ acc : List UInt8, acc.length ≤ 7 * m → Ev (fun k => spec_l04Letters.l0 k l (bsOf acc) (m : Int)) (bsOf (acc ++ Lib.joinTail [47] ((l.drop m).map digB))) := by
      intro d
      induction d with
      | zero =>
        intro m hm h0 acc hacc
        rw [List.drop_eq_nil_of_le (by omega)]
        refine Ev.step (f := fun _ => some (bsOf acc)) (fun k => ?_) (Ev.eq (Ev.now _) (by simp [Lib.joinTail]))
        simp only [spec_l04Letters.l0]; rw [if_neg (by omega)]
      | succ d ih =>
        intro m hm h0 acc hacc
        have hb6 := (hb _ (get_mem [] (show m < l.length by omega)).1).1
        have hd := digB_length (l.getD m [])
        refine Ev.step (f := fun k => spec_l04Letters.j1 k l (bsOf (acc ++ [47])) (m : Int)) (fun k => ?_) (Ev.step (f := fun k => spec_l04Letters.l1 k l (bsOf (acc ++ [47])) (m : Int) 0) (fun k => rfl) (hrow m (by omega) _ _ (by simp; omega) ?_))
        · simp only [spec_l04Letters.l0]
          rw [if_pos (by omega), if_pos (by omega), if_pos (by rw [bsOf_size]; omega), show (⟨#[47]⟩ : ByteArray) = bsOf [47] from rfl, bsOf_append]
        · refine Ev.eq (ih (m + 1) (by omega) (by omega) _ (by rw [List.length_append, List.length_append, List.length_singleton]; omega)) ?_
          rw [drop_step [] (show m < l.length by omega)]
          simp [Lib.joinTail]
    rw [txt_eq]
    have hmem0 := (get_mem ([] : List Int) (show 0 < l.length by omega)).1
    have hb6 := (hb _ hmem0).1
    have hd := digB_length (l.getD 0 [])
    refine Ev.step (f := fun k => spec_l04Letters.j1 k l (bsOf []) 0) (fun k => ?_) (Ev.step (f := fun k => spec_l04Letters.l1 k l (bsOf []) 0 0) (fun k => rfl) (hrow 0 (by omega) [] _ (by simp) ?_))
    · simp only [spec_l04Letters.l0]
      rw [if_pos (by omega), if_neg (by omega)]; rfl
    · refine Ev.eq (hall (l.length - 1) 1 (by omega) (by omega) _ (by rw [List.length_append, List.length_nil]; omega)) ?_
      congr 1
      cases hl' : l with
      | nil => rw [hl'] at hn; simp at hn
      | cons b r => rw [List.map_cons, Lib.join_cons]; rfl
end Go.Proofs.Ytlifofigkllpgaa.Pure
