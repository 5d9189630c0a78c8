/- Numbers of texts, by the reference and by the program. -/
import Derived.Test.YtdeipindfhkioaaDoorQ3
import Derived.Test.YtdeipindfhkioaaDoorQ5
import Derived.Test.YtdeipindfhkioaaDoorPureCDecI
import Derived.Test.YtdeipindfhkioaaDoorPureB0
set_option linter.unusedVariables false
set_option linter.unusedSimpArgs false
namespace Go.Proofs.YtdeipindfhkioaaDoor.Pure
open Go.RowKit Go.Proofs.YtdeipindfhkioaaDoor.Q Go.Proofs.YtdeipindfhkioaaDoorMine Go.Proofs.YtdeipindfhkioaaDoorW.PrintWords Go.Proofs.YtdeipindfhkioaaDoorW.PrintMore
def isDg (c : UInt8) : Bool := decide (48 ≤ c.toNat) && decide (c.toNat ≤ 57)
def dvl (c : UInt8) : Nat := c.toNat - 48
def valF (a : Nat) (l : List UInt8) : Nat := l.foldl (fun n c => 10 * n + dvl c) a
def valN (l : List UInt8) : Nat := valF 0 l
def noZero (l : List UInt8) : Bool := decide (l.head? = some 48)
/-- A numeral without a sign, as it is written. -/
def okN (l : List UInt8) : Bool := decide (l ≠ []) && (l.all isDg && !(noZero l && decide (1 < l.length)))
theorem isDg_iff {c : UInt8} : isDg c = true ↔ 48 ≤ c.toNat ∧ c.toNat ≤ 57 := by simp [isDg]
theorem valF_snoc (a : Nat) (l : List UInt8) (c : UInt8) : valF a (l ++ [c]) = 10 * valF a l + dvl c := by simp [valF, List.foldl_append]
theorem valF_ge : ∀ (l : List UInt8) (a : Nat), a ≤ valF a l
 | [], a => Nat.le_refl _
 | c :: r, a => by
  have h : 10 * a + dvl c ≤ valF (10 * a + dvl c) r := valF_ge r (10 * a + dvl c)
  show a ≤ valF (10 * a + dvl c) r
  omega
theorem dg_of (u : Nat) (h : u < 10) : (UInt8.ofNat (48 + u)).toNat = 48 + u := by rw [UInt8.toNat_ofNat']; omega
theorem head_app {l r : List UInt8} (h : l ≠ []) : (l ++ r).head? = l.head? := by cases l with | nil => exact absurd rfl h | cons a t => rfl
theorem dec_ne (u : Nat) : Lib.decDigits u ≠ [] := by
 rw [Lib.decDigits]; split <;> simp
theorem dec_head (u : Nat) (h : 1 ≤ u) : (Lib.decDigits u).head? ≠ some 48 := by
 induction u using Nat.strongRecOn with
 | _ u ih =>
  rw [Lib.decDigits]
  split
  ·rename_i hu
   intro e
   simp only [List.head?_cons, Option.some.injEq] at e
   have := congrArg UInt8.toNat e
   rw [dg_of u hu] at this
   simp at this; omega
  ·rename_i hu
   rw [head_app (dec_ne _)]
   exact ih (u / 10) (by omega) (by omega)
theorem dec_digits (u : Nat) : (Lib.decDigits u).all isDg = true ∧ valN (Lib.decDigits u) = u := by
 induction u using Nat.strongRecOn with
 | _ u ih =>
  rw [Lib.decDigits]
  split
  ·rename_i hu
   have := dg_of u hu
   exact ⟨by simp [isDg, this]; omega, by simp [valN, valF, dvl, this]; omega⟩
  ·rename_i hu
   obtain ⟨h1, h2⟩ := ih (u / 10) (by omega)
   have := dg_of (u % 10) (by omega)
   refine ⟨by simp only [List.all_append, h1, List.all_cons, List.all_nil, Bool.true_and, Bool.and_true]; simp [isDg, this]; omega, ?_⟩
   unfold valN at h2 ⊢
   rw [valF_snoc, h2, dvl, this]; omega
theorem dec_okN (u : Nat) : okN (Lib.decDigits u) = true := by
 unfold okN noZero
 rw [(dec_digits u).1, decide_eq_true (dec_ne u)]
 by_cases h : 1 ≤ u
 ·rw [decide_eq_false (dec_head u h)]; rfl
 ·have : u = 0 := by omega
  subst this
  rw [show Lib.decDigits 0 = [48] by rw [Lib.decDigits, dif_pos (by omega)]; rfl]; rfl
theorem okN_parts {l : List UInt8} (h : okN l = true) : l ≠ [] ∧ l.all isDg = true ∧ (1 < l.length → l.head? ≠ some 48) := by
 unfold okN noZero at h
 simp only [Bool.and_eq_true, decide_eq_true_eq, Bool.not_eq_true', Bool.and_eq_false_iff, decide_eq_false_iff_not] at h
 exact ⟨h.1, h.2.1, fun hl => h.2.2.resolve_right (fun e => e hl)⟩
theorem okN_mk {l : List UInt8} (h1 : l ≠ []) (h2 : l.all isDg = true) (h3 : 1 < l.length → l.head? ≠ some 48) : okN l = true := by
 unfold okN noZero
 rw [decide_eq_true h1, h2]
 by_cases h : 1 < l.length
 ·rw [decide_eq_false (h3 h)]; rfl
 ·rw [decide_eq_false h]; simp
theorem dvl_of {c : UInt8} (h : isDg c = true) : UInt8.ofNat (48 + dvl c) = c ∧ dvl c < 10 := by
 rw [isDg_iff] at h
 unfold dvl
 refine ⟨?_, by omega⟩
 apply UInt8.toNat_inj.1
 rw [UInt8.toNat_ofNat']; omega
theorem dec_val : ∀ (n : Nat) (l : List UInt8), l.length = n → okN l = true → Lib.decDigits (valN l) = l := by
 intro n
 induction n with
 | zero => intro l hl h; exact absurd (List.length_eq_zero_iff.1 hl) (okN_parts h).1
 | succ n ih =>
  intro l hl h
  obtain ⟨h1, h2, h3⟩ := okN_parts h
  obtain ⟨l', c, rfl⟩ : ∃ l' c, l = l' ++ [c] := ⟨l.dropLast, l.getLast h1, (List.dropLast_concat_getLast h1).symm⟩
  simp only [List.all_append, List.all_cons, List.all_nil, Bool.and_true, Bool.and_eq_true] at h2
  obtain ⟨hc, hc10⟩ := dvl_of h2.2
  by_cases e : l' = []
  ·subst e
   rw [List.nil_append]
   show Lib.decDigits (valN [c]) = [c]
   rw [show valN [c] = dvl c by simp [valN, valF], Lib.decDigits, dif_pos hc10, hc]
  ·have hlen : 1 < (l' ++ [c]).length := by
    have : l'.length ≠ 0 := fun e2 => e (List.length_eq_zero_iff.1 e2)
    rw [List.length_append, List.length_singleton]; omega
   have hh : l'.head? ≠ some 48 := by have := h3 hlen; rwa [head_app e] at this
   have hok : okN l' = true := okN_mk e h2.1 (fun _ => hh)
   have hi := ih l' (by simp at hl; exact hl) hok
   have hpos : 1 ≤ valN l' := by
    rcases Nat.eq_zero_or_pos (valN l') with e0 | e0
    ·rw [e0, show Lib.decDigits 0 = [48] by rw [Lib.decDigits, dif_pos (by omega)]; rfl] at hi
     rw [← hi] at hh; exact absurd rfl hh
    ·exact e0
   have hv : valN (l' ++ [c]) = 10 * valN l' + dvl c := valF_snoc 0 l' c
   rw [hv, Lib.decDigits, dif_neg (by omega), show (10 * valN l' + dvl c) / 10 = valN l' by omega, show (10 * valN l' + dvl c) % 10 = dvl c by omega, hi, hc]
theorem okN_dec {l : List UInt8} (h : okN l = true) : Lib.decDigits (valN l) = l := dec_val l.length l rfl h
theorem parse_digits : ∀ (l : List UInt8) (a : Nat), l.all isDg = true → valF a l < 9223372036854775808 → Lib.parseUintM 18446744073709551615 a l = .ok (valF a l)
 | [], a, _, _ => rfl
 | c :: r, a, h, hv => by
  simp only [List.all_cons, Bool.and_eq_true] at h
  have hd := isDg_iff.1 h.1
  have hv' : valF (10 * a + dvl c) r < 9223372036854775808 := hv
  have hge := valF_ge r (10 * a + dvl c)
  have e : a * 10 + (c.toNat - 48) = 10 * a + dvl c := by unfold dvl; omega
  rw [Lib.parseUintM, if_pos hd, if_neg (by omega), if_neg (by omega), e, parse_digits r _ h.2 hv']; rfl
theorem parse_okN {l : List UInt8} (h : okN l = true) (hv : valN l < 9223372036854775808) : Lib.parseIntB 64 l = .ok (valN l : Int) := by
 obtain ⟨h1, h2, _⟩ := okN_parts h
 cases l with
 | nil => exact absurd rfl h1
 | cons c r =>
  have hd : isDg c = true := by simp only [List.all_cons, Bool.and_eq_true] at h2; exact h2.1
  rw [isDg_iff] at hd
  have hp : Lib.parseUintB 64 (c :: r) = .ok (valN (c :: r)) := by
   unfold Lib.parseUintB
   rw [if_neg (by simp)]
   exact parse_digits (c :: r) 0 h2 hv
  unfold Lib.parseIntB
  simp only []
  rw [if_neg (by omega), hp]
  simp only []
  rw [if_neg (by intro hh; have := hh.2; omega), if_neg (by omega), if_neg (by omega)]
/-- What a text says, up to a bound. -/
def numB (l : List UInt8) (most : Int) : Int × Bool := if okN l = true ∧ (valN l : Int) ≤ most then ((valN l : Int), true) else (0, false)
theorem implNumber {s : ByteArray} (hs : s.size ≤ 281474976710656) {most : Int} (hm : most ≤ 9223372036854775807) : impl_number.f s most = some (numB s.data.toList most) := by
 unfold impl_number.f numB
 rw [if_pos hs]
 by_cases h : okN s.data.toList = true ∧ (valN s.data.toList : Int) ≤ most
 ·rw [parse_okN h.1 (by omega), if_pos h]
  simp only [implDecimal (n := (valN s.data.toList : Int)) (by omega) (by omega), Option.bind_some, Int.toNat_natCast, okN_dec h.1, bsOf_data]
  rw [if_pos trivial, if_pos ⟨by omega, h.2⟩]
 ·rw [if_neg h]
  split
  ·rename_i v hv
   have hb := Lib.parseIntB_bounds hv
   have hv0 : -9223372036854775808 ≤ v ∧ v ≤ 9223372036854775807 := by
    have e : ((2 ^ (64 - 1) : Nat) : Int) = 9223372036854775808 := by decide
    rw [e] at hb; omega
   have hd : impl_decimal.f v = some (bsOf (Lib.itoa v)) := by
    unfold impl_decimal.f f7z.f
    rw [if_pos rfl, if_pos hv0]; rfl
   rw [hd, Option.bind_some]
   split
   ·rename_i he
    split
    ·rename_i hr
     exfalso
     apply h
     have e1 : Lib.itoa v = s.data.toList := by rw [← he, bsOf_list]
     rw [itoa_dec hr.1] at e1
     rw [← e1]
     refine ⟨dec_okN _, ?_⟩
     rw [(dec_digits _).2]; omega
    ·rfl
   ·rfl
  ·rfl
theorem bt_get {s : ByteArray} {l : List UInt8} (h : s.data.toList = l) {i : Nat} (hi : i < l.length) : bt s (i : Int) = ((l.getD i 0).toNat : Int) := by
 have hs : i < s.size := by rw [← data_length, h]; exact hi
 rw [← bt_at s (i : Int) (by simpa using hs)]
 subst h
 rw [List.getD_eq_getElem?_getD, List.getElem?_eq_getElem hi]
 simp [ByteArray.getElem_eq_getElem_data]
theorem list_nil {s : ByteArray} : s.toList = [] ↔ s.data.toList = [] := by rw [ByteArray.toList_eq]
theorem okN_len {l : List UInt8} (h : okN l = true) : valN l < 10 ^ l.length := by
 have h2 := (okN_parts h).2.1
 clear h
 suffices hh : ∀ (l : List UInt8) (a : Nat), l.all isDg = true → valF a l < (a + 1) * 10 ^ l.length by simpa [valN] using hh l 0 h2
 intro l
 induction l with
 | nil => intro a _; show a < (a + 1) * 10 ^ 0; omega
 | cons c r ih =>
  intro a ha
  simp only [List.all_cons, Bool.and_eq_true] at ha
  have hc := (dvl_of ha.1).2
  have h1 := ih (10 * a + dvl c) ha.2
  show valF (10 * a + dvl c) r < _
  refine Nat.lt_of_lt_of_le h1 ?_
  rw [List.length_cons, Nat.pow_succ, Nat.mul_comm (10 ^ r.length) 10, ← Nat.mul_assoc]
  exact Nat.mul_le_mul_right _ (by omega)
/-- A numeral of few digits. -/
def numS (l : List UInt8) : Int × Bool := if okN l = true ∧ l.length ≤ 9 then ((valN l : Int), true) else (0, false)
theorem specNumLoop {s : ByteArray} {l : List UInt8} (hl : s.data.toList = l) (h9 : l.length ≤ 9) : ∀ (d m : Nat), m + d = l.length → ∀ a : Nat, (a : Int) < 10 ^ m → Ev (fun k => spec_l01Number.l0 k s (a : Int) (m : Int)) (if (l.drop m).all isDg = true then ((valF a (l.drop m) : Nat) : Int) else 0, (l.drop m).all isDg) := by
 have hsz : (s.size : Int) = (l.length : Int) := by rw [← hl, data_length]
 intro d
 induction d with
 | zero =>
  intro m hm a ha
  rw [List.drop_eq_nil_of_le (by omega)]
  refine Ev.step (f := fun _ => some ((a : Int), true)) (fun k => ?_) (Ev.eq (Ev.now _) rfl)
  simp only [spec_l01Number.l0]; rw [if_neg (by omega)]
 | succ d ih =>
  intro m hm a ha
  have hb := bt_get hl (show m < l.length by omega)
  have hp : (10 : Int) ^ m ≤ 10 ^ 8 := by exact_mod_cast Nat.pow_le_pow_right (by omega) (by omega : m ≤ 8)
  have hu := (l.getD m 0).toNat_lt
  rw [drop_step 0 (show m < l.length by omega), List.all_cons]
  cases hc : isDg (l.getD m 0) with
  | false =>
   have hc' : ¬ (48 ≤ (l.getD m 0).toNat ∧ (l.getD m 0).toNat ≤ 57) := fun e => by rw [isDg_iff.2 e] at hc; cases hc
   refine Ev.step (f := fun _ => some (0, false)) (fun k => ?_) (Ev.eq (Ev.now _) (by simp))
   simp only [spec_l01Number.l0, hb]
   rw [if_pos (by omega), if_pos (by omega)]
   by_cases h48 : ((l.getD m 0).toNat : Int) < 48
   ·rw [if_pos h48]
   ·rw [if_neg h48, if_pos (by omega)]
  | true =>
   have hc' := isDg_iff.1 hc
   have hd := (dvl_of hc).2
   have e : wrap64 ((wrap64 (10 * (a : Int))) + ((((l.getD m 0).toNat : Int) - 48) % 256)) = ((10 * a + dvl (l.getD m 0) : Nat) : Int) := by
    rw [wrap_sm (i := 10 * (a : Int)) (by omega) (by omega), show (((l.getD m 0).toNat : Int) - 48) % 256 = (dvl (l.getD m 0) : Int) by unfold dvl; omega, wrap_sm (by omega) (by omega)]; omega
   refine Ev.step (f := fun k => spec_l01Number.l0 k s ((10 * a + dvl (l.getD m 0) : Nat) : Int) ((m + 1 : Nat) : Int)) (fun k => ?_) (Ev.eq (ih (m + 1) (by omega) (10 * a + dvl (l.getD m 0)) ?_) ?_)
   ·simp only [spec_l01Number.l0, hb]
    rw [if_pos (by omega), if_pos (by omega), if_neg (by omega), if_neg (by omega), e, wrap_sm (i := (m : Int) + 1) (by omega) (by omega)]; rfl
   ·rw [Int.pow_succ]; omega
   ·simp only [Bool.true_and]; rfl
theorem specNumber {s : ByteArray} {l : List UInt8} (hl : s.data.toList = l) (hs : l.length ≤ 281474976710656) : Ev (fun k => spec_l01Number.f k s) (numS l) := by
 have hsz : (s.size : Int) = (l.length : Int) := by rw [← hl, data_length]
 unfold spec_l01Number.f numS
 have hbad : Ev (fun k => spec_l01Number.j0 k s true) ((0 : Int), false) := Ev.step (f := fun _ => some ((0 : Int), false)) (fun k => by simp only [spec_l01Number.j0]; rfl) (Ev.now _)
 by_cases h0 : l = []
 ·refine Ev.pos (list_nil.2 (hl.trans h0)) ?_
  rw [if_neg (fun e => (okN_parts e.1).1 h0)]; exact hbad
 refine Ev.neg (fun e => h0 (hl.symm.trans (list_nil.1 e))) ?_
 by_cases h9 : l.length ≤ 9
 ·refine Ev.neg (by omega) (Ev.pos (by have : l.length ≠ 0 := fun e => h0 (List.length_eq_zero_iff.1 e); omega) ?_)
  have hlen : 0 < l.length := by have : l.length ≠ 0 := fun e => h0 (List.length_eq_zero_iff.1 e); omega
  have hb := bt_get hl hlen
  simp only [show bt s 0 = ((l.getD 0 0).toNat : Int) from hb]
  have hgo : Ev (fun k => spec_l01Number.l0 k s 0 0) (if l.all isDg = true then ((valN l : Nat) : Int) else 0, l.all isDg) := specNumLoop hl h9 l.length 0 (by omega) 0 (by simp)
  have hj : Ev (fun k => spec_l01Number.j0 k s false) (if l.all isDg = true then ((valN l : Nat) : Int) else 0, l.all isDg) := Ev.step (fun k => by simp only [spec_l01Number.j0]; rfl) hgo
  have hhead : l.head? = some (l.getD 0 0) := by cases l with | nil => exact absurd rfl h0 | cons a t => rfl
  by_cases h48 : ((l.getD 0 0).toNat : Int) = 48
  ·refine Ev.pos h48 ?_
   have hz : l.head? = some 48 := by rw [hhead]; congr 1; apply UInt8.toNat_inj.1; have : (48 : UInt8).toNat = 48 := rfl; omega
   by_cases h1 : (s.size : Int) > 1
   ·rw [if_neg (fun e => (okN_parts e.1).2.2 (by omega) hz)]
    simp only [decide_eq_true h1]; exact hbad
   ·simp only [decide_eq_false h1]
    refine Ev.eq hj ?_
    cases ha : l.all isDg with
    | true => rw [if_pos (show okN l = true ∧ l.length ≤ 9 from ⟨okN_mk h0 ha (fun e => by omega), h9⟩)]; rfl
    | false => rw [if_neg (show ¬ (okN l = true ∧ l.length ≤ 9) from fun e => by rw [(okN_parts e.1).2.1] at ha; cases ha)]; rfl
  ·refine Ev.neg h48 (Ev.eq hj ?_)
   cases ha : l.all isDg with
   | true => rw [if_pos (show okN l = true ∧ l.length ≤ 9 from ⟨okN_mk h0 ha (fun _ e => h48 (by rw [hhead] at e; injection e with e; rw [e]; rfl)), h9⟩)]; rfl
   | false => rw [if_neg (show ¬ (okN l = true ∧ l.length ≤ 9) from fun e => by rw [(okN_parts e.1).2.1] at ha; cases ha)]; rfl
 ·refine Ev.pos (by omega) ?_
  rw [if_neg (fun e => h9 e.2)]; exact hbad
/-- The two readings, up to a bound. -/
theorem num_both {l : List UInt8} {most : Int} (hm : most ≤ 999999999) : numB l most = if (numS l).2 = true ∧ (numS l).1 ≤ most then ((numS l).1, true) else (0, false) := by
 unfold numB numS
 by_cases h : okN l = true
 ·by_cases h9 : l.length ≤ 9
  ·simp only [h, h9, and_self, if_true, true_and]
  ·have hlen : ¬ (valN l : Int) ≤ most := by
    intro hle
    have h2 := okN_dec h
    have h3 := dec_len 8 (valN l) (by omega)
    rw [h2] at h3; omega
   simp [h9, hlen]
 ·simp [h]
end Go.Proofs.YtdeipindfhkioaaDoor.Pure
