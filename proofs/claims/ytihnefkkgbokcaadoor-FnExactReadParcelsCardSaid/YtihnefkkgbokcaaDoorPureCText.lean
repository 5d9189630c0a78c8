/- Decimal texts, by the reference and by the program; texts as lists of bytes. -/
import Derived.Test.YtihnefkkgbokcaaDoorQ2
import Derived.Test.YtihnefkkgbokcaaDoorPureC50
set_option linter.unusedVariables false
set_option linter.unusedSimpArgs false
namespace Go.Proofs.YtihnefkkgbokcaaDoor.Pure
open Go.RowKit Go.Proofs.YtihnefkkgbokcaaDoor.Q Go.Proofs.YtihnefkkgbokcaaDoorMine Go.Proofs.YtihnefkkgbokcaaDoorW.PrintWords Go.Proofs.YtihnefkkgbokcaaDoorW.PrintMore
def bsOf (a : List UInt8) : ByteArray := ⟨a.toArray⟩
theorem bsOf_append (a b : List UInt8) : bsOf a ++ bsOf b = bsOf (a ++ b) := by
  apply ByteArray.ext; simp [bsOf, ByteArray.data_append]
theorem bsOf_size (a : List UInt8) : (bsOf a).size = a.length := by simp [bsOf, ByteArray.size]
theorem bsOf_list (a : List UInt8) : (bsOf a).data.toList = a := by simp [bsOf]
theorem bsOf_data (s : ByteArray) : bsOf s.data.toList = s := by apply ByteArray.ext; simp [bsOf]
theorem bsOf_inj {a b : List UInt8} (h : bsOf a = bsOf b) : a = b := by have := congrArg (fun s : ByteArray => s.data.toList) h; simpa [bsOf] using this
theorem dec_len : ∀ (k u : Nat), u < 10 ^ (k + 1) → (Lib.decDigits u).length ≤ k + 1
  | 0, u, h => by rw [Lib.decDigits, dif_pos (by simpa using h)]; simp
  | k + 1, u, h => by
    rw [Lib.decDigits]
    split
    · simp
    · have := dec_len k (u / 10) (by rw [Nat.pow_succ] at h; omega)
      simp; omega
theorem dec_len20 (n : Int) (h0 : 0 ≤ n) (h1 : n ≤ 9223372036854775807) : (Lib.decDigits n.toNat).length ≤ 19 := dec_len 18 n.toNat (by omega)
theorem itoa_dec {n : Int} (h0 : 0 ≤ n) : Lib.itoa n = Lib.decDigits n.toNat := by unfold Lib.itoa; rw [if_neg (by omega)]
theorem implDecimal {n : Int} (h0 : 0 ≤ n) (h1 : n ≤ 9223372036854775807) : impl_decimal.f n = some (bsOf (Lib.decDigits n.toNat)) := by
  unfold impl_decimal.f strconv_FormatInt.f
  rw [if_pos rfl, if_pos (by omega), itoa_dec h0]; rfl
theorem Ev.pos {α : Type} {C : Prop} [Decidable C] {a b : Nat → Option α} {r : α} (h : C) (e : Ev a r) : Ev (fun k => if C then a k else b k) r := by simp only [if_pos h]; exact e
theorem Ev.neg {α : Type} {C : Prop} [Decidable C] {a b : Nat → Option α} {r : α} (h : ¬ C) (e : Ev b r) : Ev (fun k => if C then a k else b k) r := by simp only [if_neg h]; exact e
theorem lit_size (c : UInt8) : (⟨#[c]⟩ : ByteArray).size = 1 := rfl
theorem lit_bs (c : UInt8) : (⟨#[c]⟩ : ByteArray) = bsOf [c] := rfl
theorem nil_bs : (⟨#[]⟩ : ByteArray) = bsOf [] := rfl
theorem joinTail_cons (sep x : List UInt8) (r : List (List UInt8)) : Lib.joinTail sep (x :: r) = sep ++ x ++ Lib.joinTail sep r := by simp [Lib.joinTail]
theorem joinTail_nil (sep : List UInt8) : Lib.joinTail sep [] = [] := rfl
theorem joinTail_app (sep : List UInt8) (a b : List (List UInt8)) : Lib.joinTail sep (a ++ b) = Lib.joinTail sep a ++ Lib.joinTail sep b := by simp [Lib.joinTail]
theorem joinTail_le {sep : List UInt8} {c : Nat} : ∀ (r : List (List UInt8)), (∀ x ∈ r, x.length ≤ c) → (Lib.joinTail sep r).length ≤ (sep.length + c) * r.length
  | [], _ => by simp [Lib.joinTail]
  | x :: r, h => by
    have h1 := joinTail_le (sep := sep) r (fun y hy => h y (List.mem_cons_of_mem _ hy))
    have h2 := h x List.mem_cons_self
    rw [joinTail_cons]
    simp only [List.length_append, List.length_cons, Nat.mul_add, Nat.mul_one]; omega
theorem join_le {sep : List UInt8} {c : Nat} (l : List (List UInt8)) (h : ∀ x ∈ l, x.length ≤ c) : (Lib.join l sep).length ≤ (sep.length + c) * l.length := by
  cases l with
  | nil => simp [Lib.join_nil]
  | cons x r =>
    have h1 := joinTail_le (sep := sep) r (fun y hy => h y (List.mem_cons_of_mem _ hy))
    have h2 := h x List.mem_cons_self
    rw [Lib.join_cons, List.length_append]
    simp only [List.length_cons, Nat.mul_add, Nat.mul_one]; omega
end Go.Proofs.YtihnefkkgbokcaaDoor.Pure
