/- Texts as lists of bytes. -/
import Derived.Test.YtdeipindfhkioaaDoorPureC50
set_option linter.unusedVariables false
set_option linter.unusedSimpArgs false
namespace Go.Proofs.YtdeipindfhkioaaDoor.Pure
open Go.RowKit Go.Proofs.YtdeipindfhkioaaDoor.Q Go.Proofs.YtdeipindfhkioaaDoorMine Go.Proofs.YtdeipindfhkioaaDoorW.PrintWords Go.Proofs.YtdeipindfhkioaaDoorW.PrintMore
def bsOf (a : List UInt8) : ByteArray := ⟨a.toArray⟩
theorem bsOf_append (a b : List UInt8) : bsOf a ++ bsOf b = bsOf (a ++ b) := by
 apply ByteArray.ext; simp [bsOf, ByteArray.data_append]
theorem bsOf_size (a : List UInt8) : (bsOf a).size = a.length := by simp [bsOf, ByteArray.size]
theorem bsOf_list (a : List UInt8) : (bsOf a).data.toList = a := by simp [bsOf]
theorem bsOf_data (s : ByteArray) : bsOf s.data.toList = s := by apply ByteArray.ext; simp [bsOf]
theorem bsOf_inj {a b : List UInt8} (h : bsOf a = bsOf b) : a = b := by have := congrArg (fun s : ByteArray => s.data.toList) h; simpa [bsOf] using this
theorem dec_len : ∀ (k u : Nat), u < 10 ^ (k + 1) → (Lib.decDigits u).length ≤ k + 1
 | 0, u, h => by rw [Lib.decDigits, dif_pos (by simpa using h)]; simp
 | k + 1, u, h => by
  rw [Lib.decDigits]
  split
  ·simp
  ·have := dec_len k (u / 10) (by rw [Nat.pow_succ] at h; omega)
   simp; omega
theorem dec_len20 (n : Int) (h0 : 0 ≤ n) (h1 : n ≤ 9223372036854775807) : (Lib.decDigits n.toNat).length ≤ 19 := dec_len 18 n.toNat (by omega)
theorem itoa_dec {n : Int} (h0 : 0 ≤ n) : Lib.itoa n = Lib.decDigits n.toNat := by unfold Lib.itoa; rw [if_neg (by omega)]
theorem Ev.pos {α : Type} {C : Prop} [Decidable C] {a b : Nat → Option α} {r : α} (h : C) (e : Ev a r) : Ev (fun k => if C then a k else b k) r := by simp only [if_pos h]; exact e
theorem Ev.neg {α : Type} {C : Prop} [Decidable C] {a b : Nat → Option α} {r : α} (h : ¬ C) (e : Ev b r) : Ev (fun k => if C then a k else b k) r := by simp only [if_neg h]; exact e
theorem lit_size (c : UInt8) : (⟨#[c]⟩ : ByteArray).size = 1 := rfl
theorem lit_bs (c : UInt8) : (⟨#[c]⟩ : ByteArray) = bsOf [c] := rfl
theorem nil_bs : (⟨#[]⟩ : ByteArray) = bsOf [] := rfl
end Go.Proofs.YtdeipindfhkioaaDoor.Pure
