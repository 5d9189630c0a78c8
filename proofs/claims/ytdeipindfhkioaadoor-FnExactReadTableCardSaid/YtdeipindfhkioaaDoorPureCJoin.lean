/- Joined texts. -/
import Derived.Test.YtdeipindfhkioaaDoorPureCText
set_option linter.unusedVariables false
set_option linter.unusedSimpArgs false
namespace Go.Proofs.YtdeipindfhkioaaDoor.Pure
open Go.RowKit Go.Proofs.YtdeipindfhkioaaDoor.Q Go.Proofs.YtdeipindfhkioaaDoorMine Go.Proofs.YtdeipindfhkioaaDoorW.PrintWords Go.Proofs.YtdeipindfhkioaaDoorW.PrintMore
theorem joinTail_cons (sep x : List UInt8) (r : List (List UInt8)) : Lib.joinTail sep (x :: r) = sep ++ x ++ Lib.joinTail sep r := by simp [Lib.joinTail]
theorem joinTail_nil (sep : List UInt8) : Lib.joinTail sep [] = [] := rfl
theorem joinTail_app (sep : List UInt8) (a b : List (List UInt8)) : Lib.joinTail sep (a ++ b) = Lib.joinTail sep a ++ Lib.joinTail sep b := by simp [Lib.joinTail]
theorem joinTail_le {sep : List UInt8} {c : Nat} : ∀ (r : List (List UInt8)), (∀ x ∈ r, x.length ≤ c) → (Lib.joinTail sep r).length ≤ (sep.length + c) * r.length
 | [], _ => by simp [Lib.joinTail]
 | x :: r, h => by
  have h1 := joinTail_le (sep := sep) r (fun y hy => h y (List.mem_cons_of_mem _ hy))
  have h2 := h x List.mem_cons_self
  rw [joinTail_cons]
  simp only [List.length_append, List.length_cons, Nat.mul_add, Nat.mul_one]; omega
theorem join_le {sep : List UInt8} {c : Nat} (l : List (List UInt8)) (h : ∀ x ∈ l, x.length ≤ c) : (Lib.join l sep).length ≤ (sep.length + c) * l.length := by
 cases l with
 | nil => simp [Lib.join_nil]
 | cons x r =>
  have h1 := joinTail_le (sep := sep) r (fun y hy => h y (List.mem_cons_of_mem _ hy))
  have h2 := h x List.mem_cons_self
  rw [Lib.join_cons, List.length_append]
  simp only [List.length_cons, Nat.mul_add, Nat.mul_one]; omega
end Go.Proofs.YtdeipindfhkioaaDoor.Pure
