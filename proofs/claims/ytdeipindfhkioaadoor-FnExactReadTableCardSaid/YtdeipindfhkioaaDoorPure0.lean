
/- Plain lemmas for the pure proofs: loops over lists as the printed functions have them, whatever the elements. No memory, no Go. -/
import Derived.Test.YtdeipindfhkioaaDoorMine
set_option linter.unusedVariables false
namespace Go.Proofs.YtdeipindfhkioaaDoorMine
open Go.RowKit Go.Proofs.YtdeipindfhkioaaDoorW.PrintWords

theorem wrap_id {i : Int} (h0 : -9223372036854775808 ≤ i) (h1 : i ≤ 9223372036854775807) : wrap64 i = i := by unfold wrap64; omega
theorem wrap_sm {i : Int} (h0 : -4611686018427387904 ≤ i) (h1 : i ≤ 4611686018427387904) : wrap64 i = i := by unfold wrap64; omega
theorem wf_i16 {n : Int} (h : (Lit.int .i16 n).wf = true) : -32768 ≤ n ∧ n ≤ 32767 := by simpa [Lit.wf, IntKind.min, IntKind.max, IntKind.signed, IntKind.bits] using h
theorem Ev.eq {α : Type} {g : Nat → Option α} {r s : α} (h : Ev g r) (e : r = s) : Ev g s := e ▸ h
theorem getD_ge {α : Type} {l : List α} {i : Nat} {z : α} (h : i < l.length) : l[i]? = some (l.getD i z) := by
 rw [List.getD_eq_getElem?_getD, List.getElem?_eq_getElem h]; rfl
theorem drop_step {α : Type} {l : List α} {i : Nat} (z : α) (h : i < l.length) : l.drop i = l.getD i z :: l.drop (i + 1) := by
 rw [List.getD_eq_getElem?_getD, List.getElem?_eq_getElem h]; exact List.drop_eq_getElem_cons h

theorem eq_loop {α : Type} (L : Nat → List α → List α → Int → Option Bool) (x : List α) (hx : x.length ≤ 4611686018427387904)
  (step : ∀ k (i : Int), 0 ≤ i → i ≤ x.length → L (k + 1) x x i = if i < (x.length : Int) then L k x x (wrap64 (i + 1)) else some true) :
  ∀ (d m : Nat), m + d = x.length → Ev (fun k => L k x x (m : Int)) true := by
 intro d
 induction d with
 | zero => intro m hm; exact Ev.step (f := fun _ => some true) (fun k => by rw [step k m (by omega) (by omega), if_neg (by omega)]) (Ev.now _)
 | succ d ih =>
  intro m hm
  refine Ev.step (f := fun k => L k x x ((m + 1 : Nat) : Int)) (fun k => ?_) (ih (m + 1) (by omega))
  rw [step k m (by omega) (by omega), if_pos (by omega), wrap_sm (by omega) (by omega)]; rfl
theorem eq_all {α : Type} (L : Nat → List α → List α → Int → Option Bool) (x : List α) (hx : x.length ≤ 4611686018427387904)
  (step : ∀ k (i : Int), 0 ≤ i → i ≤ x.length → L (k + 1) x x i = if i < (x.length : Int) then L k x x (wrap64 (i + 1)) else some true) : Ev (fun k => L k x x 0) true :=
 eq_loop L x hx step x.length 0 (by omega)

end Go.Proofs.YtdeipindfhkioaaDoorMine
