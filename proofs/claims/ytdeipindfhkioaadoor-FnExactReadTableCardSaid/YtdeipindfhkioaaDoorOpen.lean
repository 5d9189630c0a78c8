
/- How the data of an argument, whatever its type of whole numbers, bools, strings, slices and structs, open to the kinds by which the printed functions read memory. -/
import Derived.Deep.Slices
import Derived.Deep.Fields
import Derived.ChangeSame
import Derived.SizedLaws
import Derived.ChangeSlices
import Derived.OpenShut
import Derived.ShutString
import Derived.Carry
import Derived.Test.YtdeipindfhkioaaDoorWWords
set_option linter.unusedVariables false
namespace Go.Proofs.YtdeipindfhkioaaDoor.Open
open Go.RowKit Go.ChangeShapes Go.WideShapes Go.Deep Go.Proofs.YtdeipindfhkioaaDoorW.PrintWords

def Opens {α : Type} (P : Program) (d : Kd α) (t : TypeId) (ok : α → Prop) : Prop :=
 ∀ (H : Type) (enc : TypeId × Value → H) (w : World) (sp : Nat → Bool) (held : Bool) (fuel : Nat) (cs : List Value) (x : DataW H × List MemPlace),
  DataW.trod enc P w 0 sp held fuel t cs = some x → (∀ n ∈ x.1.weights P t, n ≤ reachBytes) → ∃ a : α, d.K w a cs ∧ ok a

theorem opens_string {P : Program} {t : TypeId} (ht : P.underlying t = some .string) : Opens P Kd.string t (fun s => s.size ≤ 140737488351232) := by
 intro H enc w sp held fuel cs x h hw
 obtain ⟨s, rfl, rfl, hm⟩ := DataW.trod_string ht h
 refine ⟨s, rfl, ?_⟩
 have h1 : s.data.toList.length ≤ 140737488351232 := hw s.data.toList.length (by simp [DataW.weights])
 rw [Array.length_toList] at h1
 exact h1
theorem open_arg {P : Program} {α : Type} {d : Kd α} {t : TypeId} {ok : α → Prop} (ho : Opens P d t ok) {H : Type} {enc : TypeId × Value → H} {w : World} {sp : Nat → Bool} {held : Bool} {v : Value} {da : DataW H} {ps : List MemPlace}
  {ts : List TypeId} {ds : List (DataW H)} {j : Nat} (hsz : (DataW.weightsEach P ts ds).all (· ≤ reachBytes) = true) (ht : ts[j]? = some t) (hd : ds[j]? = some da)
  (h : DataW.Trod enc P w 0 sp held t v da ps) : ∃ a : α, d.K w a v.cells.toList ∧ ok a := by
 obtain ⟨fuel, hf⟩ := h
 exact ho H enc w sp held fuel _ _ hf (fun z hz => by
  have := List.all_eq_true.1 hsz _ (DataW.weights_mem_each ht hd z hz)
  simpa using this)
theorem trod_below {H : Type} {enc : TypeId × Value → H} {P : Program} {w : World} {base : Nat} {sp : Nat → Bool} {held : Bool} {t : TypeId} {v : Value} {d : DataW H} {ps : List MemPlace}
  (h : DataW.Trod enc P w base sp held t v d ps) : ∀ x ∈ ps, x.block < w.heap.size := by
 obtain ⟨m, hm⟩ := h
 exact DataW.trod_lt m _ _ _ hm
end Go.Proofs.YtdeipindfhkioaaDoor.Open
