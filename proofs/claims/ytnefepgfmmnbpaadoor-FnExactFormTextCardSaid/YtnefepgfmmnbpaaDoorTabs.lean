/- What stays as start-up code laid it: the powers of ten that a decimal text is made with. -/
import Derived.Lib.LaidTab
import Derived.Lib.SmallJoins
import Derived.Lib.ItoaNum
import Derived.Test.YtnefepgfmmnbpaaDoorProg
import Derived.Test.YtnefepgfmmnbpaaDoorMine
set_option linter.unusedVariables false
namespace Go.Proofs.YtnefepgfmmnbpaaDoorMine
open Go.RowKit Go.Sort Go.Proofs.YtnefepgfmmnbpaaDoorW.PrintWords
theorem gPow10 : ∃ g, Tryd.prog.globalNamed "internal/strconv.uint64pow10" = some g := Option.isSome_iff_exists.1 (by kernel_rfl)
/-- The table of the powers of ten lies where it was laid. -/
def TabF (w : World) : Prop := Lib.TabIs Tryd.prog w "internal/strconv.uint64pow10" .u64 Lib.pow10Tab
theorem TabF.below {w w' : World} (h : TabF w) (hb : Below w.heap.size w w') : TabF w' := by
  obtain ⟨g, hg⟩ := gPow10
  exact Go.Joins.tab_stays hg h hb (Nat.le_refl _)
theorem TabF.alloc {w : World} (h : TabF w) (o : Obj) : TabF (w.alloc o) := h.below ((Below.refl _ _).alloc (Nat.le_refl _) o)
theorem TabF.drewN {w : World} (h : TabF w) (n : Nat) : TabF (w.drewN n) := h
theorem TabF.drew {w : World} (h : TabF w) : TabF w.drew := h
theorem below_grow_drewN (w : World) (k : Nat) (os : Array Obj) : Below w.heap.size w (grow (w.drewN k) os) :=
  ⟨rfl, rfl, rfl, by show w.heap.size ≤ (w.heap ++ os).size; rw [Array.size_append]; omega, fun j hj => by show (w.heap ++ os)[j]? = w.heap[j]?; exact Array.getElem?_append_left hj⟩
/-- What one listed variable holds. -/
def HoldsVar (P : Program) (w : World) (n : String) (d : DataW Unit) : Prop := ∃ (g : Nat) (t : TypeId) (cs : Array Value) (fuel : Nat) (p : List MemPlace), P.globalNamed n = some g ∧ (P.globals[g]?).map (·.type) = some t ∧ w.var? P n = some cs ∧ DataW.trod (fun _ => ()) P w 0 (fun _ => true) false fuel t cs.toList = some (d, p)
theorem holdsVar_in {P : Program} {w : World} {n : String} {d : DataW Unit} : ∀ {l : List (String × DataW Unit)} {ps : List MemPlace}, DataW.LaidVars P w l ps → (n, d) ∈ l → HoldsVar P w n d
  | [], _, _, hm => absurd hm List.not_mem_nil
  | _ :: _, _, ⟨g, t, cs, fuel, p, _, a1, a2, a3, a4, a5, _⟩, hm => by
    cases hm with
    | head => exact ⟨g, t, cs, fuel, p, a1, a2, a3, a4⟩
    | tail _ hm => exact holdsVar_in a5 hm
theorem holdsVar_of {P : Program} {w : World} {l : List (String × DataW Unit)} (h : laidMet P l w) {n : String} {d : DataW Unit} (hm : (n, d) ∈ l) : HoldsVar P w n d := by
  obtain ⟨_, hv, _⟩ := h
  exact holdsVar_in hv hm
theorem tabIs_of_reads {P : Program} {W : World} {name : String} {k : IntKind} {zs : List Int} {g : Nat} {t e : TypeId} {n : Nat} (hg : P.globalNamed name = some g) (hty : (P.globals[g]?).map (·.type) = some t) (ht : P.underlying t = some (.array n e)) (he : P.underlying e = some (.int k)) (hce : P.cellsOf e = 1) (hct : P.cellsOf t = n) (h : HoldsVar P W name (Lib.tabData k zs)) : Lib.TabIs P W name k zs := by
  obtain ⟨g', t', cs, fuel, p, h1, h2, h3, h4⟩ := h
  cases hg.symm.trans h1
  cases hty.symm.trans h2
  have h5 := Lib.cells_of_tab ht he hce hct h4
  unfold Lib.TabIs
  rw [h3, ← h5]
theorem tabF_of_reads {W : World} (h : HoldsVar Tryd.prog W "internal/strconv.uint64pow10" (Lib.tabData .u64 Lib.pow10Tab)) : TabF W :=
  tabIs_of_reads (g := 1) (t := 121) (e := 112) (n := 20) (by kernel_rfl) (by kernel_rfl) Tryd.underlying121 Tryd.underlying112 (by kernel_rfl) (by kernel_rfl) h
end Go.Proofs.YtnefepgfmmnbpaaDoorMine
