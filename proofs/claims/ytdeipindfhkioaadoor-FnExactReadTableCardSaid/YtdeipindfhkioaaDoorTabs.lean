/- What stays as start-up code laid it: the powers of ten that a decimal text is made with. -/
import Derived.Lib.LaidTab
import Derived.Lib.SmallJoins
import Derived.Lib.ItoaNum
import Derived.Shelf.Vars
import Derived.Test.YtdeipindfhkioaaDoorProg
import Derived.Test.YtdeipindfhkioaaDoorMine
set_option linter.unusedVariables false
namespace Go.Proofs.YtdeipindfhkioaaDoorMine
open Go.RowKit Go.Sort Go.Proofs.YtdeipindfhkioaaDoorW.PrintWords
theorem gPow10 : ∃ g, Tryd.prog.globalNamed "internal/strconv.uint64pow10" = some g := Option.isSome_iff_exists.1 (by kernel_rfl)
/-- The table of the powers of ten lies where it was laid. -/
def TabF (w : World) : Prop := Lib.TabIs Tryd.prog w "internal/strconv.uint64pow10" .u64 Lib.pow10Tab
theorem TabF.below {w w' : World} (h : TabF w) (hb : Below w.heap.size w w') : TabF w' := by
  obtain ⟨g, hg⟩ := gPow10
  exact Go.Joins.tab_stays hg h hb (Nat.le_refl _)
theorem TabF.alloc {w : World} (h : TabF w) (o : Obj) : TabF (w.alloc o) := h.below ((Below.refl _ _).alloc (Nat.le_refl _) o)
theorem TabF.drewN {w : World} (h : TabF w) (n : Nat) : TabF (w.drewN n) := h
theorem TabF.drew {w : World} (h : TabF w) : TabF w.drew := h
theorem below_grow_drewN (w : World) (k : Nat) (os : Array Obj) : Below w.heap.size w (grow (w.drewN k) os) :=
  ⟨rfl, rfl, rfl, by show w.heap.size ≤ (w.heap ++ os).size; rw [Array.size_append]; omega, fun j hj => by show (w.heap ++ os)[j]? = w.heap[j]?; exact Array.getElem?_append_left hj⟩
/-- What one listed variable holds. -/
def HoldsVar (P : Program) (w : World) (n : String) (d : DataW Unit) : Prop := ∃ (g : Nat) (t : TypeId) (cs : Array Value) (fuel : Nat) (p : List MemPlace), P.globalNamed n = some g ∧ (P.globals[g]?).map (·.type) = some t ∧ w.var? P n = some cs ∧ DataW.trod (fun _ => ()) P w 0 (fun _ => true) false fuel t cs.toList = some (d, p)
theorem holdsVar_in {P : Program} {w : World} {n : String} {d : DataW Unit} : ∀ {l : List (String × DataW Unit)} {ps : List MemPlace}, DataW.LaidVars P w l ps → (n, d) ∈ l → HoldsVar P w n d
  | [], _, _, hm => absurd hm List.not_mem_nil
  | _ :: _, _, ⟨g, t, cs, fuel, p, _, a1, a2, a3, a4, a5, _⟩, hm => by
    cases hm with
    | head => exact ⟨g, t, cs, fuel, p, a1, a2, a3, a4⟩
    | tail _ hm => exact holdsVar_in a5 hm
theorem holdsVar_of {P : Program} {w : World} {l : List (String × DataW Unit)} (h : laidMet P l w) {n : String} {d : DataW Unit} (hm : (n, d) ∈ l) : HoldsVar P w n d := by
  obtain ⟨_, hv, _⟩ := h
  exact holdsVar_in hv hm
theorem tabIs_of_reads {P : Program} {W : World} {name : String} {k : IntKind} {zs : List Int} {g : Nat} {t e : TypeId} {n : Nat} (hg : P.globalNamed name = some g) (hty : (P.globals[g]?).map (·.type) = some t) (ht : P.underlying t = some (.array n e)) (he : P.underlying e = some (.int k)) (hce : P.cellsOf e = 1) (hct : P.cellsOf t = n) (h : HoldsVar P W name (Lib.tabData k zs)) : Lib.TabIs P W name k zs := by
  obtain ⟨g', t', cs, fuel, p, h1, h2, h3, h4⟩ := h
  cases hg.symm.trans h1
  cases hty.symm.trans h2
  have h5 := Lib.cells_of_tab ht he hce hct h4
  unfold Lib.TabIs
  rw [h3, ← h5]
theorem tabF_of_reads {W : World} (h : HoldsVar Tryd.prog W "internal/strconv.uint64pow10" (Lib.tabData .u64 Lib.pow10Tab)) : TabF W :=
  tabIs_of_reads (g := 0) (t := 108) (e := 97) (n := 20) (by kernel_rfl) (by kernel_rfl) Tryd.underlying108 Tryd.underlying97 (by kernel_rfl) (by kernel_rfl) h
theorem iface_of_trod {P : Program} {w : World} {sp : Nat → Bool} {fuel : Nat} {t : TypeId} {cs : List Value} {name : String} {d : DataW Unit} {p : List MemPlace} (ht : ∃ ms, P.underlying t = some (.interface ms)) (h : DataW.trod (fun _ => ()) P w 0 sp false fuel t cs = some (.iface name d, p)) : ∃ u v, cs = [.iface u v] := by
  obtain ⟨ms, ht⟩ := ht
  cases fuel with
  | zero => simp [DataW.trod] at h
  | succ fuel =>
    rcases cs with _ | ⟨c, _ | ⟨c2, r⟩⟩
    · simp [DataW.trod, ht] at h
    · cases c <;> first | (exact ⟨_, _, rfl⟩) | (simp [DataW.trod, ht] at h)
    · simp [DataW.trod, ht] at h
theorem iface_cell {P : Program} {w : World} {n name : String} {d : DataW Unit} {g : Nat} {t : TypeId} (hg : P.globalNamed n = some g) (hty : (P.globals[g]?).map (·.type) = some t) (ht : ∃ ms, P.underlying t = some (.interface ms)) (h : HoldsVar P w n (.iface name d)) : ∃ u v, w.cell? ⟨g, 0, none⟩ = some (.iface u v) := by
  obtain ⟨g', t', cs, fuel, p, h1, h2, h3, h4⟩ := h
  cases hg.symm.trans h1
  cases hty.symm.trans h2
  obtain ⟨u, v, hc⟩ := iface_of_trod ht h4
  refine ⟨u, v, ?_⟩
  have := World.var?_cell hg h3 0
  rw [this]
  have : cs[0]? = cs.toList[0]? := by simp
  rw [this, hc]; rfl
/-- What the library's searches and conversions read: a bound, two errors. -/
def TabX (w : World) : Prop :=
  TabF w ∧ (∃ u v, w.cell? ⟨2, 0, none⟩ = some (.iface u v)) ∧ (∃ u v, w.cell? ⟨3, 0, none⟩ = some (.iface u v)) ∧
  (∃ m, w.cell? ⟨1, 0, none⟩ = some (.int .i64 m))
theorem cell_stays {w w' : World} {p : Addr} {v : Value} (h : w.cell? p = some v) (hb : Below w.heap.size w w') : w'.cell? p = some v := (hb.cell (World.block_lt_of_cell? w _ h)).trans h
theorem TabX.below {w w' : World} (h : TabX w) (hb : Below w.heap.size w w') : TabX w' := by
  obtain ⟨h0, ⟨u, v, h1⟩, ⟨u', v', h2⟩, m, h3⟩ := h
  exact ⟨h0.below hb, ⟨u, v, cell_stays h1 hb⟩, ⟨u', v', cell_stays h2 hb⟩, m, cell_stays h3 hb⟩
theorem maxLen_of_shaped {w : World} (h : w.ShapedOpen Tryd.prog) : ∃ m, w.cell? ⟨1, 0, none⟩ = some (.int .i64 m) :=
  Go.Proofs.cell_of_shapedOpen_int (t := 3) (zero := #[.int .i64 0]) h (of_decide_eq_true (by kernel_rfl)) (by kernel_rfl) rfl (by kernel_rfl) (by kernel_rfl) Tryd.underlying3
end Go.Proofs.YtdeipindfhkioaaDoorMine
