/- The library's text builder, its writing method: the shelf's contract laid at this program (the shelf's own laying falls at a type that no body names). -/
import Derived.Shelf.Strings.BuilderK
import Derived.Lib.SmallJoins
import Derived.Test.YtdeipindfhkioaaDoorProg
import Derived.Test.YtdeipindfhkioaaDoorMine
set_option linter.unusedVariables false
namespace Go.Proofs
open Go.Shelf
def Tryd.mlays166_ren : Go.Shelf.Ren := ⟨fun | 166 => 22 | 240 => 47 | 276 => 59 | n => n, fun | 0 => 0 | 3 => 3 | 4 => 4 | 9 => 9 | 20 => 20 | 37 => 45 | 70 => 44 | 72 => 47 | 75 => 52 | 164 => 88 | 5 => 5 | 80 => 56 | n => n, fun | n => n⟩
theorem Tryd.mlays166 : Go.Proofs.Lays.n166 Tryd.prog Tryd.mlays166_ren := {
  mixed := by kernel_rfl
  f166 := Tryd.func22.trans (congrArg some (by kernel_rfl))
  f240 := Tryd.func47.trans (congrArg some (by kernel_rfl))
  f276 := Tryd.func59.trans (congrArg some (by kernel_rfl))
  t0 := Tryd.underlying0
  a0 := Tryd.isAgg0
  z0 := Tryd.sizeOf0
  v0 := Tryd.zeroValue0
  t3 := Tryd.underlying3
  a3 := Tryd.isAgg3
  z3 := Tryd.sizeOf3
  v3 := Tryd.zeroValue3
  t4 := Tryd.underlying4
  a4 := Tryd.isAgg4
  z4 := Tryd.sizeOf4
  v4 := Tryd.zeroValue4
  t9 := Tryd.underlying9
  a9 := Tryd.isAgg9
  z9 := Tryd.sizeOf9
  v9 := Tryd.zeroValue9
  t20 := Tryd.underlying20
  a20 := Tryd.isAgg20
  z20 := Tryd.sizeOf20
  v20 := Tryd.zeroValue20
  t37 := Tryd.underlying45
  a37 := Tryd.isAgg45
  z37 := Tryd.sizeOf45
  v37 := Tryd.zeroValue45
  t70 := Tryd.underlying44
  a70 := Tryd.isAgg44
  z70 := Tryd.sizeOf44
  v70 := Tryd.zeroValue44
  t72 := Tryd.underlying47
  a72 := Tryd.isAgg47
  z72 := Tryd.sizeOf47
  v72 := Tryd.zeroValue47
  t75 := Tryd.underlying52
  a75 := Tryd.isAgg52
  z75 := Tryd.sizeOf52
  v75 := Tryd.zeroValue52
  t164 := Tryd.underlying88
  a164 := Tryd.isAgg88
  z164 := Tryd.sizeOf88
  v164 := Tryd.zeroValue88 }
def Tryd.mlays169_ren : Go.Shelf.Ren := ⟨fun | 169 => 24 | n => n, fun | 0 => 0 | 3 => 3 | 9 => 9 | 37 => 45 | 70 => 44 | 72 => 47 | 127 => 79 | 5 => 5 | n => n, fun | n => n⟩
theorem Tryd.mlays169 : Go.Proofs.Lays.n169 Tryd.prog Tryd.mlays169_ren := {
  mixed := by kernel_rfl
  f169 := Tryd.func24.trans (congrArg some (by kernel_rfl))
  t0 := Tryd.underlying0
  a0 := Tryd.isAgg0
  z0 := Tryd.sizeOf0
  v0 := Tryd.zeroValue0
  t3 := Tryd.underlying3
  a3 := Tryd.isAgg3
  z3 := Tryd.sizeOf3
  v3 := Tryd.zeroValue3
  t9 := Tryd.underlying9
  a9 := Tryd.isAgg9
  z9 := Tryd.sizeOf9
  v9 := Tryd.zeroValue9
  t37 := Tryd.underlying45
  a37 := Tryd.isAgg45
  z37 := Tryd.sizeOf45
  v37 := Tryd.zeroValue45
  t70 := Tryd.underlying44
  a70 := Tryd.isAgg44
  z70 := Tryd.sizeOf44
  v70 := Tryd.zeroValue44
  t72 := Tryd.underlying47
  a72 := Tryd.isAgg47
  z72 := Tryd.sizeOf47
  v72 := Tryd.zeroValue47
  t127 := Tryd.underlying79
  a127 := Tryd.isAgg79
  z127 := Tryd.sizeOf79
  v127 := Tryd.zeroValue79 }
theorem Tryd.mBuilder_Extra_166 : Builder.Extra Tryd.prog Tryd.mlays166_ren := {
  sizeBuilder := by kernel_rfl
  liesBuilder := by kernel_rfl
  t5 := Tryd.underlying5
  a5 := Tryd.isAgg5
  z5 := Tryd.sizeOf5
  v5 := Tryd.zeroValue5
  infoByte := by kernel_rfl
  cellsByte := by kernel_rfl
  sizeByte := by kernel_rfl
  neB5 := by decide }
theorem Tryd.mBuilder_Extra_169 : Builder.Extra Tryd.prog Tryd.mlays169_ren := {
  sizeBuilder := by kernel_rfl
  liesBuilder := by kernel_rfl
  t5 := Tryd.underlying5
  a5 := Tryd.isAgg5
  z5 := Tryd.sizeOf5
  v5 := Tryd.zeroValue5
  infoByte := by kernel_rfl
  cellsByte := by kernel_rfl
  sizeByte := by kernel_rfl
  neB5 := by decide }
end Go.Proofs
namespace Go.Proofs.YtdeipindfhkioaaDoorMine
open Go.RowKit Go.Lib Go.Proofs.YtdeipindfhkioaaDoorW.PrintWords Go.Proofs.YtdeipindfhkioaaDoorW.PrintLast
/-- A text builder of the call's own (w0: the world when the call began), at block b: what it holds. -/
def BU (w0 W : World) (b : Nat) (x : ByteArray) : Prop := IsBuilderF 47 5 w0.heap.size b (byteCells x.data.toList) W
theorem BUat_grown {T e : TypeId} {B b : Nat} {p : Value} {bs : List Value} {W W1 : World} {row : Option Nat} (h : BuilderAtF T e B b p bs W) (hg : W.grownBy W1 row) (hr : ∀ k, row = some k → ∀ (cs : Array Value) (t : TypeId) (fr : Nat × Nat), W.heap[k]? = some (.cells cs t fr) → t ≠ T ∧ t ≠ e) : BuilderAtF T e B b p bs W1 := by
  obtain ⟨hB, v, hb, ho, hn⟩ := h
  have hlt : b < W.heap.size := by
    rcases Nat.lt_or_ge b W.heap.size with h' | h'
    · exact h'
    · simp [Array.getElem?_eq_none h'] at hb
  refine ⟨hB, v, ?_, ho.kept hg ?_, hn⟩
  · obtain ⟨_, _, _, _, hk⟩ := hg
    exact (hk b hlt (fun e' => (hr b e'.symm _ _ _ hb).1 rfl)).trans hb
  · cases hv : v.ownBlock with
    | none => exact .inl rfl
    | some g =>
      refine .inr (fun e' => ?_)
      obtain ⟨c, fz, hg'⟩ := ownsRowF_kind ho g hv
      exact (hr g e'.symm _ _ _ hg').2 rfl
theorem BU.grown {w0 W W1 : World} {b : Nat} {x : ByteArray} {row : Option Nat} (h : BU w0 W b x) (hg : W.grownBy W1 row) (hr : ∀ k, row = some k → ∀ (cs : Array Value) (t : TypeId) (fr : Nat × Nat), W.heap[k]? = some (.cells cs t fr) → t ≠ 47 ∧ t ≠ 5) : BU w0 W1 b x :=
  h.elim (fun h => .inl (BUat_grown h hg hr)) (fun h => .inr (BUat_grown h hg hr))
theorem BU.below {w0 W W1 : World} {b : Nat} {x : ByteArray} (h : BU w0 W b x) (hb : Below W.heap.size W W1) : BU w0 W1 b x := h.grown (grown_of_below hb none) (by simp)
theorem BU.alloc {w0 W : World} {b : Nat} {x : ByteArray} (h : BU w0 W b x) (o : Obj) : BU w0 (W.alloc o) b x := h.below ((Below.refl _ _).alloc (Nat.le_refl _) o)
theorem BU.drewN {w0 W : World} {b : Nat} {x : ByteArray} (h : BU w0 W b x) (n : Nat) : BU w0 (W.drewN n) b x := h
theorem BU.drew {w0 W : World} {b : Nat} {x : ByteArray} (h : BU w0 W b x) : BU w0 W.drew b x := h
/-- Beside a block of another type that is being written. -/
def BX (w0 W : World) (b : Nat) (x : ByteArray) (g : Nat) (t : TypeId) : Prop := BU w0 W b x ∧ ∃ cs, W.heap[g]? = some (.cells cs t (0, 0))
theorem BX.set {w0 W : World} {b : Nat} {x : ByteArray} {g : Nat} {t : TypeId} (h : BX w0 W b x g t) (h1 : t ≠ 47) (h2 : t ≠ 5) (j : Nat) (v : Value) : BX w0 (W.setCell ⟨g, j, none⟩ v) b x g t := by
  obtain ⟨hu, cs, hc⟩ := h
  refine ⟨hu.grown (row := some g) ⟨rfl, rfl, rfl, by simp [World.setCell], fun k _ hk => Below.heap_setCell _ _ _ _ (fun e => hk (by simp [e]))⟩ (fun k hk cs' t' fr hc' => ?_), _, Go.Joins.block_setCell hc v⟩
  cases hk
  rw [hc] at hc'
  injection hc' with hc'
  injection hc' with _ e _
  subst e
  exact ⟨h1, h2⟩
theorem BU.new {w0 W : World} {b : Nat} (hB : w0.heap.size ≤ b) (hb : W.heap[b]? = some (.cells #[.pointer none, .slice none 0 0] 47 (0, 0))) : BU w0 W b ⟨#[]⟩ :=
  .inl ⟨hB, _, hb, World.ownsRowF_nil _ _ _ _, by simp [Value.ownBlock]⟩
theorem blk_others {w0 W W1 : World} {b g : Nat} {x : ByteArray} {cs : Array Value} {t : TypeId} {fr : Nat × Nat} (h : W.heap[g]? = some (.cells cs t fr)) (ho : OthersKept 5 (some b) W W1) (hu : BU w0 W b x) (h1 : t ≠ 47) (h2 : t ≠ 5) : W1.heap[g]? = some (.cells cs t fr) := by
  refine ho g _ h (fun e => ?_) (fun c fz e => ?_)
  · have e2 : g = b := Option.some.inj e
    rw [e2] at h
    obtain ⟨p, v, hb⟩ : ∃ p v, W.heap[b]? = some (.cells #[p, v] 47 (0, 0)) := hu.elim (fun ⟨_, v, hb, _⟩ => ⟨_, v, hb⟩) (fun ⟨_, v, hb, _⟩ => ⟨_, v, hb⟩)
    rw [hb] at h
    injection h with h
    injection h with _ e _
    exact h1 e.symm
  · injection e with _ e _
    exact h2 e
theorem Builder_WriteString_calls (w0 : World) (b : Nat) (a0 a1 : ByteArray) (w : World) (hu : BU w0 w b a0) (hB : w0.heap.size ≤ w.heap.size) (hs : a0.size + a1.size ≤ 140737488355328) :
    Calls Tryd.prog 22 #[.pointer (some ⟨b, 0, none⟩), .string a1] w fun e w' => e = .returned (.tuple #[.int .i64 a1.size, .nilIface]) ∧ BU w0 w' b (a0 ++ a1) ∧ Below w0.heap.size w w' ∧ OthersKept 5 (some b) w w' := by
  refine (Any.Builder_WriteString_k Tryd.mlays166 Tryd.mBuilder_Extra_166 w0.heap.size b (byteCells a0.data.toList) a1 w hu (by rw [byteCells_length, Array.length_toList]; exact hs) hB).mono fun e w' he => ?_
  obtain ⟨he, h1, h2, h3⟩ := he
  refine ⟨he, .inr ?_, h2, h3⟩
  have e1 : byteCells (a0 ++ a1).data.toList = byteCells a0.data.toList ++ strCells a1 := by rw [strCells_eq, ← byteCells_append, ByteArray.data_append, Array.toList_append]
  rw [e1]; exact h1
theorem Builder_String_calls (w0 : World) (b : Nat) (a0 : ByteArray) (w : World) (hu : BU w0 w b a0) (hB : w0.heap.size ≤ w.heap.size) :
    Calls Tryd.prog 24 #[.pointer (some ⟨b, 0, none⟩)] w fun e w' => e = .returned (.string a0) ∧ BU w0 w' b a0 ∧ Below w0.heap.size w w' ∧ OthersKept 5 (some b) w w' := by
  refine (Any.Builder_String_any_k Tryd.mlays169 Tryd.mBuilder_Extra_169 w0.heap.size b a0.data.toList w hu hB).mono fun e w' he => ?_
  obtain ⟨he, h1, h2, h3⟩ := he
  exact ⟨he, h1, h2, h3⟩
end Go.Proofs.YtdeipindfhkioaaDoorMine
