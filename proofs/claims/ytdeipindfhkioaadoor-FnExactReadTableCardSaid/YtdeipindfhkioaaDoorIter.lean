/- A range over strings.Lines: the iterator walked once; one law for its callers. Out of wip/lines (gen_lines.py). -/
import Derived.RangeFuncBox
import Derived.RangeFuncLeaves
import Derived.RangeFuncCalls
import Derived.OwnWalkIn
import Derived.TacticsInMore
import Derived.LoopNIn
import Derived.LoopIn
import Derived.Shelf.Abstract
import Derived.Lib.IndexLaws
import Derived.RegionIn
import Derived.BigRegionIn
import Derived.RegionTactic
import Derived.BigRegion
import Derived.Test.YtdeipindfhkioaaDoorMine
import Derived.Test.YtdeipindfhkioaaDoorShelf
namespace Go.Proofs.YtdeipindfhkioaaDoorMine
open Go.RowKit Go.Proofs.YtdeipindfhkioaaDoorW.PrintWords Go.Proofs.YtdeipindfhkioaaDoorW.PrintLast Go.Proofs.YtdeipindfhkioaaDoorW.PrintMore Go.Proofs.YtdeipindfhkioaaDoorMine Go.Proofs Go
set_option linter.unusedVariables false
set_option linter.unusedSimpArgs false
section
variable {P : Program} {ops : Array Oper} {Q : Exit → Act → World → Prop} {a : Act} {w : World}
theorem rowsIn_wideR {l n : Nat} {row : String} {args : Array Value} {w : World} {R : Value → World → Prop} (h : Rows P row args w R) : RowsIn (Fence.wide.inRound l) n P row args w R :=
  fun c cs _ => let ⟨v, w', r, s⟩ := h c cs; ⟨v, w', r, stepsIn_wide.2 s⟩
theorem callsIn_wideR {l n : Nat} {f : FuncId} {args : Array Value} {w : World} {R : Ending → World → Prop} (h : Calls P f args w R) : CallsIn (Fence.wide.inRound l) n P f args w R := CallsIn.inRound l (callsIn_wide.2 h)
theorem upon_in {o : Oper} {l n : Nat} {next next' : Act → World → Prop} (hn : ∀ a w, next a w → next' a w) (hl : ¬ LetsOut Q) {r : Result Next} (h : o.upon P a next Q r) : o.uponIn (Fence.wide.inRound l) n P a next' Q r := by
  cases r with
  | ok x w' =>
    cases x with
    | value v => exact hn _ _ h
    | skip => exact hn _ _ h
    | defer d => exact hn _ _ h
    | enter f args =>
      refine ⟨fun hd => by simp [Fence.inRound, Fence.wide] at hd, (callsIn_wideR (l := l) h).mono fun e w'' he => ?_⟩
      cases e with
      | returned v => exact hn _ _ he
      | panicked chain => exact he
      | outgrown => exact he
    | row row args => exact ⟨fun hd => by simp [Fence.inRound, Fence.wide] at hd, (rowsIn_wideR (l := l) h).mono fun v w'' he => hn _ _ he⟩
    | _ => exact h.elim
  | halt x w' =>
    cases x with
    | panic v => exact h
    | _ => exact h.elim
def noDefer (o : Oper) : Prop := ∀ c, o.op ≠ .defer c
theorem wpList_in {l n : Nat} (hl : ¬ LetsOut Q) : ∀ (L : List Oper) (a : Act) (w : World), (∀ o ∈ L, noDefer o) → wpList P ops Q L a w → wpListIn (Fence.wide.inRound l) n P ops Q L a w
  | [], a, w, _, h => h
  | o :: rest, a, w, hd, h => by
    unfold wpList at h
    unfold wpListIn
    split
    · rename_i hw
      rw [if_pos hw] at h
      rcases h with h | h
      · refine ⟨fun f _ => trivial, ?_⟩
        rw [show Oper.semAt (Fence.wide.inRound l).round a.eval o = execOp a.eval o from Oper.semAt_some l _ _ (hd o List.mem_cons_self)]
        exact upon_in (fun a' w' hk => wpList_in hl rest a' w' (fun o' ho => hd o' (List.mem_cons_of_mem _ ho)) hk) hl h
      · exact absurd h.2 hl
    · rename_i hw
      rw [if_neg hw] at h
      exact ⟨fun f _ => trivial, wpList_in hl rest _ w (fun o' ho => hd o' (List.mem_cons_of_mem _ ho)) h⟩
def noDeferB (o : Oper) : Bool := match o.op with | .defer _ => false | _ => true
theorem noDefer_of {o : Oper} (h : noDeferB o = true) : noDefer o := by
  intro c e
  unfold noDeferB at h
  rw [e] at h
  cases h
/-- A region in a round, walked as anywhere. -/
theorem region_in {l n id : Nat} {L : List Oper} (hl : ¬ LetsOut Q) (hd : L.all noDeferB = true) (h : wpList P L.toArray Q L a w) : (Code.region id L.toArray false).wpIn (Fence.wide.inRound l) n P Q a w :=
  wpIn_region_lit (wpList_in hl L a w (fun o ho => noDefer_of (List.all_eq_true.1 hd o ho)) h)
end
/-- The walk stops here. -/
def Held (p : Prop) : Prop := p
theorem held_append {F : Fence} {n : Nat} {P : Program} {ops : Array Oper} {Q : Exit → Act → World → Prop} {rest : List Oper} {o : Oper} {a : Act} {W : World} {xs : Array Operand} {ts : Array TypeId} (_ho : o.op = .call { callee := .builtin .append, args := xs, argTypes := ts }) (h : Held (wpListIn F n P ops Q (o :: rest) a W)) : wpListIn F n P ops Q (o :: rest) a W := h
theorem held_in {l n : Nat} {P : Program} {ops : Array Oper} {Q : Exit → Act → World → Prop} {L : List Oper} {a : Act} {W : World} (hl : ¬ LetsOut Q) (hd : L.all noDeferB = true) (h : wpList P ops Q L a W) : Held (wpListIn (Fence.wide.inRound l) n P ops Q L a W) := wpList_in hl L a W (fun o ho => noDefer_of (List.all_eq_true.1 hd o ho)) h
def lnI (s : ByteArray) : Int := Lib.indexByte s.data.toList 10
def lnLine (s : ByteArray) : ByteArray := if 0 ≤ lnI s then s.extract 0 (lnI s + 1).toNat else s
def lnRest (s : ByteArray) : ByteArray := if 0 ≤ lnI s then s.extract (lnI s + 1).toNat s.size else ⟨#[]⟩
/-- The size of the text in the box Bs. -/
def lnLeft (Bs : Nat) (W : World) : Nat := match W.cell? ⟨Bs, 0, none⟩ with | some (.string s) => s.size | _ => 0
theorem ln_lt (s : ByteArray) (h : 0 ≤ lnI s) : (lnI s + 1).toNat ≤ s.size ∧ 0 < (lnI s + 1).toNat := by
  obtain ⟨o, ho⟩ := Int.eq_ofNat_of_zero_le h
  have h1 := (Lib.indexByte_some (o := o) ho).1
  have h2 : s.data.toList.length = s.size := by rw [ByteArray.size, Array.length_toList]
  have h3 : o < s.data.toList.length := (List.getElem?_eq_some_iff.1 h1).1
  omega
theorem lnRest_lt (s : ByteArray) (h : 0 < s.size) : (lnRest s).size < s.size := by
  unfold lnRest
  split
  · rename_i h0
    have := ln_lt s h0
    rw [ByteArray.size_extract]; omega
  · exact h
theorem lnLeft_at {Bs : Nat} {W : World} {z : ByteArray} (h : W.heap[Bs]? = some (.cells #[.string z] 9 (0, 0))) : lnLeft Bs W = z.size := by
  unfold lnLeft
  rw [show W.cell? ⟨Bs, 0, none⟩ = some (.string z) from (blk_cell h 0).trans rfl]
theorem lnLeft_lt {Bs : Nat} {W W' : World} {z z' : ByteArray} (h' : W'.heap[Bs]? = some (.cells #[.string z'] 9 (0, 0))) (h : W.heap[Bs]? = some (.cells #[.string z] 9 (0, 0))) (hl : z'.size < z.size) : lnLeft Bs W' < lnLeft Bs W := by
  rw [lnLeft_at h, lnLeft_at h']; exact hl
section
attribute [local go_sem] Oper.semAt_some
set_option maxRecDepth 100000 in
set_option maxHeartbeats 8000000 in
theorem lines1_in (n l Bs : Nat) (hn : 1 ≤ n) (J : ByteArray → World → Prop) (Jx : World → Prop)
    (hY : ∀ (s : ByteArray) (W : World) (m : Nat), 0 < s.size → J s W → W.heap[Bs]? = some (.cells #[.string s] 9 (0, 0)) → YieldAt Fence.wide (n - 1) Tryd.prog l #[.string (lnLine s)] ((W.setCell ⟨Bs, 0, none⟩ (.string (lnRest s))).drewN m) fun e W' =>
      (e = .returned (.bool true) ∧ J (lnRest s) W' ∧ W'.heap[Bs]? = some (.cells #[.string (lnRest s)] 9 (0, 0))) ∨ (e = .returned (.bool false) ∧ Jx W'))
    (s : ByteArray) (W : World) (hB : s.size ≤ 4611686018427387904) (h0 : J s W) (hb : W.heap[Bs]? = some (.cells #[.string s] 9 (0, 0))) :
    CallsIn Fence.wide n Tryd.prog 50 #[.func (.yield l) #[] #[], .pointer (some ⟨Bs, 0, none⟩)] W fun e W' => (∃ v, e = .returned v) ∧ ((∃ z : ByteArray, z.size = 0 ∧ J z W') ∨ Jx W') := by
  refine callsIn_of_wp Tryd.func50 rfl trivial ?_ rfl
  simp only [Tryd.ntmps50, List.size_toArray, List.length_cons, List.length_nil, Nat.reduceAdd, Nat.reduceSub, Array.replicate_succ, Array.replicate_zero, List.push_toArray, List.append_toArray, List.nil_append, List.cons_append]
  gi_wp2
  gi_loopw [3] (fun _ wr => ∃ z : ByteArray, z.size ≤ 4611686018427387904 ∧ J z wr ∧ wr.heap[Bs]? = some (.cells #[.string z] 9 (0, 0)))
    (fun _ wr => lnLeft Bs wr)
  case atStart => exact ⟨s, hB, h0, hb⟩
  case round =>
    obtain ⟨z, hB, hJ, hbx⟩ := hrel
    have hc : wr.cell? ⟨Bs, 0, none⟩ = some (.string z) := (blk_cell hbx 0).trans rfl
    have hf := blk_frozen hbx 0
    by_cases hz : z.size = 0
    · gi_wp2
      go_end0
      exact ⟨⟨_, rfl⟩, .inl ⟨z, hz, hJ⟩⟩
    · have hp : 0 < z.size := by omega
      have hI : ∀ w : World, Calls Tryd.prog 51 #[.string z, .int .u8 10] w fun e w' => e = .returned (.int .i64 (lnI z)) ∧ w' = w := fun w => Go.Proofs.Tryd.strings_IndexByte z 10 w
      by_cases hi : 0 ≤ lnI z
      · have hlt := ln_lt z hi
        obtain ⟨fn, tmps, assign, body, hy, hR⟩ := hY z wr 1 hp hJ hbx
        simp only [show lnLine z = z.extract 0 (lnI z + 1).toNat from if_pos hi, show lnRest z = z.extract (lnI z + 1).toNat z.size from if_pos hi, show ∀ X : World, X.drewN 1 = X.drew from fun _ => rfl] at hy hR
        gi_wp2_with (refine ⟨trivial, ?_⟩; gi_at_call 51; refine (callsIn_wide.2 (hI _)).mono ?_; rintro e w' ⟨rfl, rfl⟩)
        have hwr : IntKind.i64.wrap (lnI z + 1) = lnI z + 1 := (i64_w _).trans (by unfold wrap64; omega)
        have hs0 : 0 ≤ lnI z + 1 := by omega
        have hs1 : lnI z + 1 ≤ (z.size : Int) := by omega
        gi_region
        gi_wp2
        refine hR.mono ?_
        rintro e W3 (⟨rfl, hJ3, hb3⟩ | ⟨rfl, hJx3⟩)
        · gi_wp2
          go_roundw
          case rel => exact ⟨_, by rw [ByteArray.size_extract]; omega, hJ3, hb3⟩
          case measure => exact lnLeft_lt hb3 hbx (by rw [ByteArray.size_extract]; omega)
        · gi_wp2
          refine bodyPost_ret (results_none rfl _ _ _) rfl ?_
          exact ⟨⟨_, rfl⟩, .inr hJx3⟩
      · have hi2 : lnI z < 0 := by omega
        obtain ⟨fn, tmps, assign, body, hy, hR⟩ := hY z wr 0 hp hJ hbx
        simp only [show lnLine z = z from if_neg hi, show lnRest z = ⟨#[]⟩ from if_neg hi, show ∀ X : World, X.drewN 0 = X from fun _ => rfl] at hy hR
        gi_wp2_with (refine ⟨trivial, ?_⟩; gi_at_call 51; refine (callsIn_wide.2 (hI _)).mono ?_; rintro e w' ⟨rfl, rfl⟩)
        refine hR.mono ?_
        rintro e W3 (⟨rfl, hJ3, hb3⟩ | ⟨rfl, hJx3⟩)
        · gi_wp2
          go_roundw
          case rel => exact ⟨_, by show 0 ≤ _; omega, hJ3, hb3⟩
          case measure => exact lnLeft_lt hb3 hbx (by show 0 < z.size; exact hp)
        · gi_wp2
          refine bodyPost_ret (results_none rfl _ _ _) rfl ?_
          exact ⟨⟨_, rfl⟩, .inr hJx3⟩
end
section
variable {P : Program}
/-- A range over strings.Lines: the body is walked once, over the text s that is left (its first line is the round's). -/
theorem lines_loop {n : Nat} (hn : 2 ≤ n) {g : Operand} {p : Tmp} {assign body : Code} {Q : Exit → Act → World → Prop} {a : Act} {w : World} (Bs : Nat) (s : ByteArray) (hs : s.size ≤ 4611686018427387904)
    (hg : a.eval g = .func (.func 50) #[] #[.pointer (some ⟨Bs, 0, none⟩)]) (hbox : w.heap[Bs]? = some (.cells #[.string s] 9 (0, 0)))
    (I : ByteArray → World → Prop) (Ix : World → Prop)
    (hI : ∀ z A B row, I z A → A.grownBy B row → (∀ k, row = some k → k = w.heap.size ∨ k = w.heap.size + 1 ∨ k = Bs) → I z B)
    (hId : ∀ z A m, I z A → I z (World.drewN A m))
    (hIx : ∀ A B row, Ix A → A.grownBy B row → (∀ k, row = some k → k = w.heap.size ∨ k = w.heap.size + 1 ∨ k = Bs) → Ix B)
    (h0 : I s w) (a₁ : ByteArray → Act)
    (hassign : ∀ (l : Nat) (x : ByteArray) (W : World) (K : Act → World → Prop), K (a₁ x) W → assign.wpIn (Fence.wide.inRound l) (n - 1 - 1) Tryd.prog (Exit.then K (fun _ _ _ => False)) { tmps := a.tmps.setIfInBounds p (.string x), defers := [] } W)
    (hbody : ∀ (z : ByteArray) (X : World) (r : Loop), 0 < z.size → z.size ≤ s.size → I z X → X.heap[w.heap.size + 1]? = some (.loop r) → X.heap[w.heap.size]? = some (.deferred (some [])) → X.heap[Bs]? = some (.cells #[.string (lnRest z)] 9 (0, 0)) →
      body.wpIn (Fence.wide.inRound (w.heap.size + 1)) (n - 1 - 1) Tryd.prog (fun e _ Y => (Y.heap[w.heap.size + 1]? = X.heap[w.heap.size + 1]? ∧ Y.heap[w.heap.size]? = X.heap[w.heap.size]? ∧ Y.heap[Bs]? = X.heap[Bs]?) ∧ ((e = .normal ∧ I (lnRest z) Y) ∨ (e = .ret ∧ Ix Y))) (a₁ (lnLine z)) X)
    (hdone : ∀ (z : ByteArray) (W : World), z.size = 0 → I z W → W.heap[w.heap.size]? = some (.deferred (some [])) → Q .normal { a with defers := { target := .collected w.heap.size, args := #[] } :: a.defers } W)
    (hstop : ∀ (W : World), Ix W → W.heap[w.heap.size]? = some (.deferred (some [])) → Q .ret { a with defers := { target := .collected w.heap.size, args := #[] } :: a.defers } W) :
    (Code.rangeFunc g #[p] assign body).wpIn Fence.wide n Tryd.prog Q a w := by
  refine wpIn_rangeFunc ?_
  intro fn hfn
  have hBlt : Bs < w.heap.size := blk_lt hbox
  obtain ⟨rec, hrec⟩ : ∃ rec : LoopState → Option Code → Loop, rec = fun st pe => { state := st, pending := pe, fn, tmps := a.tmps, params := #[p], assign, body, defers := w.heap.size } := ⟨_, rfl⟩
  obtain ⟨W1, hW1⟩ : ∃ W1, (w.alloc (.deferred (some []))).alloc (.loop (rec .ready none)) = W1 := ⟨_, rfl⟩
  have hL1 : W1.heap[w.heap.size + 1]? = some (.loop (rec .ready none)) := by
    rw [← hW1]; have := World.alloc_heap_new (w.alloc (.deferred (some []))) (.loop (rec .ready none)); rwa [World.size_alloc] at this
  have hK1 : W1.heap[w.heap.size]? = some (.deferred (some [])) := by
    rw [← hW1]; exact (Below.heap_alloc _ _ _ (by simp)).trans (World.alloc_heap_new w _)
  have hI1 : I s W1 := by
    rw [← hW1]
    exact hI _ _ _ none (hI _ _ _ none h0 (World.grownBy_alloc w _ none) (fun k e => by cases e)) (World.grownBy_alloc _ _ none) (fun k e => by cases e)
  have hB1 : W1.heap[Bs]? = some (.cells #[.string s] 9 (0, 0)) := by rw [← hW1]; exact blk_alloc (blk_alloc hbox _) _
  refine ⟨w.heap.size + 1, [{ target := .collected w.heap.size, args := #[] }], W1, { target := .fn (.func 50) #[.pointer (some ⟨Bs, 0, none⟩)], args := #[.func (.yield (w.heap.size + 1)) #[] #[]] }, W1, 50,
    #[.func (.yield (w.heap.size + 1)) #[] #[], .pointer (some ⟨Bs, 0, none⟩)], W1, ?_, ?_, ?_, ?_, fun _ => by omega, ?_⟩
  · rw [← hW1, hrec]; exact run_enterLoop_outer _ _ _ _ _
  · simp only [resolve, hg]
    simp [go_sem]
  · intro f' hf'; exact trivial
  · simp [invoke, go_sem, enters_of Tryd.func50 (by kernel_rfl) rfl]
  · refine (lines1_in (n - 1) (w.heap.size + 1) Bs (by omega)
      (fun z W => z.size ≤ s.size ∧ I z W ∧ W.heap[w.heap.size + 1]? = some (.loop (rec .ready none)) ∧ W.heap[w.heap.size]? = some (.deferred (some [])))
      (fun W => Ix W ∧ W.heap[w.heap.size + 1]? = some (.loop (rec .done (some .ret))) ∧ W.heap[w.heap.size]? = some (.deferred (some [])))
      ?_ s W1 hs ⟨Nat.le_refl _, hI1, hL1, hK1⟩ hB1).mono ?_
    · rintro z W m hz ⟨hzs, hi, hl, hk⟩ hb
      have hl2 : ((W.setCell ⟨Bs, 0, none⟩ (.string (lnRest z))).drewN m).heap[w.heap.size + 1]? = some (.loop (rec .ready none)) := (Below.heap_setCell W ⟨Bs, 0, none⟩ _ (w.heap.size + 1) (by show w.heap.size + 1 ≠ Bs; omega)).trans hl
      have hk2 : ((W.setCell ⟨Bs, 0, none⟩ (.string (lnRest z))).drewN m).heap[w.heap.size]? = some (.deferred (some [])) := (Below.heap_setCell W ⟨Bs, 0, none⟩ _ w.heap.size (by show w.heap.size ≠ Bs; omega)).trans hk
      have hb2 : ((W.setCell ⟨Bs, 0, none⟩ (.string (lnRest z))).drewN m).heap[Bs]? = some (.cells #[.string (lnRest z)] 9 (0, 0)) := blk_drewN (blk_put (cs := #[.string z]) hb 0 _ rfl) m
      have hi2 : I z ((W.setCell ⟨Bs, 0, none⟩ (.string (lnRest z))).drewN m) := hId _ _ _ (hI _ _ _ (some Bs) hi (grownBy_setCell' W Bs _) (fun k e => by cases e; exact .inr (.inr rfl)))
      generalize (W.setCell ⟨Bs, 0, none⟩ (.string (lnRest z))).drewN m = V at hl2 hk2 hb2 hi2
      have hy := run_yield (P := Tryd.prog) (args := #[.string (lnLine z)]) hl2 (by rw [hrec]; rfl)
      rw [hrec] at hy
      have hzip : ((#[p] : Array Tmp).zip #[Value.string (lnLine z)]).foldl (fun tmps (t, a) => tmps.setIfInBounds t a) a.tmps = a.tmps.setIfInBounds p (.string (lnLine z)) := by simp
      dsimp only at hy
      rw [hzip] at hy
      refine ⟨fn, _, assign, body, hy, roundIn_of_wpIn hfn (hassign (w.heap.size + 1) (lnLine z) V (fun a₂ w₁ => ∃ w₂, (Instr.beginRound (w.heap.size + 1)).run Tryd.prog w₁ = .ok () w₂ ∧ body.wpIn (Fence.wide.inRound (w.heap.size + 1)) (n - 1 - 1) Tryd.prog (roundPost Tryd.prog (w.heap.size + 1) _) a₂ w₂) ⟨_, run_beginRound hl2 (by rw [hrec]), ?_⟩)⟩
      have hlt : w.heap.size + 1 < V.heap.size := (Array.getElem?_eq_some_iff.1 hl2).1
      have hl3 : (V.putObj (w.heap.size + 1) (.loop { rec .ready none with state := .busy })).heap[w.heap.size + 1]? = some (.loop { rec .ready none with state := .busy }) := World.putObj_heap_same hlt
      have hk3 : (V.putObj (w.heap.size + 1) (.loop { rec .ready none with state := .busy })).heap[w.heap.size]? = some (.deferred (some [])) := (World.putObj_heap_other (by omega)).trans hk2
      have hb3 : (V.putObj (w.heap.size + 1) (.loop { rec .ready none with state := .busy })).heap[Bs]? = some (.cells #[.string (lnRest z)] 9 (0, 0)) := (World.putObj_heap_other (by omega)).trans hb2
      have hi3 : I z (V.putObj (w.heap.size + 1) (.loop { rec .ready none with state := .busy })) := hI _ _ _ (some (w.heap.size + 1)) hi2 (grownBy_putObj' _ _ _) (fun k e => by cases e; exact .inr (.inl rfl))
      refine wpIn_mono (hbody z _ _ hz hzs hi3 hl3 hk3 hb3) ?_
      rintro e a3 Y ⟨⟨s1, s2, s3⟩, hp⟩
      rw [hl3] at s1
      rw [hk3] at s2
      rw [hb3] at s3
      have hlt4 : w.heap.size + 1 < Y.heap.size := (Array.getElem?_eq_some_iff.1 s1).1
      have fin : ∀ (jump : Option Code), (Instr.endRound (w.heap.size + 1) jump).run Tryd.prog Y = .ok (.bool jump.isNone) (Y.putObj (w.heap.size + 1) (.loop (rec (if jump.isNone then .ready else .done) jump))) := fun jump => by
        have := run_endRound (P := Tryd.prog) jump s1
        rw [hrec] at this ⊢
        exact this
      rcases hp with ⟨rfl, hi4⟩ | ⟨rfl, hi4⟩
      · refine ⟨_, _, fin none, .inl ⟨rfl, ⟨?_, hI _ _ _ (some (w.heap.size + 1)) hi4 (grownBy_putObj' _ _ _) (fun k e => by cases e; exact .inr (.inl rfl)), World.putObj_heap_same hlt4, (World.putObj_heap_other (by omega)).trans s2⟩, (World.putObj_heap_other (by omega)).trans s3⟩⟩
        have := lnRest_lt z hz
        omega
      · exact ⟨_, _, fin (some .ret), .inr ⟨rfl, hIx _ _ (some (w.heap.size + 1)) hi4 (grownBy_putObj' _ _ _) (fun k e => by cases e; exact .inr (.inl rfl)), World.putObj_heap_same hlt4, (World.putObj_heap_other (by omega)).trans s2⟩⟩
    · rintro e W2 ⟨⟨v, rfl⟩, (⟨z, hz, _, hi, hl, hk⟩ | ⟨hi, hl, hk⟩)⟩
      · exact ⟨none, _, by have := run_endLoop (P := Tryd.prog) hl (by rw [hrec]; simp); rw [hrec] at this; exact this, hdone z _ hz (hI _ _ _ (some (w.heap.size + 1)) hi (grownBy_putObj' _ _ _) (fun k e => by cases e; exact .inr (.inl rfl))) ((World.putObj_heap_other (by omega)).trans hk)⟩
      · exact ⟨some .ret, _, by have := run_endLoop (P := Tryd.prog) hl (by rw [hrec]; simp); rw [hrec] at this; exact this, wpIn_ret (hstop _ (hIx _ _ (some (w.heap.size + 1)) hi (grownBy_putObj' _ _ _) (fun k e => by cases e; exact .inr (.inl rfl))) ((World.putObj_heap_other (by omega)).trans hk))⟩
end
theorem strings_Lines_calls (s : ByteArray) (w : World) : Calls Tryd.prog 29 #[.string s] w fun e w' => e = .returned (.func (.func 50) #[] #[.pointer (some ⟨w.heap.size, 0, none⟩)]) ∧ w' = w.alloc (.cells #[.string s] 9 (0, 0)) := by
  go_enter Tryd.func29, Tryd.ntmps29
  go_wp2
  go_ret
  exact ⟨rfl, rfl⟩
end Go.Proofs.YtdeipindfhkioaaDoorMine
