/- Maps keyed by whole numbers that a call makes: what has been stored, as a list; what a look-up tells. -/
import Derived.Maps.OwnOps
import Derived.Maps.Views
import Derived.Maps.OwnSet
import Derived.DeepKeys4
import Derived.Test.YtihnefkkgbokcaaMine
set_option linter.unusedVariables false
namespace Go.Proofs.YtihnefkkgbokcaaMine
open Go.RowKit Go.Maps Go.Proofs.YtihnefkkgbokcaaW.PrintWords
/-- What has been stored, the latest last. -/
def bagD (log : List (Int × Int)) : DataW Unit := log.foldl (fun m p => m.put (.int .i64 p.1) (.lit (.int .i64 p.2))) (.map [])
theorem bagD_snoc (log : List (Int × Int)) (p : Int × Int) : bagD (log ++ [p]) = (bagD log).put (.int .i64 p.1) (.lit (.int .i64 p.2)) := by simp [bagD, List.foldl_append]
def lk (log : List (Int × Int)) (k : Int) : Int := log.foldl (fun v p => if p.1 = k then p.2 else v) 0
theorem lk_snoc (log : List (Int × Int)) (p : Int × Int) (k : Int) : lk (log ++ [p]) k = if p.1 = k then p.2 else lk log k := by simp [lk, List.foldl_append]
theorem bagD_isMap (log : List (Int × Int)) : IsMap (bagD log) := by
  unfold bagD
  suffices hh : ∀ (l : List (Int × Int)) (D : DataW Unit), IsMap D → IsMap (l.foldl (fun m p => m.put (.int .i64 p.1) (.lit (.int .i64 p.2))) D) from hh log _ isMap_empty
  intro l
  induction l with
  | nil => intro D h; exact h
  | cons p ps ih => intro D h; exact ih _ (h.put _ _)
theorem bagD_at (log : List (Int × Int)) (k : Int) : (bagD log).atKey (.int .i64 k) (.lit (.int .i64 0)) = .lit (.int .i64 (lk log k)) := by
  suffices hh : ∀ (n : Nat) (log : List (Int × Int)), log.length = n → (bagD log).atKey (.int .i64 k) (.lit (.int .i64 0)) = .lit (.int .i64 (lk log k)) from hh _ log rfl
  intro n
  induction n with
  | zero =>
    intro log hl
    obtain rfl : log = [] := List.length_eq_zero_iff.1 hl
    rfl
  | succ n ih =>
    intro log hl
    obtain ⟨l, p, rfl⟩ : ∃ l p, log = l ++ [p] := by
      have hne : log ≠ [] := fun h => by rw [h] at hl; simp at hl
      exact ⟨log.dropLast, log.getLast hne, (List.dropLast_concat_getLast hne).symm⟩
    have h := ih l (by simp at hl; exact hl)
    rw [bagD_snoc, lk_snoc]
    by_cases e : p.1 = k
    · rw [if_pos e, e, atKey_put_same (bagD_isMap l) (show WideAt.IsKeyLit (.int .i64 k) from trivial)]
    · rw [if_neg e, atKey_put_other (by intro h2; injection h2 with _ h2; exact e h2.symm), h]
/-- A map of the call's own, and what has been stored into it. -/
def MR (P : Program) (K E : TypeId) (w : World) (base : Nat) (v : Value) (log : List (Int × Int)) : Prop := ∃ b, v = .map (some b) ∧ base ≤ b ∧ w.ownsMap P K (plainElem (H := Unit) P E) b log.length (bagD log)
theorem OM_below {P : Program} {K : TypeId} {R : Value → Option (DataW Unit × List MemPlace)} {b n : Nat} {D : DataW Unit} {w w1 : World} (h : w.ownsMap P K R b n D) (hb : Below w.heap.size w w1) : w1.ownsMap P K R b n D := h.kept (grown_of_below hb none) (by simp)
theorem MR.below {P : Program} {K E : TypeId} {w w1 : World} {base : Nat} {v : Value} {log : List (Int × Int)} (h : MR P K E w base v log) (hb : Below w.heap.size w w1) : MR P K E w1 base v log := by
  obtain ⟨b, h1, h2, h3⟩ := h
  exact ⟨b, h1, h2, OM_below h3 hb⟩
theorem MR.lower {P : Program} {K E : TypeId} {w : World} {base base' : Nat} {v : Value} {log : List (Int × Int)} (h : MR P K E w base v log) (hb : base' ≤ base) : MR P K E w base' v log := by
  obtain ⟨b, h1, h2, h3⟩ := h
  exact ⟨b, h1, by omega, h3⟩
/-- A row of cells beside a map that has been written. -/
theorem R_map {α : Type} {d : Kd α} {e : Nat} {w w1 : World} {base : Nat} {ok : Nat → Prop} {v : Value} {xs : List α} (h : d.R e w base ok v xs) {P : Program} {K : TypeId} {R : Value → Option (DataW Unit × List MemPlace)} {b n : Nat} {D : DataW Unit} (hm : w.ownsMap P K R b n D) (hg : w.grownBy w1 (some b)) : d.R e w1 base ok v xs := by
  refine Kd.R_mono (Kd.R_grown (Kd.R_bound h) hg (fun k hk => ?_)) (fun _ hk => hk.1)
  obtain ⟨_, _, _, q, _, cells, hc⟩ := hk
  intro he
  injection he with he
  subst he
  obtain ⟨es, cl, hb, _⟩ := hm
  rw [hc] at hb
  cases hb
/-- A map beside a row that has been written (its block is one of cells, or none). -/
theorem OM_row {α : Type} {d : Kd α} {e : Nat} {w w1 : World} {base : Nat} {ok : Nat → Prop} {v : Value} {xs : List α} (h : d.R e w base ok v xs) {P : Program} {K : TypeId} {R : Value → Option (DataW Unit × List MemPlace)} {b n : Nat} {D : DataW Unit} (hm : w.ownsMap P K R b n D) (hg : w.grownBy w1 v.ownBlock) : w1.ownsMap P K R b n D := by
  refine hm.kept hg (fun he => ?_)
  obtain ⟨cells, hc⟩ := Kd.R_typed h b he.symm
  obtain ⟨es, cl, hb, _⟩ := hm
  rw [hc] at hb
  cases hb
/-- A map beside a block of cells that is written. -/
theorem OM_set {w : World} {P : Program} {K : TypeId} {R : Value → Option (DataW Unit × List MemPlace)} {b n : Nat} {D : DataW Unit} (h : w.ownsMap P K R b n D) {g t : Nat} {cs : Array Value} (hb : w.heap[g]? = some (.cells cs t (0, 0))) (j : Nat) (u : Value) : (w.setCell ⟨g, j, none⟩ u).ownsMap P K R b n D := by
  obtain ⟨es, cl, h1, h2⟩ := h
  refine ⟨es, cl, (Below.heap_setCell w ⟨g, j, none⟩ u b (fun e => ?_)).trans h1, h2⟩
  have e' : b = g := e
  subst e'
  rw [h1] at hb
  cases hb
end Go.Proofs.YtihnefkkgbokcaaMine
