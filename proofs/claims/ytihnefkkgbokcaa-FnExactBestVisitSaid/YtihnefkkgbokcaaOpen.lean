
/- How the data of an argument, whatever its type of whole numbers, bools, strings, slices and structs, open to the kinds by which the printed functions read memory. -/
import Derived.Deep.Slices
import Derived.Deep.Fields
import Derived.ChangeSame
import Derived.SizedLaws
import Derived.ChangeSlices
import Derived.OpenShut
import Derived.ShutString
import Derived.Carry
import Derived.Test.YtihnefkkgbokcaaWWords
set_option linter.unusedVariables false
namespace Go.Proofs.Ytihnefkkgbokcaa.Open
open Go.RowKit Go.ChangeShapes Go.WideShapes Go.Deep Go.Proofs.YtihnefkkgbokcaaW.PrintWords

def Opens {α : Type} (P : Program) (d : Kd α) (t : TypeId) (ok : α → Prop) : Prop :=
 ∀ (H : Type) (enc : TypeId × Value → H) (w : World) (sp : Nat → Bool) (held : Bool) (fuel : Nat) (cs : List Value) (x : DataW H × List MemPlace),
  DataW.trod enc P w 0 sp held fuel t cs = some x → (∀ n ∈ x.1.weights P t, n ≤ reachBytes) → ∃ a : α, d.K w a cs ∧ ok a

theorem opens_int {P : Program} {k : IntKind} {t : TypeId} (ht : P.underlying t = some (.int k)) : Opens P (Kd.int k) t (fun n => (Lit.int k n).wf = true) := by
 intro H enc w sp held fuel cs x h _
 obtain ⟨n, rfl, rfl, hw⟩ := DataW.trod_int ht h
 exact ⟨n, rfl, hw⟩
theorem opens_iso {P : Program} {α β : Type} {d : Kd α} {t : TypeId} {ok : α → Prop} (f : β → α) (g : α → β) (hg : ∀ a, f (g a) = a) (h : Opens P d t ok) : Opens P (Kd.iso d f) t (fun x => ok (f x)) := by
 intro H enc w sp held fuel cs x hx hw
 obtain ⟨a, ha, hok⟩ := h H enc w sp held fuel cs x hx hw
 refine ⟨g a, ?_, ?_⟩
 ·show d.K w (f (g a)) cs
  rw [hg]; exact ha
 ·show ok (f (g a))
  rw [hg]; exact hok

theorem weightsAll_mem {H : Type} {P : Program} {e : TypeId} : ∀ {ds : List (DataW H)} {d : DataW H}, d ∈ ds → ∀ n ∈ d.weights P e, n ∈ DataW.weightsAll P e ds
 | d0 :: ds, d, hd, n, hn => by
  rcases List.mem_cons.1 hd with rfl | hd
  ·simp only [DataW.weightsAll, List.mem_append]; exact .inl hn
  ·simp only [DataW.weightsAll, List.mem_append]; exact .inr (weightsAll_mem hd n hn)

theorem choose_list {α : Type} {p : Nat → α → Prop} : ∀ (n : Nat), (∀ i, i < n → ∃ a, p i a) → ∃ xs : List α, xs.length = n ∧ ∀ i a, xs[i]? = some a → p i a
 | 0, _ => ⟨[], rfl, fun i a h => by simp at h⟩
 | n + 1, h => by
  obtain ⟨xs, hl, hx⟩ := choose_list n (fun i hi => h i (by omega))
  obtain ⟨a, ha⟩ := h n (by omega)
  refine ⟨xs ++ [a], by simp [hl], fun i b hb => ?_⟩
  by_cases hi : i < n
  ·rw [List.getElem?_append_left (by omega)] at hb
   exact hx i b hb
  ·have hlt : i < (xs ++ [a]).length := (List.getElem?_eq_some_iff.1 hb).1
   simp [hl] at hlt
   have : i = n := by omega
   subst this
   rw [List.getElem?_append_right (by omega), hl] at hb
   simp at hb
   subst hb
   exact ha

theorem opens_slice {P : Program} {α : Type} {d : Kd α} {t e : TypeId} {ok : α → Prop} (ht : P.underlying t = some (.slice e)) (hc : P.cellsOf e = d.sz) {B : Nat} (hB : P.bytesOf e = B) (he : Opens P d e ok) :
  Opens P (Kd.slice e d) t (fun xs => xs.length ≤ maxLen ∧ xs.length * B ≤ 140737488351232 ∧ ∀ x ∈ xs, ok x) := by
 intro H enc w sp held fuel cs x h hw
 rcases open_slice ht h with ⟨rfl, rfl⟩ | ⟨a, len, cap, m, n, D, Pl, rfl, hb, hl, hm, hmm, rfl, hi⟩
 ·exact ⟨[], ⟨none, 0, rfl, Nat.le_refl _, rfl, by simp, fun h => absurd h (by simp)⟩, by simp [maxLen], by simp, by simp⟩
 ·have hlm : len ≤ m := by rw [hmm]; split <;> omega
  have hwt := hw
  simp only [DataW.weights, ht, List.mem_cons, List.mem_append] at hwt
  have hbytes := hwt _ (.inl rfl)
  obtain ⟨xs, hxl, hxs⟩ := choose_list (p := fun i (b : α) => (∃ cs', w.cells? 0 (a.add (i * P.cellsOf e)) (P.cellsOf e) = some cs' ∧ d.K w b cs') ∧ ok b) len (fun i hil => by
   obtain ⟨cs', h1, h2⟩ := hi i (by omega)
   obtain ⟨b, hk, hok⟩ := he H enc w sp held n cs' _ h2 (fun z hz => hwt z (.inr (.inl (weightsAll_mem (d := D i) (List.mem_map.2 ⟨i, List.mem_range.2 hil, rfl⟩) z hz))))
   exact ⟨b, ⟨cs', h1, hk⟩, hok⟩)
  refine ⟨xs, ⟨some a, cap, by rw [hxl], by omega, ?_⟩, by omega, ?_, fun b hb => ?_⟩
  ·refine ⟨rfl, by unfold maxLen at hm; omega, fun h0 => ⟨a, rfl, fun j p hp => ?_⟩⟩
   obtain ⟨⟨cs', h1, hk⟩, _⟩ := hxs j p hp
   rw [hc] at h1
   obtain ⟨_, hlen, hcell⟩ := World.cells?_some h1
   refine ⟨cs', hlen, hk, fun i u hu => ?_⟩
   have hlt : i < cs'.length := (List.getElem?_eq_some_iff.1 hu).1
   have := hcell i (by omega)
   rw [← Go.Deep.add_add, this, hu]
  ·rw [List.length_map, List.length_range, List.length_map, List.length_range, hB] at hbytes
   rw [hxl]
   have : len * B ≤ (len + (m - len)) * B := Nat.mul_le_mul_right _ (by omega)
   exact Nat.le_trans this hbytes
  ·obtain ⟨j, hj⟩ := List.mem_iff_getElem?.1 hb
   exact (hxs j b hj).2

def OpensF {α : Type} (P : Program) (d : Kd α) (off : Nat) (fl : List Field) (ok : α → Prop) : Prop :=
 ∀ (H : Type) (enc : TypeId × Value → H) (w : World) (sp : Nat → Bool) (held : Bool) (n : Nat) (cs : List Value) (xs : List (DataW H × List MemPlace)),
  cs.length = off + d.sz → xs.length = fl.length → (∀ (i : Nat) (f : Field), fl[i]? = some f → DataW.trod enc P w 0 sp held n f.type ((cs.drop f.offset).take (P.cellsOf f.type)) = xs[i]?) →
  (∀ z ∈ DataW.weightsEach P (fl.map (·.type)) (xs.map (·.1)), z ≤ reachBytes) → ∃ a : α, d.K w a (cs.drop off) ∧ ok a

theorem opensF_last {P : Program} {α : Type} {d : Kd α} {off : Nat} {f : Field} {ok : α → Prop} (ho : f.offset = off) (hc : P.cellsOf f.type = d.sz) (h : Opens P d f.type ok) : OpensF P d off [f] ok := by
 intro H enc w sp held n cs xs hlen hxl hx hw
 match xs, hxl with
 | [x], _ =>
  have h0 := hx 0 f rfl
  rw [ho, hc, List.take_of_length_le (by simp; omega)] at h0
  exact h H enc w sp held n _ x h0 (fun z hz => hw z (by simp only [List.map_cons, List.map_nil, DataW.weightsEach, List.append_nil]; exact hz))

theorem opensF_cons {P : Program} {α β : Type} {d : Kd α} {d' : Kd β} {off : Nat} {f : Field} {fl : List Field} {ok : α → Prop} {ok' : β → Prop} (ho : f.offset = off) (hc : P.cellsOf f.type = d.sz) (h : Opens P d f.type ok)
  (h' : OpensF P d' (off + d.sz) fl ok') : OpensF P (Kd.pair d d') off (f :: fl) (fun x => ok x.1 ∧ ok' x.2) := by
 intro H enc w sp held n cs xs hlen hxl hx hw
 match xs, hxl with
 | x :: xs, hxl =>
  have h0 := hx 0 f rfl
  rw [ho, hc] at h0
  have hlen' : cs.length = off + (d.sz + d'.sz) := hlen
  obtain ⟨a, ha, hok⟩ := h H enc w sp held n _ x h0 (fun z hz => hw z (by simp only [List.map_cons, DataW.weightsEach, List.mem_append]; exact .inl hz))
  obtain ⟨b, hb, hok'⟩ := h' H enc w sp held n cs xs (by omega) (by simpa using hxl) (fun i g hg => hx (i + 1) g hg) (fun z hz => hw z (by simp only [List.map_cons, DataW.weightsEach, List.mem_append]; exact .inr hz))
  refine ⟨(a, b), ⟨(cs.drop off).take d.sz, cs.drop (off + d.sz), ?_, ha, hb⟩, hok, hok'⟩
  rw [← List.drop_drop, List.take_append_drop]

theorem opens_struct {P : Program} {α : Type} {d : Kd α} {t : TypeId} {fs : Array Field} {ok : α → Prop} (ht : P.underlying t = some (.struct fs)) (hc : P.cellsOf t = d.sz) (h : OpensF P d 0 fs.toList ok) : Opens P d t ok := by
 intro H enc w sp held fuel cs x hx hw
 obtain ⟨xs, n, rfl, rfl, hlen, hxl, hf⟩ := DataW.trod_struct ht hx
 have := h H enc w sp held n cs xs (by omega) (by simpa using hxl) (fun i f hi => hf i f (by simpa using hi)) (fun z hz => hw z (by simpa [DataW.weights, ht] using hz))
 simpa using this

theorem open_arg {P : Program} {α : Type} {d : Kd α} {t : TypeId} {ok : α → Prop} (ho : Opens P d t ok) {H : Type} {enc : TypeId × Value → H} {w : World} {sp : Nat → Bool} {held : Bool} {v : Value} {da : DataW H} {ps : List MemPlace}
  {ts : List TypeId} {ds : List (DataW H)} {j : Nat} (hsz : (DataW.weightsEach P ts ds).all (· ≤ reachBytes) = true) (ht : ts[j]? = some t) (hd : ds[j]? = some da)
  (h : DataW.Trod enc P w 0 sp held t v da ps) : ∃ a : α, d.K w a v.cells.toList ∧ ok a := by
 obtain ⟨fuel, hf⟩ := h
 exact ho H enc w sp held fuel _ _ hf (fun z hz => by
  have := List.all_eq_true.1 hsz _ (DataW.weights_mem_each ht hd z hz)
  simpa using this)
theorem trod_below {H : Type} {enc : TypeId × Value → H} {P : Program} {w : World} {base : Nat} {sp : Nat → Bool} {held : Bool} {t : TypeId} {v : Value} {d : DataW H} {ps : List MemPlace}
  (h : DataW.Trod enc P w base sp held t v d ps) : ∀ x ∈ ps, x.block < w.heap.size := by
 obtain ⟨m, hm⟩ := h
 exact DataW.trod_lt m _ _ _ hm
end Go.Proofs.Ytihnefkkgbokcaa.Open
