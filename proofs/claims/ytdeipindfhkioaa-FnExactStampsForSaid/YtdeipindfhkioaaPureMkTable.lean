/- A law's marks in a table: that they come to an end. -/
import Derived.Test.YtdeipindfhkioaaQ2
import Derived.Test.YtdeipindfhkioaaPureToTable
import Derived.Test.YtdeipindfhkioaaPureMkInt64
set_option linter.unusedVariables false
set_option linter.unusedSimpArgs false
namespace Go.Proofs.Ytdeipindfhkioaa.Pure
open Go.RowKit Go.Proofs.Ytdeipindfhkioaa.Q Go.Proofs.YtdeipindfhkioaaMine Go.Proofs.YtdeipindfhkioaaW.PrintWords
theorem markAny16 (x : List Int) (hx : x.length ≤ 2097152) (a : Int) (h0 : 0 ≤ a) (h1 : a ≤ 1000000000000000) : ∃ y, Ev (fun k => laws_markInt16S.f k x a) (a + (x.length : Int), y) := by
 unfold laws_markInt16S.f
 suffices hh : ∀ (d m : Nat), m + d = x.length → ∀ (y : List Int) (c : Int), y.length = x.length → 0 ≤ c → c ≤ 1000000000000000 + (m : Int) → ∃ z, Ev (fun k => laws_markInt16S.l0 k y c (m : Int)) (c + (d : Int), z) from hh x.length 0 (by omega) x a rfl h0 (by omega)
 intro d
 induction d with
 | zero =>
  intro m hm y c hy hc hc1
  exact ⟨y, Ev.step (f := fun _ => some (c, y)) (fun k => by simp only [laws_markInt16S.l0]; rw [if_neg (by omega)]) (Ev.eq (Ev.now _) (by simp))⟩
 | succ d ih =>
  intro m hm y c hy hc hc1
  obtain ⟨z, h⟩ := ih (m + 1) (by omega) (y.set (m : Int).toNat (IntKind.i16.wrap c)) (c + 1) (by rw [List.length_set]; exact hy) (by omega) (by omega)
  refine ⟨z, Ev.step (fun k => ?_) (Ev.eq h (by congr 1; omega))⟩
  simp only [laws_markInt16S.l0]
  rw [if_pos (by omega), if_pos (by omega), wrap_sm (i := (m : Int) + 1) (by omega) (by omega), wrap_sm (i := c + 1) (by omega) (by omega)]; rfl
theorem markAny64 (x : List Int) (hx : x.length ≤ 2097152) (a : Int) (h0 : 0 ≤ a) (h1 : a ≤ 1000000000000000) : ∃ y, Ev (fun k => laws_markInt64S.f k x a) (a + (x.length : Int), y) := by
 unfold laws_markInt64S.f
 suffices hh : ∀ (d m : Nat), m + d = x.length → ∀ (y : List Int) (c : Int), y.length = x.length → 0 ≤ c → c ≤ 1000000000000000 + (m : Int) → ∃ z, Ev (fun k => laws_markInt64S.l0 k y c (m : Int)) (c + (d : Int), z) from hh x.length 0 (by omega) x a rfl h0 (by omega)
 intro d
 induction d with
 | zero =>
  intro m hm y c hy hc hc1
  exact ⟨y, Ev.step (f := fun _ => some (c, y)) (fun k => by simp only [laws_markInt64S.l0]; rw [if_neg (by omega)]) (Ev.eq (Ev.now _) (by simp))⟩
 | succ d ih =>
  intro m hm y c hy hc hc1
  obtain ⟨z, h⟩ := ih (m + 1) (by omega) (y.set (m : Int).toNat c) (c + 1) (by rw [List.length_set]; exact hy) (by omega) (by omega)
  refine ⟨z, Ev.step (fun k => ?_) (Ev.eq h (by congr 1; omega))⟩
  simp only [laws_markInt64S.l0]
  rw [if_pos (by omega), if_pos (by omega), wrap_sm (i := (m : Int) + 1) (by omega) (by omega), wrap_sm (i := c + 1) (by omega) (by omega)]; rfl
theorem markAny16S (x : List (List Int)) (hx : x.length ≤ 2097152) (hy : ∀ y ∈ x, y.length ≤ 2097152) (a : Int) (h0 : 0 ≤ a) (h1 : a ≤ 3000000) : ∃ r y, Ev (fun k => laws_markInt16SS.f k x a) (r, y) ∧ 0 ≤ r ∧ r ≤ 100000000000000 := by
 unfold laws_markInt16SS.f
 suffices hh : ∀ (d m : Nat), m + d = x.length → ∀ (y : List (List Int)) (c : Int), y.length = x.length → (∀ j, m ≤ j → y[j]? = x[j]?) → 0 ≤ c → c ≤ 3000000 + 2097152 * (m : Int) → ∃ r z, Ev (fun k => laws_markInt16SS.l0 k y c (m : Int)) (r, z) ∧ 0 ≤ r ∧ r ≤ 100000000000000 from hh x.length 0 (by omega) x a rfl (fun _ _ => rfl) h0 (by omega)
 intro d
 induction d with
 | zero =>
  intro m hm y c hyl hyj hc hc1
  exact ⟨c, y, Ev.step (f := fun _ => some (c, y)) (fun k => by simp only [laws_markInt16SS.l0]; rw [if_neg (by omega)]) (Ev.now _), hc, by omega⟩
 | succ d ih =>
  intro m hm y c hyl hyj hc hc1
  have hg : y.getD m [] = x.getD m [] := by rw [List.getD_eq_getElem?_getD, List.getD_eq_getElem?_getD, hyj m (Nat.le_refl _)]
  have hl := hy _ (get_mem ([] : List Int) (show m < x.length by omega)).1
  rw [← hg] at hl
  obtain ⟨z1, h1'⟩ := markAny16 (y.getD m []) hl c hc (by omega)
  obtain ⟨r, z, h, h2⟩ := ih (m + 1) (by omega) (y.set m z1) (c + ((y.getD m []).length : Int)) (by rw [List.length_set]; exact hyl) (fun j hj => by rw [List.getElem?_set_ne (by omega)]; exact hyj j (by omega)) (by omega) (by omega)
  refine ⟨r, z, Ev.step (f := fun k => (laws_markInt16S.f k (y.getD m []) c).bind fun bt => laws_markInt16SS.l0 k (y.set m bt.2) bt.1 ((m + 1 : Nat) : Int)) (fun k => ?_) (Ev.bind h1' h), h2⟩
  simp only [laws_markInt16SS.l0]
  rw [if_pos (by omega), if_pos (by omega), wrap_sm (i := (m : Int) + 1) (by omega) (by omega), Int.toNat_natCast]; rfl
theorem markTable {st : List Int} {pr : List (List Int)} (h : wfTable st pr) : ∃ (r : Int) (y : List Int) (z : List (List Int)), Ev (fun k => laws_markTable.f k st pr 1) (r, y, z) ∧ 0 ≤ r ∧ r ≤ 100000000000000 := by
 obtain ⟨h1, h2, h3, _⟩ := h
 obtain ⟨y, hy⟩ := markAny16 st h1 1 (by omega) (by omega)
 obtain ⟨r, z, hz, h4⟩ := markAny16S pr h2 h3 (1 + (st.length : Int)) (by omega) (by omega)
 exact ⟨r, y, z, by unfold laws_markTable.f; exact Ev.bind hy (Ev.bind hz (Ev.now _)), h4⟩
end Go.Proofs.Ytdeipindfhkioaa.Pure
