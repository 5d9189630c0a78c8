/- The copies, comparisons and sizes of a law's list of tables. -/
import Derived.Test.YtdeipindfhkioaaQ1
import Derived.Test.YtdeipindfhkioaaQ4
import Derived.Test.YtdeipindfhkioaaQ6
import Derived.Test.YtdeipindfhkioaaPureToTable
set_option linter.unusedVariables false
set_option linter.unusedSimpArgs false
namespace Go.Proofs.Ytdeipindfhkioaa.Pure
open Go.RowKit Go.Proofs.Ytdeipindfhkioaa.Q Go.Proofs.YtdeipindfhkioaaMine Go.Proofs.YtdeipindfhkioaaW.PrintWords
def cvT (x : S33) : S38 := ⟨x.f0, x.f1⟩
def wfTs (l : List (S38)) : Prop := l.length ≤ 2097152 ∧ ∀ x ∈ l, wfTable x.f0 x.f1
theorem toTableS (x : List (S33)) (hx : x.length ≤ 2097152) (hy : ∀ y ∈ x, wfTable y.f0 y.f1) : Ev (fun k => laws_toTableS.f k x) (x.map cvT) := by
  have e : ∀ k, laws_toTableS.f k x = laws_toTableS.l0 k x (List.replicate x.length z38) 0 := by
    intro k
    unfold laws_toTableS.f
    rw [if_pos (by omega), if_pos (by omega), Int.toNat_natCast]
  refine Ev.congr e ?_
  refine fill_ev (fun k => laws_toTableS.l0 k x) cvT z33 z38 x (fun m y hm hl r hr => ?_) (fun y hl => ?_)
  · refine Ev.step (f := fun k => (laws_toTable.f k (x.getD m z33).f0 (x.getD m z33).f1).bind fun t => laws_toTableS.l0 k x (y.set m ⟨t.1, t.2⟩) ((m + 1 : Nat) : Int)) (fun k => ?_) (Ev.bind (toTable (hy _ (get_mem z33 hm).1)) hr)
    simp only [laws_toTableS.l0]
    rw [if_pos (by omega), if_pos (by omega), wrap_sm (by omega) (by omega)]
    unfold rd_T33
    simp only [Int.toNat_natCast, if_pos (show (m : Int) < (y.length : Int) by omega)]; rfl
  · refine Ev.step (f := fun _ => some y) (fun k => ?_) (Ev.now _)
    simp only [laws_toTableS.l0]; rw [if_neg (by omega)]
theorem eqTableS (x : List (S38)) (hx : x.length ≤ 2097152) (hy : ∀ y ∈ x, wfTable y.f0 y.f1) : Ev (fun k => laws_eqTableS.f k x x) true := by
  have e : ∀ k, laws_eqTableS.f k x x = laws_eqTableS.l0 k x x 0 := by
    intro k
    unfold laws_eqTableS.f
    rw [if_pos rfl]
  refine Ev.congr e (Ev.eq (all_ev (fun k i => laws_eqTableS.l0 k x x i) x z38 (fun _ => true) false true (fun m hm h => by simp at h) (fun m hm _ r hr => ?_) (fun _ => ?_)) (by simp))
  · refine Ev.step (f := fun k => (laws_eqTable.f k (x.getD m z38).f0 (x.getD m z38).f1 (x.getD m z38).f0 (x.getD m z38).f1).bind fun t => if t = true then laws_eqTableS.l0 k x x ((m + 1 : Nat) : Int) else some false) (fun k => ?_) (Ev.bind (eqTable (hy _ (get_mem z38 hm).1)) (by simpa using hr))
    simp only [laws_eqTableS.l0]
    rw [if_pos (by omega), if_pos (by omega), if_pos (by omega), wrap_sm (by omega) (by omega)]
    unfold rd_T38
    simp only [Int.toNat_natCast]; rfl
  · refine Ev.step (f := fun _ => some true) (fun k => ?_) (Ev.now _)
    simp only [laws_eqTableS.l0]; rw [if_neg (by omega)]
def smT (y : S33) : Prop := y.f0.length ≤ 1048576 ∧ y.f1.length ≤ 1048576 ∧ ∀ z ∈ y.f1, z.length ≤ 1048576
theorem szTableS (x : List (S33)) (hx : x.length ≤ 140737488351232) (hy : ∀ y ∈ x, y.f0.length ≤ 140737488351232 ∧ y.f1.length ≤ 140737488351232 ∧ ∀ z ∈ y.f1, z.length ≤ 140737488351232) (left : Int) (h0 : 0 ≤ left) (h1 : left ≤ 1048576) :
    ∃ r : Int, Ev (fun k => laws_szTableS.f k x left) r ∧ (r < 0 ∨ (0 ≤ r ∧ r ≤ left ∧ x.length ≤ 1048576 ∧ ∀ y ∈ x, smT y)) := by
  have hl : wrap64 (left - (x.length : Int)) = left - (x.length : Int) := sz_eq _ hx _ h0 h1
  by_cases h : left - (x.length : Int) < 0
  · exact ⟨-1, Ev.val (fun k => by unfold laws_szTableS.f; rw [hl, if_pos h]), .inl (by omega)⟩
  · suffices hh : ∀ (d m : Nat), m + d = x.length → ∀ l : Int, 0 ≤ l → l ≤ left → ∃ r : Int, Ev (fun k => laws_szTableS.l0 k x l (m : Int)) r ∧ (r < 0 ∨ (0 ≤ r ∧ r ≤ left ∧ ∀ y ∈ x.drop m, smT y)) by
      obtain ⟨r, h2, h3⟩ := hh x.length 0 (by omega) (left - (x.length : Int)) (by omega) (by omega)
      refine ⟨r, Ev.congr (fun k => by unfold laws_szTableS.f; rw [hl, if_neg h]; rfl) h2, ?_⟩
      rcases h3 with h3 | ⟨h3, h4, h5⟩
      · exact .inl h3
      · exact .inr ⟨h3, h4, by omega, h5⟩
    intro d
    induction d with
    | zero =>
      intro m hm l hl0 hl1
      refine ⟨l, Ev.step (f := fun _ => some l) (fun k => ?_) (Ev.now _), .inr ⟨hl0, hl1, ?_⟩⟩
      · simp only [laws_szTableS.l0]; rw [if_neg (by omega)]
      · rw [List.drop_eq_nil_of_le (by omega)]; simp
    | succ d ih =>
      intro m hm l hl0 hl1
      have hmem := (get_mem z33 (show m < x.length by omega)).1
      obtain ⟨r1, hr1, hd1⟩ := szTable (x.getD m z33).f0 (x.getD m z33).f1 (hy _ hmem).1 (hy _ hmem).2.1 (hy _ hmem).2.2 l hl0 (by omega)
      have hstep : ∀ k, laws_szTableS.l0 (k + 1) x l (m : Int) = (laws_szTable.f k (x.getD m z33).f0 (x.getD m z33).f1 l).bind fun t => if t < 0 then some (-1) else laws_szTableS.l0 k x t ((m + 1 : Nat) : Int) := by
        intro k
        simp only [laws_szTableS.l0]
        rw [if_pos (by omega), if_pos (by omega), wrap_sm (i := (m : Int) + 1) (by omega) (by omega)]
        unfold rd_T33
        rw [Int.toNat_natCast]; rfl
      by_cases hneg : r1 < 0
      · refine ⟨-1, Ev.step hstep (Ev.bind hr1 ?_), .inl (by omega)⟩
        simp only [if_pos hneg]; exact Ev.now _
      · obtain ⟨a1, a2, a3, a4, a5⟩ := hd1.resolve_left hneg
        obtain ⟨r, h2, h3⟩ := ih (m + 1) (by omega) r1 a1 (by omega)
        refine ⟨r, Ev.step hstep (Ev.bind hr1 ?_), ?_⟩
        · simp only [if_neg hneg]; exact h2
        · rcases h3 with h3 | ⟨h3, h4, h5⟩
          · exact .inl h3
          · refine .inr ⟨h3, h4, fun y hy2 => ?_⟩
            rw [drop_step z33 (show m < x.length by omega)] at hy2
            rcases List.mem_cons.1 hy2 with rfl | hy2
            · exact ⟨a3, a4, a5⟩
            · exact h5 y hy2
end Go.Proofs.Ytdeipindfhkioaa.Pure
