/- The copies, comparisons and sizes of a law's lists of lists of whole numbers. -/
import Derived.Test.YtdeipindfhkioaaQ1
import Derived.Test.YtdeipindfhkioaaQ2
import Derived.Test.YtdeipindfhkioaaPureToInt16
set_option linter.unusedVariables false
set_option linter.unusedSimpArgs false
namespace Go.Proofs.Ytdeipindfhkioaa.Pure
open Go.RowKit Go.Proofs.Ytdeipindfhkioaa.Q Go.Proofs.YtdeipindfhkioaaMine Go.Proofs.YtdeipindfhkioaaW.PrintWords
theorem toInt16SS (x : List (List Int)) (hx : x.length ≤ 2097152) (hy : ∀ y ∈ x, y.length ≤ 2097152) : Ev (fun k => laws_toInt16SS.f k x) x := by
 have e : ∀ k, laws_toInt16SS.f k x = laws_toInt16SS.l0 k x (List.replicate x.length []) 0 := by
  intro k
  unfold laws_toInt16SS.f
  rw [if_pos (by omega), if_pos (by omega), Int.toNat_natCast]
 refine Ev.congr e (Ev.eq ?_ (List.map_id x))
 refine fill_ev (fun k => laws_toInt16SS.l0 k x) id [] [] x (fun m y hm hl r hr => ?_) (fun y hl => ?_)
 ·refine Ev.step (f := fun k => (laws_toInt16S.f k (x.getD m [])).bind fun t => laws_toInt16SS.l0 k x (y.set m t) ((m + 1 : Nat) : Int)) (fun k => ?_) (Ev.bind (toInt16S _ (hy _ (get_mem [] hm).1)) hr)
  simp only [laws_toInt16SS.l0]
  rw [if_pos (by omega), if_pos (by omega), wrap_sm (by omega) (by omega)]
  unfold rd_L1
  simp only [Int.toNat_natCast, if_pos (show (m : Int) < (y.length : Int) by omega)]; rfl
 ·refine Ev.step (f := fun _ => some y) (fun k => ?_) (Ev.now _)
  simp only [laws_toInt16SS.l0]; rw [if_neg (by omega)]
theorem eqInt16SS (x : List (List Int)) (hx : x.length ≤ 2097152) (hy : ∀ y ∈ x, y.length ≤ 2097152) : Ev (fun k => laws_eqInt16SS.f k x x) true := by
 have e : ∀ k, laws_eqInt16SS.f k x x = laws_eqInt16SS.l0 k x x 0 := by
  intro k
  unfold laws_eqInt16SS.f
  rw [if_pos rfl]
 refine Ev.congr e (Ev.eq (all_ev (fun k i => laws_eqInt16SS.l0 k x x i) x [] (fun _ => true) false true (fun m hm h => by simp at h) (fun m hm _ r hr => ?_) (fun _ => ?_)) (by simp))
 ·refine Ev.step (f := fun k => (laws_eqInt16S.f k (x.getD m []) (x.getD m [])).bind fun t => if t = true then laws_eqInt16SS.l0 k x x ((m + 1 : Nat) : Int) else some false) (fun k => ?_) (Ev.bind (eqInt16S _ (hy _ (get_mem [] hm).1)) (by simpa using hr))
  simp only [laws_eqInt16SS.l0]
  rw [if_pos (by omega), if_pos (by omega), if_pos (by omega), wrap_sm (by omega) (by omega)]
  unfold rd_L1
  simp only [Int.toNat_natCast]; rfl
 ·refine Ev.step (f := fun _ => some true) (fun k => ?_) (Ev.now _)
  simp only [laws_eqInt16SS.l0]; rw [if_neg (by omega)]
/-- What is left of a number of places; less than none where there are too few. -/
theorem szInt16SS (x : List (List Int)) (hx : x.length ≤ 140737488351232) (hy : ∀ y ∈ x, y.length ≤ 140737488351232) (left : Int) (h0 : 0 ≤ left) (h1 : left ≤ 1048576) :
  ∃ r : Int, Ev (fun k => laws_szInt16SS.f k x left) r ∧ (r < 0 ∨ (0 ≤ r ∧ r ≤ left ∧ x.length ≤ 1048576 ∧ ∀ y ∈ x, y.length ≤ 1048576)) := by
 have hl : wrap64 (left - (x.length : Int)) = left - (x.length : Int) := sz_eq _ hx _ h0 h1
 by_cases h : left - (x.length : Int) < 0
 ·exact ⟨-1, Ev.val (fun k => by unfold laws_szInt16SS.f; rw [hl, if_pos h]), .inl (by omega)⟩
 ·suffices hh : ∀ (d m : Nat), m + d = x.length → ∀ l : Int, 0 ≤ l → l ≤ left → ∃ r : Int, Ev (fun k => laws_szInt16SS.l0 k x l (m : Int)) r ∧ (r < 0 ∨ (0 ≤ r ∧ r ≤ left ∧ ∀ y ∈ x.drop m, y.length ≤ 1048576)) by
   obtain ⟨r, h2, h3⟩ := hh x.length 0 (by omega) (left - (x.length : Int)) (by omega) (by omega)
   refine ⟨r, Ev.congr (fun k => by unfold laws_szInt16SS.f; rw [hl, if_neg h]; rfl) h2, ?_⟩
   rcases h3 with h3 | ⟨h3, h4, h5⟩
   ·exact .inl h3
   ·exact .inr ⟨h3, h4, by omega, h5⟩
  intro d
  induction d with
  | zero =>
   intro m hm l hl0 hl1
   refine ⟨l, Ev.step (f := fun _ => some l) (fun k => ?_) (Ev.now _), .inr ⟨hl0, hl1, ?_⟩⟩
   ·simp only [laws_szInt16SS.l0]; rw [if_neg (by omega)]
   ·rw [List.drop_eq_nil_of_le (by omega)]; simp
  | succ d ih =>
   intro m hm l hl0 hl1
   have hmem := (get_mem ([] : List Int) (show m < x.length by omega)).1
   have hsz := szInt16S (x.getD m []) (hy _ hmem) l hl0 (by omega)
   by_cases hneg : l - ((x.getD m []).length : Int) < 0
   ·refine ⟨-1, Ev.step (f := fun _ => some (-1)) (fun k => ?_) (Ev.now _), .inl (by omega)⟩
    simp only [laws_szInt16SS.l0]
    rw [if_pos (by omega), if_pos (by omega)]
    unfold rd_L1
    rw [Int.toNat_natCast, hsz, if_pos hneg]; rfl
   ·obtain ⟨r, h2, h3⟩ := ih (m + 1) (by omega) (l - ((x.getD m []).length : Int)) (by omega) (by omega)
    refine ⟨r, Ev.step (f := fun k => laws_szInt16SS.l0 k x (l - ((x.getD m []).length : Int)) ((m + 1 : Nat) : Int)) (fun k => ?_) h2, ?_⟩
    ·simp only [laws_szInt16SS.l0]
     rw [if_pos (by omega), if_pos (by omega), wrap_sm (i := (m : Int) + 1) (by omega) (by omega)]
     unfold rd_L1
     rw [Int.toNat_natCast, hsz, if_neg hneg, Option.bind_some, if_neg hneg]; rfl
    ·rcases h3 with h3 | ⟨h3, h4, h5⟩
     ·exact .inl h3
     ·refine .inr ⟨h3, h4, ?_⟩
      rw [drop_step ([] : List Int) (by omega)]
      intro y hy'
      rcases List.mem_cons.1 hy' with rfl | hy'
      ·omega
      ·exact h5 y hy'
end Go.Proofs.Ytdeipindfhkioaa.Pure
