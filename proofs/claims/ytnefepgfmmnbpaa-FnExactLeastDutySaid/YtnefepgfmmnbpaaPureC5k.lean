/- The duty of a line. -/
import Derived.Test.YtnefepgfmmnbpaaQ2
import Derived.Test.YtnefepgfmmnbpaaQ4
import Derived.Test.YtnefepgfmmnbpaaPureC5a
import Derived.Test.YtnefepgfmmnbpaaPureC5r
set_option linter.unusedVariables false
set_option linter.unusedSimpArgs false
namespace Go.Proofs.Ytnefepgfmmnbpaa.Pure
open Go.RowKit Go.Proofs.Ytnefepgfmmnbpaa.Q Go.Proofs.YtnefepgfmmnbpaaMine Go.Proofs.YtnefepgfmmnbpaaW.PrintWords Go.Proofs.YtnefepgfmmnbpaaW.PrintMore
/-- The duty of a line. -/
def chg (c : S56) (v g how : Int) : Int := mx (rsh (v * c.f0) c.f1 how + c.f2 * g) c.f3
theorem gram_bd {a g : Int} (ha : 0 ≤ a) (ha' : a ≤ 100) (hg : 0 ≤ g) (hg' : g ≤ 1000000000) : 0 ≤ a * g ∧ a * g ≤ 100000000000 := by
 refine ⟨Int.mul_nonneg ha hg, ?_⟩
 have h1 : a * g ≤ 100 * g := Int.mul_le_mul_of_nonneg_right ha' hg
 omega
theorem specChg {c : S56} (h : okC c = true) {v g how : Int} (v0 : 0 ≤ v) (v1 : v ≤ 1000000000) (g0 : 0 ≤ g) (g1 : g ≤ 1000000000) : spec_l05Charge.f c.f0 c.f1 c.f2 c.f3 v g how = some (chg c v g how) := by
 obtain ⟨⟨a1, a2⟩, ⟨b1, b2⟩, ⟨c1, c2⟩, d1, d2⟩ := okC_bd h
 have hb : RB v c.f0 c.f1 := RB.mk' v0 v1 b1 (by omega) a1 a2
 have hr := rsh_bd (how := how) hb.h.1.1 hb.h.1.2 a1
 have hg := gram_bd c1 c2 g0 g1
 unfold spec_l05Charge.f spec_l00Max.f chg
 rw [wrap_id (i := c.f0) (by omega) (by omega), wrap_id (i := c.f1) (by omega) (by omega), wrap_id (i := c.f2) (by omega) (by omega), wrap_id (i := c.f3) (by omega) (by omega), specRound hb, Option.bind_some,
  wrap_id (i := c.f2 * g) (by omega) (by omega), wrap_id (i := rsh (v * c.f0) c.f1 how + c.f2 * g) (by omega) (by omega)]
 unfold mx
 split
 ·rw [if_neg (by omega)]; rfl
 ·split
  ·rfl
  ·rw [show c.f3 = rsh (v * c.f0) c.f1 how + c.f2 * g by omega]; rfl
theorem implChg {c : S56} (h : okC c = true) {v g how : Int} (v0 : 0 ≤ v) (v1 : v ≤ 1000000000) (g0 : 0 ≤ g) (g1 : g ≤ 1000000000) (h0 : 0 ≤ how) (h3 : how ≤ 3) : Ev (fun k => impl_Class_duty.f k c.f0 c.f1 c.f2 c.f3 v g how) (chg c v g how) := by
 obtain ⟨⟨a1, a2⟩, ⟨b1, b2⟩, ⟨c1, c2⟩, d1, d2⟩ := okC_bd h
 have hb : RB v c.f0 c.f1 := RB.mk' v0 v1 b1 (by omega) a1 a2
 have hr := rsh_bd (how := how) hb.h.1.1 hb.h.1.2 a1
 have hg := gram_bd c1 c2 g0 g1
 unfold impl_Class_duty.f chg
 rw [wrap_id (i := c.f0) (by omega) (by omega), wrap_id (i := c.f1) (by omega) (by omega), wrap_id (i := c.f2) (by omega) (by omega), wrap_id (i := c.f3) (by omega) (by omega)]
 refine Ev.bind (implRound hb h0 h3) ?_
 rw [wrap_id (i := c.f2 * g) (by omega) (by omega), wrap_id (i := rsh (v * c.f0) c.f1 how + c.f2 * g) (by omega) (by omega)]
 exact Ev.now _
theorem chg_bd {c : S56} (h : okC c = true) {v g how : Int} (v0 : 0 ≤ v) (v1 : v ≤ 1000000000) (g0 : 0 ≤ g) (g1 : g ≤ 1000000000) : 0 ≤ chg c v g how ∧ chg c v g how ≤ 2000000000000 := by
 obtain ⟨⟨a1, a2⟩, ⟨b1, b2⟩, ⟨c1, c2⟩, d1, d2⟩ := okC_bd h
 have hb : RB v c.f0 c.f1 := RB.mk' v0 v1 b1 (by omega) a1 a2
 have hr := rsh_bd (how := how) hb.h.1.1 hb.h.1.2 a1
 have hg := gram_bd c1 c2 g0 g1
 unfold chg mx
 split <;> omega
end Go.Proofs.Ytnefepgfmmnbpaa.Pure
