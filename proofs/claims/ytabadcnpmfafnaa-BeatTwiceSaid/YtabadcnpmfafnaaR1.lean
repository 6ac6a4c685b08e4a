/- Part R1 of the proofs of these statements. No condition. -/
import Derived.Test.YtabadcnpmfafnaaB12
set_option linter.unusedVariables false
set_option linter.unusedSimpArgs false
namespace Go.Proofs.Ytabadcnpmfafnaa
open Go Go.RowKit J

set_option maxRecDepth 20000 in
set_option maxHeartbeats 4000000 in
theorem rightpeer_any (now a b c d : Int) (w : World) (hn0 : 0 ≤ now) (hn : now ≤ 1099511627776) (hb : I64 b) :
    Calls Try.prog 42 #[.int .i64 now, .agg #[.int .i64 a, .int .i64 b, .int .i64 c, .int .i64 d]] w fun e w' => e = .returned (.bool (rightB now ⟨a, b, c, d⟩)) ∧ Ext w w' := by
  unfold I64 at hb
  go_enter Try.func42, Try.ntmps42
  go_wp2
  all_goals
    go_ret
    refine ⟨ret_bool (Bool.eq_iff_iff.2 ?_), by repeat (first | exact Ext.refl _ | assumption | apply Ext.alloc | apply Ext.drewN | apply Ext.drew)⟩
    rw [rightB_iff]
    simp only [beq_iff_eq, beq_eq_false_iff_ne, Bool.and_eq_true, Bool.or_eq_true, decide_eq_true_eq, Bool.not_eq_eq_eq_not, Bool.not_true, Bool.not_false, decide_eq_false_iff_not, RightP] at *
    try simp only [true_iff, false_iff, Bool.false_eq_true]
    first | omega | (simp; omega)
end Go.Proofs.Ytabadcnpmfafnaa
