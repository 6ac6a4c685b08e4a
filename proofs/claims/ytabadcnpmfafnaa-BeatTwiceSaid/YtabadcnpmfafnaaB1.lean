/- Part B1 of the proofs of these statements. No condition. -/
import Derived.Test.YtabadcnpmfafnaaProg
import Derived.Test.YtabadcnpmfafnaaBS
import Derived.Test.YtabadcnpmfafnaaQx
import Derived.WalkKit
import Derived.WalkLawsBesides
import Derived.KernelRfl
import Derived.Outline
import Derived.BigQuiet
import Derived.BigRegion
import Derived.RegionTactic
import Derived.Deep.QuietTactic
import Derived.OwnWalkIn
import Derived.Lib.Hide
set_option linter.unusedVariables false
set_option linter.unusedSimpArgs false
namespace Go.Proofs.Ytabadcnpmfafnaa
open Go Go.RowKit J

theorem right_any (now a b c d : Int) (w : World) (hn0 : 0 ≤ now) (hn : now ≤ 1099511627776) (hb : I64 b) :
    Calls Try.prog 43 #[.int .i64 now, .agg #[.int .i64 a, .int .i64 b, .int .i64 c, .int .i64 d]] w fun e w' => e = .returned (.bool (rightB now ⟨a, b, c, d⟩)) ∧ Ext w w' := by
  unfold I64 at hb
  go_enter Try.func43, Try.ntmps43
  go_wp2
  all_goals
    go_ret
    refine ⟨ret_bool (Bool.eq_iff_iff.2 ?_), by repeat (first | exact Ext.refl _ | assumption | apply Ext.alloc | apply Ext.drewN | apply Ext.drew)⟩
    rw [rightB_iff]
    simp only [beq_iff_eq, beq_eq_false_iff_ne, Bool.and_eq_true, Bool.or_eq_true, decide_eq_true_eq, RightP] at *
    try simp only [true_iff, false_iff, Bool.false_eq_true]
    omega
theorem right_v (now a b c d : Int) (v : Bool) (w : World) (hn0 : 0 ≤ now) (hn : now ≤ 1099511627776) (hb : I64 b) (h : rightB now ⟨a, b, c, d⟩ = v) :
    Calls Try.prog 43 #[.int .i64 now, .agg #[.int .i64 a, .int .i64 b, .int .i64 c, .int .i64 d]] w fun e w' => e = .returned (.bool v) ∧ Ext w w' := h ▸ right_any now a b c d w hn0 hn hb
end Go.Proofs.Ytabadcnpmfafnaa
