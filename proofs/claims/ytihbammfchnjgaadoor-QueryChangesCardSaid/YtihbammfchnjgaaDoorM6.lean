/- Part 6 of the proofs of these statements. No condition. -/
import Derived.Test.YtihbammfchnjgaaDoorM5
import Derived.IntWalk
import Derived.Lib.Bytealg
set_option linter.unusedVariables false
set_option linter.unusedSimpArgs false
/- Functions in the evaluator's form, 2. No condition. -/
namespace Go.Proofs.YtihbammfchnjgaaDoor.F
open Go Go.Proofs.YtihbammfchnjgaaDoor.A
/-- junctionbox/junctionboxref28.Above -/
def f28 : AFunc :=
⟨2, [.t 4], (.seq (.region 3 [⟨some 2, .box 24 1 (.t 0) [], none, 0⟩, ⟨some 3, .box 32 18 (.t 1) [], none, 1⟩, ⟨some 4, .newl 59 19, none, 2⟩] false []) (.seq (.region 1 [⟨some 5, .newl 59 19, none, 0⟩] false []) (.seq (.seq (.region 0 [⟨some 8, .faddr 0 (.t 2), none, 0⟩, ⟨some 9, .load 1 false (.t 8), none, 0⟩, ⟨some 10, .len (.t 9), none, 0⟩, ⟨some 11, .mv (.c (.int .i64 0)), none, 0⟩] false []) (.block 0 (.loop [3, 5, 9, 10, 11] (.seq (.region 0 [⟨some 12, .bin .lss (.t 11) (.t 10), none, 0⟩] false []) (.seq (.cond (.t 12) .skip (.exit 0)) (.seq (.block 1 (.seq (.region 1 [⟨some 13, .iaddr 19 none (.t 9) (.t 11), none, 0⟩, ⟨some 14, .load 19 true (.t 13), none, 0⟩, ⟨some 7, .alloc 59 [.int .i64 0, .int .u8 0, .int .u8 0, .int .u8 0, .int .u8 0, .int .u8 0, .int .u8 0, .int .u8 0, .int .u8 0, .int .u8 0, .int .u8 0, .int .u8 0, .int .u8 0, .int .u8 0, .int .u8 0, .int .u8 0, .int .u8 0, .int .i64 0, .int .i64 0] [], none, 0⟩, ⟨none, .store 19 (.t 7) (.t 14), none, 0⟩] false []) (.seq (.region 0 [⟨some 15, .faddr 0 (.t 7), none, 0⟩, ⟨some 16, .load 18 true (.t 15), none, 0⟩, ⟨some 17, .load 18 true (.t 3), none, 0⟩, ⟨some 18, .callV 59 [.t 16, .t 17] false, none, 0⟩] false []) (.cond (.t 18) (.region 2 [⟨some 19, .mv (.t 5), none, 0⟩, ⟨some 20, .load 19 true (.t 7), none, 0⟩, ⟨some 21, .buildSl 59 19 [.int .i64 0, .int .u8 0, .int .u8 0, .int .u8 0, .int .u8 0, .int .u8 0, .int .u8 0, .int .u8 0, .int .u8 0, .int .u8 0, .int .u8 0, .int .u8 0, .int .u8 0, .int .u8 0, .int .u8 0, .int .u8 0, .int .u8 0, .int .i64 0, .int .i64 0] 1 [(0, .t 20)] false, none, 0⟩, ⟨some 22, .append 59 19 40 (.t 19) (.t 21), none, 1⟩, ⟨some 5, .mv (.t 22), none, 0⟩] false []) .skip)))) (.region 0 [⟨some 23, .bin .add (.t 11) (.c (.int .i64 1)), none, 0⟩, ⟨some 11, .mv (.t 23), none, 0⟩] false []))))))) (.seq (.region 0 [⟨some 24, .mv (.t 5), none, 0⟩, ⟨some 4, .mv (.t 24), none, 0⟩] false []) .ret)))), false⟩
theorem c28 : cFunc Tryd.prog G f28 Tryd.f28 = some f28 := by kernel_rfl
/-- junctionbox/junctionboxref28.Below -/
def f29 : AFunc :=
⟨2, [.t 4], (.seq (.region 3 [⟨some 2, .box 24 1 (.t 0) [], none, 0⟩, ⟨some 3, .box 32 18 (.t 1) [], none, 1⟩, ⟨some 4, .newl 59 19, none, 2⟩] false []) (.seq (.region 1 [⟨some 5, .newl 59 19, none, 0⟩] false []) (.seq (.seq (.region 0 [⟨some 8, .faddr 0 (.t 2), none, 0⟩, ⟨some 9, .load 1 false (.t 8), none, 0⟩, ⟨some 10, .len (.t 9), none, 0⟩, ⟨some 11, .mv (.c (.int .i64 0)), none, 0⟩] false []) (.block 0 (.loop [3, 5, 9, 10, 11] (.seq (.region 0 [⟨some 12, .bin .lss (.t 11) (.t 10), none, 0⟩] false []) (.seq (.cond (.t 12) .skip (.exit 0)) (.seq (.block 1 (.seq (.region 1 [⟨some 13, .iaddr 19 none (.t 9) (.t 11), none, 0⟩, ⟨some 14, .load 19 true (.t 13), none, 0⟩, ⟨some 7, .alloc 59 [.int .i64 0, .int .u8 0, .int .u8 0, .int .u8 0, .int .u8 0, .int .u8 0, .int .u8 0, .int .u8 0, .int .u8 0, .int .u8 0, .int .u8 0, .int .u8 0, .int .u8 0, .int .u8 0, .int .u8 0, .int .u8 0, .int .u8 0, .int .i64 0, .int .i64 0] [], none, 0⟩, ⟨none, .store 19 (.t 7) (.t 14), none, 0⟩] false []) (.seq (.region 0 [⟨some 15, .load 18 true (.t 3), none, 0⟩, ⟨some 16, .faddr 0 (.t 7), none, 0⟩, ⟨some 17, .load 18 true (.t 16), none, 0⟩, ⟨some 18, .callV 59 [.t 15, .t 17] false, none, 0⟩] false []) (.cond (.t 18) (.region 2 [⟨some 19, .mv (.t 5), none, 0⟩, ⟨some 20, .load 19 true (.t 7), none, 0⟩, ⟨some 21, .buildSl 59 19 [.int .i64 0, .int .u8 0, .int .u8 0, .int .u8 0, .int .u8 0, .int .u8 0, .int .u8 0, .int .u8 0, .int .u8 0, .int .u8 0, .int .u8 0, .int .u8 0, .int .u8 0, .int .u8 0, .int .u8 0, .int .u8 0, .int .u8 0, .int .i64 0, .int .i64 0] 1 [(0, .t 20)] false, none, 0⟩, ⟨some 22, .append 59 19 40 (.t 19) (.t 21), none, 1⟩, ⟨some 5, .mv (.t 22), none, 0⟩] false []) .skip)))) (.region 0 [⟨some 23, .bin .add (.t 11) (.c (.int .i64 1)), none, 0⟩, ⟨some 11, .mv (.t 23), none, 0⟩] false []))))))) (.seq (.region 0 [⟨some 24, .mv (.t 5), none, 0⟩, ⟨some 4, .mv (.t 24), none, 0⟩] false []) .ret)))), false⟩
theorem c29 : cFunc Tryd.prog G f29 Tryd.f29 = some f29 := by kernel_rfl
/-- junctionbox/query.Covering -/
def f30 : AFunc :=
⟨2, [.t 4, .t 5], (.seq (.region 3 [⟨some 2, .box 24 1 (.t 0) [], none, 0⟩, ⟨some 3, .box 30 17 (.t 1) [], none, 1⟩, ⟨some 4, .newl 59 19, none, 2⟩, ⟨some 5, .mv (.c (.int .i64 0)), none, 0⟩] false []) (.seq (.seq (.region 0 [⟨some 8, .load 1 true (.t 2), none, 0⟩, ⟨some 9, .callV 60 [.t 8] false, none, 0⟩, ⟨some 6, .mv (.t 9), none, 0⟩] false []) (.seq (.region 0 [⟨some 10, .mv (.t 6), none, 0⟩, ⟨some 11, .bin .neq (.t 10) (.c (.int .i64 0)), none, 0⟩] false []) (.cond (.t 11) (.seq (.region 1 [⟨some 12, .mv (.t 6), none, 0⟩, ⟨some 4, .newl 59 19, none, 0⟩, ⟨some 5, .mv (.t 12), none, 0⟩] false []) .ret) .skip))) (.seq (.seq (.region 0 [⟨some 13, .load 17 true (.t 3), none, 0⟩, ⟨some 14, .callV 61 [.t 13] false, none, 0⟩, ⟨some 7, .mv (.t 14), none, 0⟩] false []) (.seq (.region 0 [⟨some 15, .mv (.t 7), none, 0⟩, ⟨some 16, .bin .neq (.t 15) (.c (.int .i64 0)), none, 0⟩] false []) (.cond (.t 16) (.seq (.region 1 [⟨some 17, .mv (.t 7), none, 0⟩, ⟨some 4, .newl 59 19, none, 0⟩, ⟨some 5, .mv (.t 17), none, 0⟩] false []) .ret) .skip))) (.seq (.region 0 [⟨some 18, .load 1 true (.t 2), none, 0⟩, ⟨some 19, .clo 62 [.t 3], none, 0⟩, ⟨some 20, .callR (.c (.clo 46 [])) [.t 18, .t 19] true, none, 0⟩, ⟨some 21, .callR (.c (.clo 54 [])) [.t 20] true, none, 0⟩, ⟨some 4, .mv (.t 21), none, 0⟩, ⟨some 5, .mv (.c (.int .i64 0)), none, 0⟩] false []) .ret)))), true⟩
theorem c30 : cFunc Tryd.prog G f30 Tryd.f30 = some f30 := by kernel_rfl
/-- junctionbox/query.Behind -/
def f31 : AFunc :=
⟨2, [.cell 4 19 true, .cell 5 1 false, .cell 6 1 false], (.seq (.region 5 [⟨some 2, .box 24 1 (.t 0) [], none, 0⟩, ⟨some 3, .box 30 17 (.t 1) [], none, 1⟩, ⟨some 4, .alloc 59 [.int .i64 0, .int .u8 0, .int .u8 0, .int .u8 0, .int .u8 0, .int .u8 0, .int .u8 0, .int .u8 0, .int .u8 0, .int .u8 0, .int .u8 0, .int .u8 0, .int .u8 0, .int .u8 0, .int .u8 0, .int .u8 0, .int .u8 0, .int .i64 0, .int .i64 0] [], none, 2⟩, ⟨some 5, .alloc 4 [.bool false] [], none, 3⟩, ⟨some 6, .alloc 37 [.int .i64 0] [], none, 4⟩] false []) (.seq (.seq (.region 0 [⟨some 10, .load 1 true (.t 2), none, 0⟩, ⟨some 11, .callV 60 [.t 10] false, none, 0⟩, ⟨some 7, .mv (.t 11), none, 0⟩] false []) (.seq (.region 0 [⟨some 12, .mv (.t 7), none, 0⟩, ⟨some 13, .bin .neq (.t 12) (.c (.int .i64 0)), none, 0⟩] false []) (.cond (.t 13) (.seq (.region 0 [⟨some 14, .build [.int .i64 0, .int .u8 0, .int .u8 0, .int .u8 0, .int .u8 0, .int .u8 0, .int .u8 0, .int .u8 0, .int .u8 0, .int .u8 0, .int .u8 0, .int .u8 0, .int .u8 0, .int .u8 0, .int .u8 0, .int .u8 0, .int .u8 0, .int .i64 0, .int .i64 0] [] [], none, 0⟩, ⟨some 15, .mv (.t 7), none, 0⟩, ⟨none, .store 19 (.t 4) (.t 14), none, 0⟩, ⟨none, .store 1 (.t 5) (.c (.bool false)), none, 0⟩, ⟨none, .store 1 (.t 6) (.t 15), none, 0⟩] false []) .ret) .skip))) (.seq (.seq (.region 0 [⟨some 16, .load 17 true (.t 3), none, 0⟩, ⟨some 17, .callV 61 [.t 16] false, none, 0⟩, ⟨some 8, .mv (.t 17), none, 0⟩] false []) (.seq (.region 0 [⟨some 18, .mv (.t 8), none, 0⟩, ⟨some 19, .bin .neq (.t 18) (.c (.int .i64 0)), none, 0⟩] false []) (.cond (.t 19) (.seq (.region 0 [⟨some 20, .build [.int .i64 0, .int .u8 0, .int .u8 0, .int .u8 0, .int .u8 0, .int .u8 0, .int .u8 0, .int .u8 0, .int .u8 0, .int .u8 0, .int .u8 0, .int .u8 0, .int .u8 0, .int .u8 0, .int .u8 0, .int .u8 0, .int .u8 0, .int .i64 0, .int .i64 0] [] [], none, 0⟩, ⟨some 21, .mv (.t 8), none, 0⟩, ⟨none, .store 19 (.t 4) (.t 20), none, 0⟩, ⟨none, .store 1 (.t 5) (.c (.bool false)), none, 0⟩, ⟨none, .store 1 (.t 6) (.t 21), none, 0⟩] false []) .ret) .skip))) (.seq (.seq (.region 0 [⟨some 22, .load 1 true (.t 2), none, 0⟩, ⟨some 23, .clo 63 [.t 3], none, 0⟩, ⟨some 24, .callR (.c (.clo 46 [])) [.t 22, .t 23] true, none, 0⟩] false []) (.block 0 (.range (.t 24) [25] (.region 1 [⟨some 9, .alloc 59 [.int .i64 0, .int .u8 0, .int .u8 0, .int .u8 0, .int .u8 0, .int .u8 0, .int .u8 0, .int .u8 0, .int .u8 0, .int .u8 0, .int .u8 0, .int .u8 0, .int .u8 0, .int .u8 0, .int .u8 0, .int .u8 0, .int .u8 0, .int .i64 0, .int .i64 0] [], none, 0⟩, ⟨none, .store 19 (.t 9) (.t 25), none, 0⟩] false []) (.block 1 (.seq (.region 0 [⟨some 26, .load 19 true (.t 9), none, 0⟩, ⟨none, .store 19 (.t 4) (.t 26), none, 0⟩, ⟨none, .store 1 (.t 5) (.c (.bool true)), none, 0⟩, ⟨none, .store 1 (.t 6) (.c (.int .i64 0)), none, 0⟩] false []) .ret))))) (.seq (.region 0 [⟨some 27, .build [.int .i64 0, .int .u8 0, .int .u8 0, .int .u8 0, .int .u8 0, .int .u8 0, .int .u8 0, .int .u8 0, .int .u8 0, .int .u8 0, .int .u8 0, .int .u8 0, .int .u8 0, .int .u8 0, .int .u8 0, .int .u8 0, .int .u8 0, .int .i64 0, .int .i64 0] [] [], none, 0⟩, ⟨none, .store 19 (.t 4) (.t 27), none, 0⟩, ⟨none, .store 1 (.t 5) (.c (.bool false)), none, 0⟩, ⟨none, .store 1 (.t 6) (.c (.int .i64 0)), none, 0⟩] false []) .ret))))), false⟩
theorem c31 : cFunc Tryd.prog G f31 Tryd.f31 = some f31 := by kernel_rfl
/-- junctionbox/junctionboxref09.Right -/
def f32 : AFunc :=
⟨1, [.t 2], (.seq (.region 1 [⟨some 1, .box 24 1 (.t 0) [], none, 0⟩, ⟨some 2, .mv (.c (.bool false)), none, 0⟩] false []) (.seq (.seq (.region 0 [⟨some 5, .faddr 0 (.t 1), none, 0⟩, ⟨some 6, .load 1 false (.t 5), none, 0⟩, ⟨some 7, .len (.t 6), none, 0⟩, ⟨some 8, .bin .gtr (.t 7) (.c (.int .i64 40)), none, 0⟩] false []) (.cond (.t 8) (.seq (.region 0 [⟨some 2, .mv (.c (.bool false)), none, 0⟩] false []) .ret) .skip)) (.seq (.seq (.region 0 [⟨some 3, .mv (.c (.int .i64 0)), none, 0⟩] false []) (.block 0 (.loop [1, 3] (.seq (.seq (.region 0 [⟨some 9, .mv (.t 3), none, 0⟩, ⟨some 10, .faddr 0 (.t 1), none, 0⟩, ⟨some 11, .load 1 false (.t 10), none, 0⟩, ⟨some 12, .len (.t 11), none, 0⟩, ⟨some 13, .bin .lss (.t 9) (.t 12), none, 0⟩] false []) (.cond (.t 13) .skip (.exit 0))) (.seq (.block 1 (.seq (.region 1 [⟨some 16, .faddr 0 (.t 1), none, 0⟩, ⟨some 17, .load 1 false (.t 16), none, 0⟩, ⟨some 18, .mv (.t 3), none, 0⟩, ⟨some 19, .iaddr 19 none (.t 17) (.t 18), none, 0⟩, ⟨some 20, .load 19 true (.t 19), none, 0⟩, ⟨some 4, .alloc 59 [.int .i64 0, .int .u8 0, .int .u8 0, .int .u8 0, .int .u8 0, .int .u8 0, .int .u8 0, .int .u8 0, .int .u8 0, .int .u8 0, .int .u8 0, .int .u8 0, .int .u8 0, .int .u8 0, .int .u8 0, .int .u8 0, .int .u8 0, .int .i64 0, .int .i64 0] [], none, 0⟩, ⟨none, .store 19 (.t 4) (.t 20), none, 0⟩] false []) (.seq (.region 0 [⟨some 21, .faddr 0 (.t 4), none, 0⟩, ⟨some 22, .load 18 true (.t 21), none, 0⟩, ⟨some 23, .callV 48 [.t 22] false, none, 0⟩, ⟨some 24, .not (.t 23), none, 0⟩, ⟨some 25, .mv (.t 24), none, 0⟩, ⟨some 26, .faddr 18 (.t 4), some (25, false), 0⟩, ⟨some 27, .load 1 false (.t 26), some (25, false), 0⟩, ⟨some 28, .bin .lss (.t 27) (.c (.int .i64 1)), some (25, false), 0⟩, ⟨some 29, .pick (.t 25) (.c (.bool true)) (.t 28), none, 0⟩, ⟨some 30, .mv (.t 29), none, 0⟩, ⟨some 31, .faddr 18 (.t 4), some (30, false), 0⟩, ⟨some 32, .load 1 false (.t 31), some (30, false), 0⟩, ⟨some 33, .bin .gtr (.t 32) (.c (.int .i64 255)), some (30, false), 0⟩, ⟨some 34, .pick (.t 30) (.c (.bool true)) (.t 33), none, 0⟩, ⟨some 35, .mv (.t 34), none, 0⟩, ⟨some 36, .mv (.t 3), some (35, false), 0⟩, ⟨some 37, .bin .gtr (.t 36) (.c (.int .i64 0)), some (35, false), 0⟩, ⟨some 38, .mv (.t 37), some (35, false), 0⟩, ⟨some 39, .faddr 0 (.t 1), some (38, true), 0⟩, ⟨some 40, .load 1 false (.t 39), some (38, true), 0⟩, ⟨some 41, .mv (.t 3), some (38, true), 0⟩, ⟨some 42, .bin .sub (.t 41) (.c (.int .i64 1)), some (38, true), 0⟩, ⟨some 43, .iaddr 19 none (.t 40) (.t 42), some (38, true), 0⟩, ⟨some 44, .faddr 0 (.t 43), some (38, true), 0⟩, ⟨some 45, .load 18 true (.t 44), some (38, true), 0⟩, ⟨some 46, .faddr 0 (.t 4), some (38, true), 0⟩, ⟨some 47, .load 18 true (.t 46), some (38, true), 0⟩, ⟨some 48, .callV 49 [.t 45, .t 47] false, some (38, true), 0⟩, ⟨some 49, .bin .geq (.t 48) (.c (.int .i64 0)), some (38, true), 0⟩, ⟨some 50, .pick (.t 38) (.t 49) (.c (.bool false)), some (35, false), 0⟩, ⟨some 51, .pick (.t 35) (.c (.bool true)) (.t 50), none, 0⟩] true []) (.cond (.t 51) (.seq (.region 0 [⟨some 2, .mv (.c (.bool false)), none, 0⟩] false []) .ret) .skip)))) (.region 0 [⟨some 14, .mv (.t 3), none, 0⟩, ⟨some 15, .bin .add (.t 14) (.c (.int .i64 1)), none, 0⟩, ⟨some 3, .mv (.t 15), none, 0⟩] false [])))))) (.seq (.region 0 [⟨some 2, .mv (.c (.bool true)), none, 0⟩] false []) .ret)))), false⟩
theorem c32 : cFunc Tryd.prog G f32 Tryd.f32 = some f32 := by kernel_rfl
/-- junctionbox/junctionboxref05.RightAddr -/
def f33 : AFunc :=
⟨1, [.t 2], (.seq (.region 1 [⟨some 1, .box 30 17 (.t 0) [], none, 0⟩, ⟨some 2, .mv (.c (.bool false)), none, 0⟩] false []) (.seq (.region 0 [⟨some 5, .faddr 0 (.t 1), none, 0⟩, ⟨some 6, .load 1 false (.t 5), none, 0⟩, ⟨some 7, .callV 21 [.t 6] false, none, 0⟩, ⟨some 3, .mv (.t 7), none, 0⟩] false []) (.seq (.seq (.region 0 [⟨some 8, .mv (.t 3), none, 0⟩, ⟨some 4, .mv (.t 8), none, 0⟩] false []) (.block 0 (.loop [1, 3, 4] (.seq (.seq (.region 0 [⟨some 9, .mv (.t 4), none, 0⟩, ⟨some 10, .bin .lss (.t 9) (.c (.int .i64 128)), none, 0⟩] false []) (.cond (.t 10) .skip (.exit 0))) (.seq (.block 1 (.seq (.region 0 [⟨some 13, .faddr 1 (.t 1), none, 0⟩, ⟨some 14, .load 16 true (.t 13), none, 0⟩, ⟨some 15, .mv (.t 4), none, 0⟩, ⟨some 16, .callV 65 [.t 14, .t 15] false, none, 0⟩, ⟨some 17, .bin .eql (.t 16) (.c (.int .i64 1)), none, 0⟩] false []) (.cond (.t 17) (.seq (.region 0 [⟨some 2, .mv (.c (.bool false)), none, 0⟩] false []) .ret) .skip))) (.region 0 [⟨some 11, .mv (.t 4), none, 0⟩, ⟨some 12, .bin .add (.t 11) (.c (.int .i64 1)), none, 0⟩, ⟨some 4, .mv (.t 12), none, 0⟩] false [])))))) (.seq (.region 0 [⟨some 18, .mv (.t 3), none, 0⟩, ⟨some 19, .bin .gtr (.t 18) (.c (.int .i64 0)), none, 0⟩, ⟨some 2, .mv (.t 19), none, 0⟩] false []) .ret)))), false⟩
theorem c33 : cFunc Tryd.prog G f33 Tryd.f33 = some f33 := by kernel_rfl
/-- junctionbox/junctionboxref28.Behind -/
def f34 : AFunc :=
⟨2, [.cell 4 19 true, .t 5], (.seq (.region 3 [⟨some 2, .box 24 1 (.t 0) [], none, 0⟩, ⟨some 3, .box 30 17 (.t 1) [], none, 1⟩, ⟨some 4, .alloc 59 [.int .i64 0, .int .u8 0, .int .u8 0, .int .u8 0, .int .u8 0, .int .u8 0, .int .u8 0, .int .u8 0, .int .u8 0, .int .u8 0, .int .u8 0, .int .u8 0, .int .u8 0, .int .u8 0, .int .u8 0, .int .u8 0, .int .u8 0, .int .i64 0, .int .i64 0] [], none, 2⟩, ⟨some 5, .mv (.c (.bool false)), none, 0⟩] false []) (.seq (.seq (.region 0 [⟨some 8, .faddr 0 (.t 2), none, 0⟩, ⟨some 9, .load 1 false (.t 8), none, 0⟩, ⟨some 10, .len (.t 9), none, 0⟩, ⟨some 11, .mv (.c (.int .i64 0)), none, 0⟩] false []) (.block 0 (.loop [3, 4, 9, 10, 11] (.seq (.region 0 [⟨some 12, .bin .lss (.t 11) (.t 10), none, 0⟩] false []) (.seq (.cond (.t 12) .skip (.exit 0)) (.seq (.block 1 (.seq (.region 1 [⟨some 13, .iaddr 19 none (.t 9) (.t 11), none, 0⟩, ⟨some 14, .load 19 true (.t 13), none, 0⟩, ⟨some 7, .alloc 59 [.int .i64 0, .int .u8 0, .int .u8 0, .int .u8 0, .int .u8 0, .int .u8 0, .int .u8 0, .int .u8 0, .int .u8 0, .int .u8 0, .int .u8 0, .int .u8 0, .int .u8 0, .int .u8 0, .int .u8 0, .int .u8 0, .int .u8 0, .int .i64 0, .int .i64 0] [], none, 0⟩, ⟨none, .store 19 (.t 7) (.t 14), none, 0⟩] false []) (.seq (.region 0 [⟨some 15, .faddr 0 (.t 7), none, 0⟩, ⟨some 16, .faddr 0 (.t 15), none, 0⟩, ⟨some 17, .faddr 0 (.t 16), none, 0⟩, ⟨some 18, .load 1 false (.t 17), none, 0⟩, ⟨some 19, .faddr 0 (.t 3), none, 0⟩, ⟨some 20, .load 1 false (.t 19), none, 0⟩, ⟨some 21, .bin .eql (.t 18) (.t 20), none, 0⟩, ⟨some 22, .mv (.t 21), none, 0⟩, ⟨some 23, .faddr 0 (.t 7), some (22, true), 0⟩, ⟨some 24, .faddr 0 (.t 23), some (22, true), 0⟩, ⟨some 25, .faddr 1 (.t 24), some (22, true), 0⟩, ⟨some 26, .slarr 1 16 (.t 25) none none, some (22, true), 0⟩, ⟨some 27, .strof (.t 26), some (22, true), 0⟩, ⟨some 28, .faddr 1 (.t 3), some (22, true), 0⟩, ⟨some 29, .slarr 1 16 (.t 28) none none, some (22, true), 0⟩, ⟨some 30, .strof (.t 29), some (22, true), 0⟩, ⟨some 31, .bin .gtr (.t 27) (.t 30), some (22, true), 0⟩, ⟨some 32, .pick (.t 22) (.t 31) (.c (.bool false)), none, 0⟩] true []) (.cond (.t 32) (.seq (.region 0 [⟨some 33, .load 19 true (.t 7), none, 0⟩, ⟨none, .store 19 (.t 4) (.t 33), none, 0⟩, ⟨some 5, .mv (.c (.bool true)), none, 0⟩] false []) .ret) .skip)))) (.region 0 [⟨some 34, .bin .add (.t 11) (.c (.int .i64 1)), none, 0⟩, ⟨some 11, .mv (.t 34), none, 0⟩] false []))))))) (.seq (.region 0 [⟨some 35, .build [.int .i64 0, .int .u8 0, .int .u8 0, .int .u8 0, .int .u8 0, .int .u8 0, .int .u8 0, .int .u8 0, .int .u8 0, .int .u8 0, .int .u8 0, .int .u8 0, .int .u8 0, .int .u8 0, .int .u8 0, .int .u8 0, .int .u8 0, .int .i64 0, .int .i64 0] [] [], none, 0⟩, ⟨none, .store 19 (.t 4) (.t 35), none, 0⟩, ⟨some 5, .mv (.c (.bool false)), none, 0⟩] false []) .ret))), false⟩
theorem c34 : cFunc Tryd.prog G f34 Tryd.f34 = some f34 := by kernel_rfl
/-- junctionbox/junctionboxref28.Covering -/
def f35 : AFunc :=
⟨2, [.t 4], (.seq (.region 3 [⟨some 2, .box 24 1 (.t 0) [], none, 0⟩, ⟨some 3, .box 30 17 (.t 1) [], none, 1⟩, ⟨some 4, .newl 59 19, none, 2⟩] false []) (.seq (.region 1 [⟨some 5, .newl 59 19, none, 0⟩] false []) (.seq (.seq (.region 0 [⟨some 8, .faddr 0 (.t 2), none, 0⟩, ⟨some 9, .load 1 false (.t 8), none, 0⟩, ⟨some 10, .len (.t 9), none, 0⟩, ⟨some 11, .mv (.c (.int .i64 0)), none, 0⟩] false []) (.block 0 (.loop [3, 5, 9, 10, 11] (.seq (.region 0 [⟨some 12, .bin .lss (.t 11) (.t 10), none, 0⟩] false []) (.seq (.cond (.t 12) .skip (.exit 0)) (.seq (.block 1 (.seq (.region 1 [⟨some 13, .iaddr 19 none (.t 9) (.t 11), none, 0⟩, ⟨some 14, .load 19 true (.t 13), none, 0⟩, ⟨some 7, .alloc 59 [.int .i64 0, .int .u8 0, .int .u8 0, .int .u8 0, .int .u8 0, .int .u8 0, .int .u8 0, .int .u8 0, .int .u8 0, .int .u8 0, .int .u8 0, .int .u8 0, .int .u8 0, .int .u8 0, .int .u8 0, .int .u8 0, .int .u8 0, .int .i64 0, .int .i64 0] [], none, 0⟩, ⟨none, .store 19 (.t 7) (.t 14), none, 0⟩] false []) (.seq (.region 0 [⟨some 15, .faddr 0 (.t 7), none, 0⟩, ⟨some 16, .load 18 true (.t 15), none, 0⟩, ⟨some 17, .load 17 true (.t 3), none, 0⟩, ⟨some 18, .callV 66 [.t 16, .t 17] false, none, 0⟩] false []) (.cond (.t 18) (.region 2 [⟨some 19, .mv (.t 5), none, 0⟩, ⟨some 20, .load 19 true (.t 7), none, 0⟩, ⟨some 21, .buildSl 59 19 [.int .i64 0, .int .u8 0, .int .u8 0, .int .u8 0, .int .u8 0, .int .u8 0, .int .u8 0, .int .u8 0, .int .u8 0, .int .u8 0, .int .u8 0, .int .u8 0, .int .u8 0, .int .u8 0, .int .u8 0, .int .u8 0, .int .u8 0, .int .i64 0, .int .i64 0] 1 [(0, .t 20)] false, none, 0⟩, ⟨some 22, .append 59 19 40 (.t 19) (.t 21), none, 1⟩, ⟨some 5, .mv (.t 22), none, 0⟩] false []) .skip)))) (.region 0 [⟨some 23, .bin .add (.t 11) (.c (.int .i64 1)), none, 0⟩, ⟨some 11, .mv (.t 23), none, 0⟩] false []))))))) (.seq (.region 0 [⟨some 24, .mv (.t 5), none, 0⟩, ⟨some 4, .mv (.t 24), none, 0⟩] false []) .ret)))), false⟩
theorem c35 : cFunc Tryd.prog G f35 Tryd.f35 = some f35 := by kernel_rfl
/-- junctionbox/table.Longest -/
def f36 : AFunc :=
⟨2, [.cell 4 19 true, .t 5, .t 6], (.seq (.region 3 [⟨some 2, .box 24 1 (.t 0) [], none, 0⟩, ⟨some 3, .box 30 17 (.t 1) [], none, 1⟩, ⟨some 4, .alloc 59 [.int .i64 0, .int .u8 0, .int .u8 0, .int .u8 0, .int .u8 0, .int .u8 0, .int .u8 0, .int .u8 0, .int .u8 0, .int .u8 0, .int .u8 0, .int .u8 0, .int .u8 0, .int .u8 0, .int .u8 0, .int .u8 0, .int .u8 0, .int .i64 0, .int .i64 0] [], none, 2⟩, ⟨some 5, .mv (.c (.bool false)), none, 0⟩, ⟨some 6, .mv (.c (.int .i64 0)), none, 0⟩] false []) (.seq (.block 0 (.seq (.region 0 [⟨some 12, .load 1 true (.t 2), none, 0⟩, ⟨some 13, .callV 60 [.t 12] false, none, 0⟩, ⟨some 14, .bin .neq (.t 13) (.c (.int .i64 0)), none, 0⟩, ⟨some 11, .mv (.t 14), none, 0⟩] false []) (.cond (.t 11) (.seq (.region 0 [⟨some 15, .build [.int .i64 0, .int .u8 0, .int .u8 0, .int .u8 0, .int .u8 0, .int .u8 0, .int .u8 0, .int .u8 0, .int .u8 0, .int .u8 0, .int .u8 0, .int .u8 0, .int .u8 0, .int .u8 0, .int .u8 0, .int .u8 0, .int .u8 0, .int .i64 0, .int .i64 0] [] [], none, 0⟩, ⟨none, .store 19 (.t 4) (.t 15), none, 0⟩, ⟨some 5, .mv (.c (.bool false)), none, 0⟩, ⟨some 6, .mv (.c (.int .i64 190)), none, 0⟩] false []) .ret) (.seq (.region 0 [⟨some 17, .load 17 true (.t 3), none, 0⟩, ⟨some 18, .callV 61 [.t 17] false, none, 0⟩, ⟨some 19, .bin .neq (.t 18) (.c (.int .i64 0)), none, 0⟩, ⟨some 16, .mv (.t 19), none, 0⟩] false []) (.cond (.t 16) (.seq (.region 0 [⟨some 20, .build [.int .i64 0, .int .u8 0, .int .u8 0, .int .u8 0, .int .u8 0, .int .u8 0, .int .u8 0, .int .u8 0, .int .u8 0, .int .u8 0, .int .u8 0, .int .u8 0, .int .u8 0, .int .u8 0, .int .u8 0, .int .u8 0, .int .u8 0, .int .i64 0, .int .i64 0] [] [], none, 0⟩, ⟨none, .store 19 (.t 4) (.t 20), none, 0⟩, ⟨some 5, .mv (.c (.bool false)), none, 0⟩, ⟨some 6, .mv (.c (.int .i64 150)), none, 0⟩] false []) .ret) .skip))))) (.seq (.region 1 [⟨some 7, .alloc 59 [.int .i64 0, .int .u8 0, .int .u8 0, .int .u8 0, .int .u8 0, .int .u8 0, .int .u8 0, .int .u8 0, .int .u8 0, .int .u8 0, .int .u8 0, .int .u8 0, .int .u8 0, .int .u8 0, .int .u8 0, .int .u8 0, .int .u8 0, .int .i64 0, .int .i64 0] [], none, 0⟩] false []) (.seq (.region 0 [⟨some 8, .mv (.c (.bool false)), none, 0⟩] false []) (.seq (.seq (.region 0 [⟨some 21, .faddr 0 (.t 2), none, 0⟩, ⟨some 22, .load 1 false (.t 21), none, 0⟩, ⟨some 23, .len (.t 22), none, 0⟩, ⟨some 24, .mv (.c (.int .i64 0)), none, 0⟩] false []) (.block 1 (.loop [3, 4, 7, 8, 22, 23, 24] (.seq (.region 0 [⟨some 25, .bin .lss (.t 24) (.t 23), none, 0⟩] false []) (.seq (.cond (.t 25) .skip (.exit 1)) (.seq (.block 2 (.seq (.region 1 [⟨some 26, .iaddr 19 none (.t 22) (.t 24), none, 0⟩, ⟨some 27, .load 19 true (.t 26), none, 0⟩, ⟨some 10, .alloc 59 [.int .i64 0, .int .u8 0, .int .u8 0, .int .u8 0, .int .u8 0, .int .u8 0, .int .u8 0, .int .u8 0, .int .u8 0, .int .u8 0, .int .u8 0, .int .u8 0, .int .u8 0, .int .u8 0, .int .u8 0, .int .u8 0, .int .u8 0, .int .i64 0, .int .i64 0] [], none, 0⟩, ⟨none, .store 19 (.t 10) (.t 27), none, 0⟩] false []) (.seq (.region 0 [⟨some 28, .faddr 0 (.t 10), none, 0⟩, ⟨some 29, .load 18 true (.t 28), none, 0⟩, ⟨some 30, .load 17 true (.t 3), none, 0⟩, ⟨some 31, .callV 39 [.t 29, .t 30] false, none, 0⟩, ⟨some 32, .mv (.t 31), none, 0⟩, ⟨some 33, .mv (.t 8), some (32, true), 0⟩, ⟨some 34, .not (.t 33), some (32, true), 0⟩, ⟨some 35, .mv (.t 34), some (32, true), 0⟩, ⟨some 36, .faddr 0 (.t 10), some (35, false), 0⟩, ⟨some 37, .faddr 17 (.t 36), some (35, false), 0⟩, ⟨some 38, .load 1 false (.t 37), some (35, false), 0⟩, ⟨some 39, .faddr 0 (.t 7), some (35, false), 0⟩, ⟨some 40, .faddr 17 (.t 39), some (35, false), 0⟩, ⟨some 41, .load 1 false (.t 40), some (35, false), 0⟩, ⟨some 42, .bin .gtr (.t 38) (.t 41), some (35, false), 0⟩, ⟨some 43, .pick (.t 35) (.c (.bool true)) (.t 42), some (32, true), 0⟩, ⟨some 44, .pick (.t 32) (.t 43) (.c (.bool false)), none, 0⟩] false []) (.cond (.t 44) (.region 0 [⟨some 45, .load 19 true (.t 10), none, 0⟩, ⟨none, .store 19 (.t 7) (.t 45), none, 0⟩, ⟨some 8, .mv (.c (.bool true)), none, 0⟩] false []) .skip)))) (.region 0 [⟨some 46, .bin .add (.t 24) (.c (.int .i64 1)), none, 0⟩, ⟨some 24, .mv (.t 46), none, 0⟩] false []))))))) (.seq (.region 0 [⟨some 47, .load 19 true (.t 7), none, 0⟩, ⟨some 48, .mv (.t 8), none, 0⟩, ⟨none, .store 19 (.t 4) (.t 47), none, 0⟩, ⟨some 5, .mv (.t 48), none, 0⟩, ⟨some 6, .mv (.c (.int .i64 0)), none, 0⟩] false []) .ret)))))), false⟩
theorem c36 : cFunc Tryd.prog G f36 Tryd.f36 = some f36 := by kernel_rfl
/-- junctionbox/prefix.Holds -/
def f37 : AFunc :=
⟨2, [.t 4], (.seq (.region 2 [⟨some 2, .box 32 18 (.t 0) [], none, 0⟩, ⟨some 3, .box 32 18 (.t 1) [], none, 1⟩, ⟨some 4, .mv (.c (.bool false)), none, 0⟩] false []) (.seq (.region 0 [⟨some 5, .load 18 true (.t 3), none, 0⟩, ⟨some 6, .callV 67 [.t 5] false, none, 0⟩, ⟨some 7, .bin .eql (.t 6) (.c (.int .i64 0)), none, 0⟩, ⟨some 8, .mv (.t 7), none, 0⟩, ⟨some 9, .faddr 17 (.t 3), some (8, true), 0⟩, ⟨some 10, .load 1 false (.t 9), some (8, true), 0⟩, ⟨some 11, .faddr 17 (.t 2), some (8, true), 0⟩, ⟨some 12, .load 1 false (.t 11), some (8, true), 0⟩, ⟨some 13, .bin .geq (.t 10) (.t 12), some (8, true), 0⟩, ⟨some 14, .pick (.t 8) (.t 13) (.c (.bool false)), none, 0⟩, ⟨some 15, .mv (.t 14), none, 0⟩, ⟨some 16, .load 18 true (.t 2), some (15, true), 0⟩, ⟨some 17, .faddr 0 (.t 3), some (15, true), 0⟩, ⟨some 18, .load 17 true (.t 17), some (15, true), 0⟩, ⟨some 19, .callV 39 [.t 16, .t 18] false, some (15, true), 0⟩, ⟨some 20, .pick (.t 15) (.t 19) (.c (.bool false)), none, 0⟩, ⟨some 4, .mv (.t 20), none, 0⟩] false []) .ret)), false⟩
theorem c37 : cFunc Tryd.prog G f37 Tryd.f37 = some f37 := by kernel_rfl
/-- junctionbox/table.Set -/
def f38 : AFunc :=
⟨3, [.cell 6 1 true, .t 7], (.seq (.region 5 [⟨some 3, .box 24 1 (.t 0) [(0, 59, 19)], none, 0⟩, ⟨some 4, .box 32 18 (.t 1) [], none, 2⟩, ⟨some 6, .alloc 24 [.clip []] [(0, 59, 19)], none, 3⟩, ⟨some 7, .mv (.c (.int .i64 0)), none, 0⟩] false []) (.seq (.block 0 (.seq (.region 0 [⟨some 12, .load 1 true (.t 3), none, 0⟩, ⟨some 13, .callV 60 [.t 12] false, none, 0⟩, ⟨some 14, .bin .neq (.t 13) (.c (.int .i64 0)), none, 0⟩, ⟨some 11, .mv (.t 14), none, 0⟩] false []) (.cond (.t 11) (.seq (.region 1 [⟨some 15, .build [.clip []] [] [(0, 59, 19)], none, 0⟩, ⟨none, .store 1 (.t 6) (.t 15), none, 0⟩, ⟨some 7, .mv (.c (.int .i64 190)), none, 0⟩] false []) .ret) (.seq (.region 0 [⟨some 17, .load 18 true (.t 4), none, 0⟩, ⟨some 18, .callV 67 [.t 17] false, none, 0⟩, ⟨some 19, .bin .neq (.t 18) (.c (.int .i64 0)), none, 0⟩, ⟨some 20, .mv (.t 19), none, 0⟩, ⟨some 21, .mv (.t 2), some (20, false), 0⟩, ⟨some 22, .callV 68 [.t 21] false, some (20, false), 0⟩, ⟨some 23, .not (.t 22), some (20, false), 0⟩, ⟨some 24, .pick (.t 20) (.c (.bool true)) (.t 23), none, 0⟩, ⟨some 16, .mv (.t 24), none, 0⟩] false []) (.cond (.t 16) (.seq (.region 1 [⟨some 25, .build [.clip []] [] [(0, 59, 19)], none, 0⟩, ⟨none, .store 1 (.t 6) (.t 25), none, 0⟩, ⟨some 7, .mv (.c (.int .i64 2)), none, 0⟩] false []) .ret) .skip))))) (.seq (.region 0 [⟨some 27, .load 1 true (.t 3), none, 0⟩, ⟨some 28, .load 18 true (.t 4), none, 0⟩, ⟨some 29, .callV 69 [.t 27, .t 28] false, none, 0⟩, ⟨some 26, .mv (.t 29), none, 0⟩, ⟨some 30, .extr (.t 26) 0, none, 0⟩, ⟨some 31, .extr (.t 26) 1, none, 0⟩, ⟨some 8, .mv (.t 30), none, 0⟩, ⟨some 9, .mv (.t 31), none, 0⟩] false []) (.seq (.region 3 [⟨some 32, .faddr 0 (.t 3), none, 0⟩, ⟨some 33, .load 1 false (.t 32), none, 0⟩, ⟨some 34, .callV 70 [.t 33] true, none, 0⟩, ⟨some 35, .build [.clip []] [(0, 1, .t 34)] [], none, 0⟩, ⟨some 10, .alloc 24 [.clip []] [(0, 59, 19)], none, 1⟩, ⟨none, .store 1 (.t 10) (.t 35), none, 0⟩] false []) (.seq (.block 1 (.seq (.region 0 [⟨some 46, .mv (.t 9), none, 0⟩, ⟨some 45, .mv (.t 46), none, 0⟩] false []) (.cond (.t 45) (.region 0 [⟨some 47, .faddr 0 (.t 10), none, 0⟩, ⟨some 48, .load 1 false (.t 47), none, 0⟩, ⟨some 49, .mv (.t 8), none, 0⟩, ⟨some 50, .mv (.t 2), none, 0⟩, ⟨some 51, .iaddr 19 none (.t 48) (.t 49), none, 0⟩, ⟨some 52, .faddr 18 (.t 51), none, 0⟩, ⟨none, .store 1 (.t 52) (.t 50), none, 0⟩] false []) (.seq (.region 0 [⟨some 54, .faddr 0 (.t 3), none, 0⟩, ⟨some 55, .load 1 false (.t 54), none, 0⟩, ⟨some 56, .len (.t 55), none, 0⟩, ⟨some 57, .bin .eql (.t 56) (.c (.int .i64 40)), none, 0⟩, ⟨some 53, .mv (.t 57), none, 0⟩] false []) (.cond (.t 53) (.seq (.region 1 [⟨some 58, .build [.clip []] [] [(0, 59, 19)], none, 0⟩, ⟨none, .store 1 (.t 6) (.t 58), none, 0⟩, ⟨some 7, .mv (.c (.int .i64 6)), none, 0⟩] false []) .ret) (.region 1 [⟨some 36, .faddr 0 (.t 10), none, 0⟩, ⟨some 37, .load 1 false (.t 36), none, 0⟩, ⟨some 38, .mv (.t 8), none, 0⟩, ⟨some 39, .load 18 true (.t 4), none, 0⟩, ⟨some 40, .mv (.t 2), none, 0⟩, ⟨some 41, .build [.int .i64 0, .int .u8 0, .int .u8 0, .int .u8 0, .int .u8 0, .int .u8 0, .int .u8 0, .int .u8 0, .int .u8 0, .int .u8 0, .int .u8 0, .int .u8 0, .int .u8 0, .int .u8 0, .int .u8 0, .int .u8 0, .int .u8 0, .int .i64 0, .int .i64 0] [(0, 18, .t 39), (18, 1, .t 40)] [], none, 0⟩, ⟨some 42, .buildSl 59 19 [.int .i64 0, .int .u8 0, .int .u8 0, .int .u8 0, .int .u8 0, .int .u8 0, .int .u8 0, .int .u8 0, .int .u8 0, .int .u8 0, .int .u8 0, .int .u8 0, .int .u8 0, .int .u8 0, .int .u8 0, .int .u8 0, .int .u8 0, .int .i64 0, .int .i64 0] 1 [(0, .t 41)] true, none, 0⟩, ⟨some 43, .callR (.c (.clo 71 [])) [.t 37, .t 38, .t 42] true, none, 0⟩, ⟨some 44, .faddr 0 (.t 10), none, 0⟩, ⟨none, .store 1 (.t 44) (.t 43), none, 0⟩] false [])))))) (.seq (.region 0 [⟨some 59, .load 1 true (.t 10), none, 0⟩, ⟨none, .store 1 (.t 6) (.t 59), none, 0⟩, ⟨some 7, .mv (.c (.int .i64 0)), none, 0⟩] false []) .ret)))))), false⟩
theorem c38 : cFunc Tryd.prog G f38 Tryd.f38 = some f38 := by kernel_rfl
/-- junctionbox/prefix.Has -/
def f39 : AFunc :=
⟨2, [.t 4], (.seq (.region 2 [⟨some 2, .box 32 18 (.t 0) [], none, 0⟩, ⟨some 3, .box 30 17 (.t 1) [], none, 1⟩, ⟨some 4, .mv (.c (.bool false)), none, 0⟩] false []) (.seq (.seq (.region 0 [⟨some 5, .load 18 true (.t 2), none, 0⟩, ⟨some 6, .callV 67 [.t 5] false, none, 0⟩, ⟨some 7, .bin .neq (.t 6) (.c (.int .i64 0)), none, 0⟩, ⟨some 8, .mv (.t 7), none, 0⟩, ⟨some 9, .load 17 true (.t 3), some (8, false), 0⟩, ⟨some 10, .callV 61 [.t 9] false, some (8, false), 0⟩, ⟨some 11, .bin .neq (.t 10) (.c (.int .i64 0)), some (8, false), 0⟩, ⟨some 12, .pick (.t 8) (.c (.bool true)) (.t 11), none, 0⟩, ⟨some 13, .mv (.t 12), none, 0⟩, ⟨some 14, .faddr 0 (.t 2), some (13, false), 0⟩, ⟨some 15, .faddr 0 (.t 14), some (13, false), 0⟩, ⟨some 16, .load 1 false (.t 15), some (13, false), 0⟩, ⟨some 17, .faddr 0 (.t 3), some (13, false), 0⟩, ⟨some 18, .load 1 false (.t 17), some (13, false), 0⟩, ⟨some 19, .bin .neq (.t 16) (.t 18), some (13, false), 0⟩, ⟨some 20, .pick (.t 13) (.c (.bool true)) (.t 19), none, 0⟩] false []) (.cond (.t 20) (.seq (.region 0 [⟨some 4, .mv (.c (.bool false)), none, 0⟩] false []) .ret) .skip)) (.seq (.region 0 [⟨some 21, .faddr 1 (.t 3), none, 0⟩, ⟨some 22, .load 16 true (.t 21), none, 0⟩, ⟨some 23, .faddr 17 (.t 2), none, 0⟩, ⟨some 24, .load 1 false (.t 23), none, 0⟩, ⟨some 25, .callV 72 [.t 22, .t 24] false, none, 0⟩, ⟨some 26, .faddr 0 (.t 2), none, 0⟩, ⟨some 27, .faddr 1 (.t 26), none, 0⟩, ⟨some 28, .load 16 true (.t 27), none, 0⟩, ⟨some 29, .eqagg false [1, 1, 1, 1, 1, 1, 1, 1, 1, 1, 1, 1, 1, 1, 1, 1] (.t 25) (.t 28), none, 0⟩, ⟨some 4, .mv (.t 29), none, 0⟩] true []) .ret))), false⟩
theorem c39 : cFunc Tryd.prog G f39 Tryd.f39 = some f39 := by kernel_rfl
/-- junctionbox/prefix.Compare -/
def f40 : AFunc :=
⟨2, [.t 4], (.seq (.region 2 [⟨some 2, .box 32 18 (.t 0) [], none, 0⟩, ⟨some 3, .box 32 18 (.t 1) [], none, 1⟩, ⟨some 4, .mv (.c (.int .i64 0)), none, 0⟩] false []) (.seq (.region 1 [⟨some 5, .faddr 0 (.t 2), none, 0⟩, ⟨some 6, .faddr 0 (.t 5), none, 0⟩, ⟨some 7, .load 1 false (.t 6), none, 0⟩, ⟨some 8, .faddr 0 (.t 3), none, 0⟩, ⟨some 9, .faddr 0 (.t 8), none, 0⟩, ⟨some 10, .load 1 false (.t 9), none, 0⟩, ⟨some 11, .callV 74 [.t 7, .t 10] false, none, 0⟩, ⟨some 12, .faddr 0 (.t 2), none, 0⟩, ⟨some 13, .faddr 1 (.t 12), none, 0⟩, ⟨some 14, .slarr 1 16 (.t 13) none none, none, 0⟩, ⟨some 15, .faddr 0 (.t 3), none, 0⟩, ⟨some 16, .faddr 1 (.t 15), none, 0⟩, ⟨some 17, .slarr 1 16 (.t 16) none none, none, 0⟩, ⟨some 18, .callV 64 [.t 14, .t 17] false, none, 0⟩, ⟨some 19, .faddr 17 (.t 2), none, 0⟩, ⟨some 20, .load 1 false (.t 19), none, 0⟩, ⟨some 21, .faddr 17 (.t 3), none, 0⟩, ⟨some 22, .load 1 false (.t 21), none, 0⟩, ⟨some 23, .callV 74 [.t 20, .t 22] false, none, 0⟩, ⟨some 24, .buildSl 3 1 [.int .i64 0] 3 [(0, .t 11), (1, .t 18), (2, .t 23)] false, none, 0⟩, ⟨some 25, .callV 73 [.t 24] false, none, 0⟩, ⟨some 4, .mv (.t 25), none, 0⟩] true []) .ret)), false⟩
theorem c40 : cFunc Tryd.prog G f40 Tryd.f40 = some f40 := by kernel_rfl
/-- junctionbox/table.Drop -/
def f41 : AFunc :=
⟨2, [.cell 4 1 true, .t 5], (.seq (.region 4 [⟨some 2, .box 24 1 (.t 0) [], none, 0⟩, ⟨some 3, .box 32 18 (.t 1) [], none, 1⟩, ⟨some 4, .alloc 24 [.clip []] [(0, 59, 19)], none, 2⟩, ⟨some 5, .mv (.c (.int .i64 0)), none, 0⟩] false []) (.seq (.seq (.region 0 [⟨some 8, .load 1 true (.t 2), none, 0⟩, ⟨some 9, .callV 60 [.t 8] false, none, 0⟩, ⟨some 10, .bin .neq (.t 9) (.c (.int .i64 0)), none, 0⟩] false []) (.cond (.t 10) (.seq (.region 1 [⟨some 11, .build [.clip []] [] [(0, 59, 19)], none, 0⟩, ⟨none, .store 1 (.t 4) (.t 11), none, 0⟩, ⟨some 5, .mv (.c (.int .i64 190)), none, 0⟩] false []) .ret) .skip)) (.seq (.region 0 [⟨some 13, .load 1 true (.t 2), none, 0⟩, ⟨some 14, .load 18 true (.t 3), none, 0⟩, ⟨some 15, .callV 69 [.t 13, .t 14] false, none, 0⟩, ⟨some 12, .mv (.t 15), none, 0⟩, ⟨some 16, .extr (.t 12) 0, none, 0⟩, ⟨some 17, .extr (.t 12) 1, none, 0⟩, ⟨some 6, .mv (.t 16), none, 0⟩, ⟨some 7, .mv (.t 17), none, 0⟩] false []) (.seq (.seq (.region 0 [⟨some 18, .mv (.t 7), none, 0⟩, ⟨some 19, .not (.t 18), none, 0⟩] false []) (.cond (.t 19) (.seq (.region 1 [⟨some 20, .build [.clip []] [] [(0, 59, 19)], none, 0⟩, ⟨none, .store 1 (.t 4) (.t 20), none, 0⟩, ⟨some 5, .mv (.c (.int .i64 4)), none, 0⟩] false []) .ret) .skip)) (.seq (.region 1 [⟨some 21, .faddr 0 (.t 2), none, 0⟩, ⟨some 22, .load 1 false (.t 21), none, 0⟩, ⟨some 23, .callV 70 [.t 22] true, none, 0⟩, ⟨some 24, .mv (.t 6), none, 0⟩, ⟨some 25, .mv (.t 6), none, 0⟩, ⟨some 26, .bin .add (.t 25) (.c (.int .i64 1)), none, 0⟩, ⟨some 27, .callR (.c (.clo 75 [])) [.t 23, .t 24, .t 26] true, none, 0⟩, ⟨some 28, .build [.clip []] [(0, 1, .t 27)] [], none, 0⟩, ⟨none, .store 1 (.t 4) (.t 28), none, 0⟩, ⟨some 5, .mv (.c (.int .i64 0)), none, 0⟩] false []) .ret))))), false⟩
theorem c41 : cFunc Tryd.prog G f41 Tryd.f41 = some f41 := by kernel_rfl
/-- junctionbox/junctionboxlaw28.plain -/
def f42 : AFunc :=
⟨0, [.cell 0 1 true], (.seq (.region 2 [⟨some 0, .alloc 24 [.clip []] [(0, 59, 19)], none, 0⟩] false []) (.seq (.region 1 [⟨some 1, .callV 43 [.c (.int .u8 10), .c (.int .u8 0), .c (.int .i64 8)] false, none, 0⟩, ⟨some 2, .build [.int .i64 0, .int .u8 0, .int .u8 0, .int .u8 0, .int .u8 0, .int .u8 0, .int .u8 0, .int .u8 0, .int .u8 0, .int .u8 0, .int .u8 0, .int .u8 0, .int .u8 0, .int .u8 0, .int .u8 0, .int .u8 0, .int .u8 0, .int .i64 0, .int .i64 0] [(0, 18, .t 1), (18, 1, .c (.int .i64 1))] [], none, 0⟩, ⟨some 3, .callV 43 [.c (.int .u8 10), .c (.int .u8 1), .c (.int .i64 16)] false, none, 0⟩, ⟨some 4, .build [.int .i64 0, .int .u8 0, .int .u8 0, .int .u8 0, .int .u8 0, .int .u8 0, .int .u8 0, .int .u8 0, .int .u8 0, .int .u8 0, .int .u8 0, .int .u8 0, .int .u8 0, .int .u8 0, .int .u8 0, .int .u8 0, .int .u8 0, .int .i64 0, .int .i64 0] [(0, 18, .t 3), (18, 1, .c (.int .i64 2))] [], none, 0⟩, ⟨some 5, .callV 43 [.c (.int .u8 10), .c (.int .u8 128), .c (.int .i64 9)] false, none, 0⟩, ⟨some 6, .build [.int .i64 0, .int .u8 0, .int .u8 0, .int .u8 0, .int .u8 0, .int .u8 0, .int .u8 0, .int .u8 0, .int .u8 0, .int .u8 0, .int .u8 0, .int .u8 0, .int .u8 0, .int .u8 0, .int .u8 0, .int .u8 0, .int .u8 0, .int .i64 0, .int .i64 0] [(0, 18, .t 5), (18, 1, .c (.int .i64 3))] [], none, 0⟩, ⟨some 7, .buildSl 59 19 [.int .i64 0, .int .u8 0, .int .u8 0, .int .u8 0, .int .u8 0, .int .u8 0, .int .u8 0, .int .u8 0, .int .u8 0, .int .u8 0, .int .u8 0, .int .u8 0, .int .u8 0, .int .u8 0, .int .u8 0, .int .u8 0, .int .u8 0, .int .i64 0, .int .i64 0] 3 [(0, .t 2), (1, .t 4), (2, .t 6)] false, none, 0⟩, ⟨some 8, .build [.clip []] [(0, 1, .t 7)] [], none, 0⟩, ⟨none, .store 1 (.t 0) (.t 8), none, 0⟩] false []) .ret)), false⟩
theorem c42 : cFunc Tryd.prog G f42 Tryd.f42 = some f42 := by kernel_rfl
/-- junctionbox/junctionboxlaw28.four -/
def f43 : AFunc :=
⟨3, [.cell 6 18 true], (.seq (.region 1 [⟨some 6, .alloc 32 [.int .i64 0, .int .u8 0, .int .u8 0, .int .u8 0, .int .u8 0, .int .u8 0, .int .u8 0, .int .u8 0, .int .u8 0, .int .u8 0, .int .u8 0, .int .u8 0, .int .u8 0, .int .u8 0, .int .u8 0, .int .u8 0, .int .u8 0, .int .i64 0] [], none, 0⟩] false []) (.seq (.region 1 [⟨some 8, .build [.int .i64 0, .int .u8 0, .int .u8 0, .int .u8 0, .int .u8 0, .int .u8 0, .int .u8 0, .int .u8 0, .int .u8 0, .int .u8 0, .int .u8 0, .int .u8 0, .int .u8 0, .int .u8 0, .int .u8 0, .int .u8 0, .int .u8 0] [(0, 1, .c (.int .i64 4))] [], none, 0⟩, ⟨some 9, .mv (.t 2), none, 0⟩, ⟨some 10, .build [.int .i64 0, .int .u8 0, .int .u8 0, .int .u8 0, .int .u8 0, .int .u8 0, .int .u8 0, .int .u8 0, .int .u8 0, .int .u8 0, .int .u8 0, .int .u8 0, .int .u8 0, .int .u8 0, .int .u8 0, .int .u8 0, .int .u8 0, .int .i64 0] [(0, 17, .t 8), (17, 1, .t 9)] [], none, 0⟩, ⟨some 7, .alloc 32 [.int .i64 0, .int .u8 0, .int .u8 0, .int .u8 0, .int .u8 0, .int .u8 0, .int .u8 0, .int .u8 0, .int .u8 0, .int .u8 0, .int .u8 0, .int .u8 0, .int .u8 0, .int .u8 0, .int .u8 0, .int .u8 0, .int .u8 0, .int .i64 0] [], none, 0⟩, ⟨none, .store 18 (.t 7) (.t 10), none, 0⟩] false []) (.seq (.region 0 [⟨some 11, .mv (.t 0), none, 0⟩, ⟨some 12, .mv (.t 1), none, 0⟩, ⟨some 13, .faddr 0 (.t 7), none, 0⟩, ⟨some 14, .faddr 1 (.t 13), none, 0⟩, ⟨some 15, .iaddr 1 (some 16) (.t 14) (.c (.int .i64 0)), none, 0⟩, ⟨none, .store 1 (.t 15) (.t 11), none, 0⟩, ⟨some 16, .faddr 0 (.t 7), none, 0⟩, ⟨some 17, .faddr 1 (.t 16), none, 0⟩, ⟨some 18, .iaddr 1 (some 16) (.t 17) (.c (.int .i64 1)), none, 0⟩, ⟨none, .store 1 (.t 18) (.t 12), none, 0⟩] false []) (.seq (.region 0 [⟨some 19, .load 18 true (.t 7), none, 0⟩, ⟨none, .store 18 (.t 6) (.t 19), none, 0⟩] false []) .ret)))), false⟩
theorem c43 : cFunc Tryd.prog G f43 Tryd.f43 = some f43 := by kernel_rfl
/-- junctionbox/query.right -/
def f44 : AFunc :=
⟨2, [.t 4], (.seq (.region 2 [⟨some 2, .box 24 1 (.t 0) [], none, 0⟩, ⟨some 3, .box 32 18 (.t 1) [], none, 1⟩, ⟨some 4, .mv (.c (.int .i64 0)), none, 0⟩] false []) (.seq (.seq (.region 0 [⟨some 6, .load 1 true (.t 2), none, 0⟩, ⟨some 7, .callV 60 [.t 6] false, none, 0⟩, ⟨some 5, .mv (.t 7), none, 0⟩] false []) (.seq (.region 0 [⟨some 8, .mv (.t 5), none, 0⟩, ⟨some 9, .bin .neq (.t 8) (.c (.int .i64 0)), none, 0⟩] false []) (.cond (.t 9) (.seq (.region 0 [⟨some 10, .mv (.t 5), none, 0⟩, ⟨some 4, .mv (.t 10), none, 0⟩] false []) .ret) .skip))) (.seq (.region 0 [⟨some 11, .load 18 true (.t 3), none, 0⟩, ⟨some 12, .callV 67 [.t 11] false, none, 0⟩, ⟨some 4, .mv (.t 12), none, 0⟩] false []) .ret))), false⟩
theorem c44 : cFunc Tryd.prog G f44 Tryd.f44 = some f44 := by kernel_rfl
/-- junctionbox/query.goes -/
def f45 : AFunc :=
⟨1, [.t 2], (.seq (.region 1 [⟨some 1, .box 34 20 (.t 0) [], none, 0⟩, ⟨some 2, .mv (.c (.bool false)), none, 0⟩] false []) (.seq (.seq (.region 0 [⟨some 3, .faddr 0 (.t 1), none, 0⟩, ⟨some 4, .load 1 false (.t 3), none, 0⟩] false []) (.cond (.t 4) (.seq (.region 0 [⟨some 5, .faddr 1 (.t 1), none, 0⟩, ⟨some 6, .load 1 false (.t 5), none, 0⟩, ⟨some 7, .not (.t 6), none, 0⟩, ⟨some 8, .mv (.t 7), none, 0⟩, ⟨some 9, .faddr 2 (.t 1), some (8, true), 0⟩, ⟨some 10, .load 18 true (.t 9), some (8, true), 0⟩, ⟨some 11, .callV 67 [.t 10] false, some (8, true), 0⟩, ⟨some 12, .bin .eql (.t 11) (.c (.int .i64 0)), some (8, true), 0⟩, ⟨some 13, .pick (.t 8) (.t 12) (.c (.bool false)), none, 0⟩, ⟨some 2, .mv (.t 13), none, 0⟩] false []) .ret) .skip)) (.seq (.region 0 [⟨some 14, .load 20 true (.t 1), none, 0⟩, ⟨some 15, .build [.bool false, .bool false, .int .i64 0, .int .u8 0, .int .u8 0, .int .u8 0, .int .u8 0, .int .u8 0, .int .u8 0, .int .u8 0, .int .u8 0, .int .u8 0, .int .u8 0, .int .u8 0, .int .u8 0, .int .u8 0, .int .u8 0, .int .u8 0, .int .u8 0, .int .i64 0] [] [], none, 0⟩, ⟨some 16, .eqagg false [0, 0, 1, 1, 1, 1, 1, 1, 1, 1, 1, 1, 1, 1, 1, 1, 1, 1, 1, 1] (.t 14) (.t 15), none, 0⟩, ⟨some 2, .mv (.t 16), none, 0⟩] false []) .ret))), false⟩
theorem c45 : cFunc Tryd.prog G f45 Tryd.f45 = some f45 := by kernel_rfl
/-- junctionbox/query.that -/
def f46 : AFunc :=
⟨2, [.t 4], (.seq (.region 2 [⟨some 2, .box 24 1 (.t 0) [], none, 0⟩, ⟨some 3, .box 88 1 (.t 1) [], none, 1⟩, ⟨some 4, .mv (.c (.nilf)), none, 0⟩] false []) (.seq (.region 0 [⟨some 5, .clo 76 [.t 2, .t 3], none, 0⟩, ⟨some 4, .mv (.t 5), none, 0⟩] false []) .ret)), false⟩
theorem c46 : cFunc Tryd.prog G f46 Tryd.f46 = some f46 := by kernel_rfl
/-- junctionbox/query.Page$1 -/
def f47 : AFunc :=
⟨3, [.t 4], (.seq (.region 1 [⟨some 3, .box 32 18 (.t 0) [], none, 0⟩, ⟨some 4, .mv (.c (.bool false)), none, 0⟩] false []) (.seq (.region 0 [⟨some 5, .load 18 true (.t 1), none, 0⟩, ⟨some 6, .load 18 true (.t 3), none, 0⟩, ⟨some 7, .callV 37 [.t 5, .t 6] false, none, 0⟩, ⟨some 8, .mv (.t 7), none, 0⟩, ⟨some 9, .faddr 0 (.t 2), some (8, true), 0⟩, ⟨some 10, .load 1 false (.t 9), some (8, true), 0⟩, ⟨some 11, .not (.t 10), some (8, true), 0⟩, ⟨some 12, .mv (.t 11), some (8, true), 0⟩, ⟨some 13, .load 18 true (.t 3), some (12, false), 0⟩, ⟨some 14, .faddr 2 (.t 2), some (12, false), 0⟩, ⟨some 15, .load 18 true (.t 14), some (12, false), 0⟩, ⟨some 16, .callV 40 [.t 13, .t 15] false, some (12, false), 0⟩, ⟨some 17, .bin .gtr (.t 16) (.c (.int .i64 0)), some (12, false), 0⟩, ⟨some 18, .pick (.t 12) (.c (.bool true)) (.t 17), some (8, true), 0⟩, ⟨some 19, .pick (.t 8) (.t 18) (.c (.bool false)), none, 0⟩, ⟨some 4, .mv (.t 19), none, 0⟩] false []) .ret)), false⟩
theorem c47 : cFunc Tryd.prog G f47 Tryd.f47 = some f47 := by kernel_rfl
/-- junctionbox/junctionboxref05.Right -/
def f48 : AFunc :=
⟨1, [.t 2], (.seq (.region 1 [⟨some 1, .box 32 18 (.t 0) [], none, 0⟩, ⟨some 2, .mv (.c (.bool false)), none, 0⟩] false []) (.seq (.seq (.region 0 [⟨some 4, .faddr 0 (.t 1), none, 0⟩, ⟨some 5, .load 17 true (.t 4), none, 0⟩, ⟨some 6, .callV 33 [.t 5] false, none, 0⟩, ⟨some 7, .not (.t 6), none, 0⟩, ⟨some 8, .mv (.t 7), none, 0⟩, ⟨some 9, .faddr 17 (.t 1), some (8, false), 0⟩, ⟨some 10, .load 1 false (.t 9), some (8, false), 0⟩, ⟨some 11, .bin .lss (.t 10) (.c (.int .i64 0)), some (8, false), 0⟩, ⟨some 12, .pick (.t 8) (.c (.bool true)) (.t 11), none, 0⟩, ⟨some 13, .mv (.t 12), none, 0⟩, ⟨some 14, .faddr 17 (.t 1), some (13, false), 0⟩, ⟨some 15, .load 1 false (.t 14), some (13, false), 0⟩, ⟨some 16, .faddr 0 (.t 1), some (13, false), 0⟩, ⟨some 17, .faddr 0 (.t 16), some (13, false), 0⟩, ⟨some 18, .load 1 false (.t 17), some (13, false), 0⟩, ⟨some 19, .callV 21 [.t 18] false, some (13, false), 0⟩, ⟨some 20, .bin .gtr (.t 15) (.t 19), some (13, false), 0⟩, ⟨some 21, .pick (.t 13) (.c (.bool true)) (.t 20), none, 0⟩] true []) (.cond (.t 21) (.seq (.region 0 [⟨some 2, .mv (.c (.bool false)), none, 0⟩] false []) .ret) .skip)) (.seq (.seq (.region 0 [⟨some 22, .faddr 17 (.t 1), none, 0⟩, ⟨some 23, .load 1 false (.t 22), none, 0⟩, ⟨some 3, .mv (.t 23), none, 0⟩] false []) (.block 0 (.loop [1, 3] (.seq (.seq (.region 0 [⟨some 24, .mv (.t 3), none, 0⟩, ⟨some 25, .bin .lss (.t 24) (.c (.int .i64 128)), none, 0⟩] false []) (.cond (.t 25) .skip (.exit 0))) (.seq (.block 1 (.seq (.region 0 [⟨some 28, .faddr 0 (.t 1), none, 0⟩, ⟨some 29, .faddr 1 (.t 28), none, 0⟩, ⟨some 30, .load 16 true (.t 29), none, 0⟩, ⟨some 31, .mv (.t 3), none, 0⟩, ⟨some 32, .callV 65 [.t 30, .t 31] false, none, 0⟩, ⟨some 33, .bin .eql (.t 32) (.c (.int .i64 1)), none, 0⟩] false []) (.cond (.t 33) (.seq (.region 0 [⟨some 2, .mv (.c (.bool false)), none, 0⟩] false []) .ret) .skip))) (.region 0 [⟨some 26, .mv (.t 3), none, 0⟩, ⟨some 27, .bin .add (.t 26) (.c (.int .i64 1)), none, 0⟩, ⟨some 3, .mv (.t 27), none, 0⟩] false [])))))) (.seq (.region 0 [⟨some 2, .mv (.c (.bool true)), none, 0⟩] false []) .ret)))), false⟩
theorem c48 : cFunc Tryd.prog G f48 Tryd.f48 = some f48 := by kernel_rfl
/-- junctionbox/junctionboxref05.Compare -/
def f49 : AFunc :=
⟨2, [.t 4], (.seq (.region 2 [⟨some 2, .box 32 18 (.t 0) [], none, 0⟩, ⟨some 3, .box 32 18 (.t 1) [], none, 1⟩, ⟨some 4, .mv (.c (.int .i64 0)), none, 0⟩] false []) (.seq (.region 1 [⟨some 9, .faddr 0 (.t 2), none, 0⟩, ⟨some 10, .faddr 0 (.t 9), none, 0⟩, ⟨some 11, .load 1 false (.t 10), none, 0⟩, ⟨some 12, .buildSl 3 1 [.int .i64 0] 1 [(0, .t 11)] true, none, 0⟩, ⟨some 5, .mv (.t 12), none, 0⟩] false []) (.seq (.region 1 [⟨some 13, .faddr 0 (.t 3), none, 0⟩, ⟨some 14, .faddr 0 (.t 13), none, 0⟩, ⟨some 15, .load 1 false (.t 14), none, 0⟩, ⟨some 16, .buildSl 3 1 [.int .i64 0] 1 [(0, .t 15)] true, none, 0⟩, ⟨some 6, .mv (.t 16), none, 0⟩] false []) (.seq (.seq (.region 0 [⟨some 7, .mv (.c (.int .i64 0)), none, 0⟩] false []) (.block 0 (.loop [2, 3, 5, 6, 7] (.seq (.seq (.region 0 [⟨some 17, .mv (.t 7), none, 0⟩, ⟨some 18, .bin .lss (.t 17) (.c (.int .i64 16)), none, 0⟩] false []) (.cond (.t 18) .skip (.exit 0))) (.seq (.block 1 (.seq (.region 2 [⟨some 21, .mv (.t 5), none, 0⟩, ⟨some 22, .mv (.t 7), none, 0⟩, ⟨some 23, .faddr 0 (.t 2), none, 0⟩, ⟨some 24, .faddr 1 (.t 23), none, 0⟩, ⟨some 25, .iaddr 1 (some 16) (.t 24) (.t 22), none, 0⟩, ⟨some 26, .load 1 false (.t 25), none, 0⟩, ⟨some 27, .conv .i64 (.t 26), none, 0⟩, ⟨some 28, .buildSl 3 1 [.int .i64 0] 1 [(0, .t 27)] true, none, 0⟩, ⟨some 29, .append 3 1 8 (.t 21) (.t 28), none, 1⟩, ⟨some 5, .mv (.t 29), none, 0⟩] false []) (.region 2 [⟨some 30, .mv (.t 6), none, 0⟩, ⟨some 31, .mv (.t 7), none, 0⟩, ⟨some 32, .faddr 0 (.t 3), none, 0⟩, ⟨some 33, .faddr 1 (.t 32), none, 0⟩, ⟨some 34, .iaddr 1 (some 16) (.t 33) (.t 31), none, 0⟩, ⟨some 35, .load 1 false (.t 34), none, 0⟩, ⟨some 36, .conv .i64 (.t 35), none, 0⟩, ⟨some 37, .buildSl 3 1 [.int .i64 0] 1 [(0, .t 36)] true, none, 0⟩, ⟨some 38, .append 3 1 8 (.t 30) (.t 37), none, 1⟩, ⟨some 6, .mv (.t 38), none, 0⟩] false []))) (.region 0 [⟨some 19, .mv (.t 7), none, 0⟩, ⟨some 20, .bin .add (.t 19) (.c (.int .i64 1)), none, 0⟩, ⟨some 7, .mv (.t 20), none, 0⟩] false [])))))) (.seq (.region 2 [⟨some 39, .mv (.t 5), none, 0⟩, ⟨some 40, .faddr 17 (.t 2), none, 0⟩, ⟨some 41, .load 1 false (.t 40), none, 0⟩, ⟨some 42, .buildSl 3 1 [.int .i64 0] 1 [(0, .t 41)] true, none, 0⟩, ⟨some 43, .append 3 1 8 (.t 39) (.t 42), none, 1⟩, ⟨some 5, .mv (.t 43), none, 0⟩] false []) (.seq (.region 2 [⟨some 44, .mv (.t 6), none, 0⟩, ⟨some 45, .faddr 17 (.t 3), none, 0⟩, ⟨some 46, .load 1 false (.t 45), none, 0⟩, ⟨some 47, .buildSl 3 1 [.int .i64 0] 1 [(0, .t 46)] true, none, 0⟩, ⟨some 48, .append 3 1 8 (.t 44) (.t 47), none, 1⟩, ⟨some 6, .mv (.t 48), none, 0⟩] false []) (.seq (.seq (.region 0 [⟨some 8, .mv (.c (.int .i64 0)), none, 0⟩] false []) (.block 2 (.loop [5, 6, 8] (.seq (.seq (.region 0 [⟨some 49, .mv (.t 8), none, 0⟩, ⟨some 50, .mv (.t 5), none, 0⟩, ⟨some 51, .len (.t 50), none, 0⟩, ⟨some 52, .bin .lss (.t 49) (.t 51), none, 0⟩] false []) (.cond (.t 52) .skip (.exit 2))) (.seq (.block 3 (.seq (.seq (.region 0 [⟨some 55, .mv (.t 5), none, 0⟩, ⟨some 56, .mv (.t 8), none, 0⟩, ⟨some 57, .iaddr 1 none (.t 55) (.t 56), none, 0⟩, ⟨some 58, .load 1 false (.t 57), none, 0⟩, ⟨some 59, .mv (.t 6), none, 0⟩, ⟨some 60, .mv (.t 8), none, 0⟩, ⟨some 61, .iaddr 1 none (.t 59) (.t 60), none, 0⟩, ⟨some 62, .load 1 false (.t 61), none, 0⟩, ⟨some 63, .bin .lss (.t 58) (.t 62), none, 0⟩] true []) (.cond (.t 63) (.seq (.region 0 [⟨some 4, .mv (.c (.int .i64 (-1))), none, 0⟩] false []) .ret) .skip)) (.seq (.region 0 [⟨some 64, .mv (.t 5), none, 0⟩, ⟨some 65, .mv (.t 8), none, 0⟩, ⟨some 66, .iaddr 1 none (.t 64) (.t 65), none, 0⟩, ⟨some 67, .load 1 false (.t 66), none, 0⟩, ⟨some 68, .mv (.t 6), none, 0⟩, ⟨some 69, .mv (.t 8), none, 0⟩, ⟨some 70, .iaddr 1 none (.t 68) (.t 69), none, 0⟩, ⟨some 71, .load 1 false (.t 70), none, 0⟩, ⟨some 72, .bin .gtr (.t 67) (.t 71), none, 0⟩] true []) (.cond (.t 72) (.seq (.region 0 [⟨some 4, .mv (.c (.int .i64 1)), none, 0⟩] false []) .ret) .skip)))) (.region 0 [⟨some 53, .mv (.t 8), none, 0⟩, ⟨some 54, .bin .add (.t 53) (.c (.int .i64 1)), none, 0⟩, ⟨some 8, .mv (.t 54), none, 0⟩] false [])))))) (.seq (.region 0 [⟨some 4, .mv (.c (.int .i64 0)), none, 0⟩] false []) .ret)))))))), false⟩
theorem c49 : cFunc Tryd.prog G f49 Tryd.f49 = some f49 := by kernel_rfl
/-- junctionbox/prefix.Width -/
def f50 : AFunc :=
⟨1, [.t 2], (.seq (.region 0 [⟨some 2, .mv (.c (.int .i64 0)), none, 0⟩] false []) (.seq (.seq (.region 0 [⟨some 3, .mv (.t 0), none, 0⟩, ⟨some 4, .bin .lss (.t 3) (.c (.int .i64 0)), none, 0⟩, ⟨some 5, .mv (.t 4), none, 0⟩, ⟨some 6, .mv (.t 0), some (5, false), 0⟩, ⟨some 7, .bin .geq (.t 6) (.c (.int .i64 7)), some (5, false), 0⟩, ⟨some 8, .pick (.t 5) (.c (.bool true)) (.t 7), none, 0⟩] false []) (.cond (.t 8) (.seq (.region 0 [⟨some 2, .mv (.c (.int .i64 0)), none, 0⟩] false []) .ret) .skip)) (.seq (.region 0 [⟨some 9, .mv (.t 0), none, 0⟩, ⟨some 10, .iaddr 1 (some 7) (.c (.rp [.int .i64 0, .int .i64 0, .int .i64 0, .int .i64 0, .int .i64 32, .int .i64 0, .int .i64 128] 0)) (.t 9), none, 0⟩, ⟨some 11, .load 1 false (.t 10), none, 0⟩, ⟨some 2, .mv (.t 11), none, 0⟩] false []) .ret))), false⟩
theorem c50 : cFunc Tryd.prog G f50 Tryd.f50 = some f50 := by kernel_rfl
/-- junctionbox/query.Free$1 -/
def f51 : AFunc :=
⟨2, [.t 3], (.seq (.region 1 [⟨some 2, .box 32 18 (.t 0) [], none, 0⟩, ⟨some 3, .mv (.c (.bool false)), none, 0⟩] false []) (.seq (.region 0 [⟨some 4, .load 18 true (.t 1), none, 0⟩, ⟨some 5, .load 18 true (.t 2), none, 0⟩, ⟨some 6, .callV 37 [.t 4, .t 5] false, none, 0⟩, ⟨some 3, .mv (.t 6), none, 0⟩] false []) .ret)), false⟩
theorem c51 : cFunc Tryd.prog G f51 Tryd.f51 = some f51 := by kernel_rfl
/-- junctionbox/query.free -/
def f52 : AFunc :=
⟨3, [.cell 6 18 true, .t 7], (.seq (.region 2 [⟨some 4, .box 32 18 (.t 1) [], none, 0⟩, ⟨some 6, .alloc 32 [.int .i64 0, .int .u8 0, .int .u8 0, .int .u8 0, .int .u8 0, .int .u8 0, .int .u8 0, .int .u8 0, .int .u8 0, .int .u8 0, .int .u8 0, .int .u8 0, .int .u8 0, .int .u8 0, .int .u8 0, .int .u8 0, .int .u8 0, .int .i64 0] [], none, 1⟩, ⟨some 7, .mv (.c (.bool false)), none, 0⟩] false []) (.seq (.seq (.region 0 [⟨some 13, .mv (.t 0), none, 0⟩, ⟨some 14, .clo 78 [.t 4], none, 0⟩, ⟨some 15, .callR (.c (.clo 77 [])) [.t 13, .t 14] false, none, 0⟩] false []) (.cond (.t 15) (.seq (.region 0 [⟨some 16, .build [.int .i64 0, .int .u8 0, .int .u8 0, .int .u8 0, .int .u8 0, .int .u8 0, .int .u8 0, .int .u8 0, .int .u8 0, .int .u8 0, .int .u8 0, .int .u8 0, .int .u8 0, .int .u8 0, .int .u8 0, .int .u8 0, .int .u8 0, .int .i64 0] [] [], none, 0⟩, ⟨none, .store 18 (.t 6) (.t 16), none, 0⟩, ⟨some 7, .mv (.c (.bool false)), none, 0⟩] false []) .ret) .skip)) (.seq (.region 1 [⟨some 17, .mv (.t 0), none, 0⟩, ⟨some 18, .callV 80 [.t 17] true, none, 0⟩, ⟨some 19, .clo 81 [.t 4], none, 0⟩, ⟨some 20, .callR (.c (.clo 79 [])) [.t 18, .t 19] true, none, 0⟩, ⟨some 8, .mv (.t 20), none, 0⟩] false []) (.seq (.block 0 (.seq (.region 0 [⟨some 22, .mv (.t 8), none, 0⟩, ⟨some 23, .len (.t 22), none, 0⟩, ⟨some 24, .bin .eql (.t 23) (.c (.int .i64 0)), none, 0⟩, ⟨some 21, .mv (.t 24), none, 0⟩] false []) (.cond (.t 21) (.seq (.region 1 [⟨some 26, .faddr 0 (.t 4), none, 0⟩, ⟨some 27, .load 17 true (.t 26), none, 0⟩, ⟨some 28, .mv (.t 2), none, 0⟩, ⟨some 29, .callV 82 [.t 27, .t 28] false, none, 0⟩, ⟨some 25, .mv (.t 29), none, 0⟩, ⟨some 30, .extr (.t 25) 0, none, 0⟩, ⟨some 31, .extr (.t 25) 1, none, 0⟩, ⟨some 9, .alloc 32 [.int .i64 0, .int .u8 0, .int .u8 0, .int .u8 0, .int .u8 0, .int .u8 0, .int .u8 0, .int .u8 0, .int .u8 0, .int .u8 0, .int .u8 0, .int .u8 0, .int .u8 0, .int .u8 0, .int .u8 0, .int .u8 0, .int .u8 0, .int .i64 0] [], none, 0⟩, ⟨none, .store 18 (.t 9) (.t 30), none, 0⟩, ⟨some 10, .mv (.t 31), none, 0⟩] false []) (.seq (.region 0 [⟨some 32, .load 18 true (.t 9), none, 0⟩, ⟨some 33, .mv (.t 10), none, 0⟩, ⟨some 34, .bin .eql (.t 33) (.c (.int .i64 0)), none, 0⟩, ⟨none, .store 18 (.t 6) (.t 32), none, 0⟩, ⟨some 7, .mv (.t 34), none, 0⟩] false []) .ret)) (.seq (.region 0 [⟨some 36, .faddr 17 (.t 4), none, 0⟩, ⟨some 37, .load 1 false (.t 36), none, 0⟩, ⟨some 38, .mv (.t 2), none, 0⟩, ⟨some 39, .bin .eql (.t 37) (.t 38), none, 0⟩, ⟨some 35, .mv (.t 39), none, 0⟩] false []) (.cond (.t 35) (.seq (.region 0 [⟨some 40, .build [.int .i64 0, .int .u8 0, .int .u8 0, .int .u8 0, .int .u8 0, .int .u8 0, .int .u8 0, .int .u8 0, .int .u8 0, .int .u8 0, .int .u8 0, .int .u8 0, .int .u8 0, .int .u8 0, .int .u8 0, .int .u8 0, .int .u8 0, .int .i64 0] [] [], none, 0⟩, ⟨none, .store 18 (.t 6) (.t 40), none, 0⟩, ⟨some 7, .mv (.c (.bool false)), none, 0⟩] false []) .ret) .skip))))) (.seq (.region 0 [⟨some 41, .faddr 17 (.t 4), none, 0⟩, ⟨some 42, .load 1 false (.t 41), none, 0⟩, ⟨some 43, .bin .add (.t 42) (.c (.int .i64 1)), none, 0⟩, ⟨some 44, .faddr 17 (.t 4), none, 0⟩, ⟨none, .store 1 (.t 44) (.t 43), none, 0⟩] false []) (.seq (.seq (.region 1 [⟨some 46, .mv (.t 8), none, 0⟩, ⟨some 47, .load 18 true (.t 4), none, 0⟩, ⟨some 48, .mv (.t 2), none, 0⟩, ⟨some 49, .callV 52 [.t 46, .t 47, .t 48] false, none, 0⟩, ⟨some 45, .mv (.t 49), none, 0⟩, ⟨some 50, .extr (.t 45) 0, none, 0⟩, ⟨some 51, .extr (.t 45) 1, none, 0⟩, ⟨some 11, .alloc 32 [.int .i64 0, .int .u8 0, .int .u8 0, .int .u8 0, .int .u8 0, .int .u8 0, .int .u8 0, .int .u8 0, .int .u8 0, .int .u8 0, .int .u8 0, .int .u8 0, .int .u8 0, .int .u8 0, .int .u8 0, .int .u8 0, .int .u8 0, .int .i64 0] [], none, 0⟩, ⟨none, .store 18 (.t 11) (.t 50), none, 0⟩, ⟨some 12, .mv (.t 51), none, 0⟩] false []) (.seq (.region 0 [⟨some 52, .mv (.t 12), none, 0⟩] false []) (.cond (.t 52) (.seq (.region 0 [⟨some 53, .load 18 true (.t 11), none, 0⟩, ⟨none, .store 18 (.t 6) (.t 53), none, 0⟩, ⟨some 7, .mv (.c (.bool true)), none, 0⟩] false []) .ret) .skip))) (.seq (.region 0 [⟨some 54, .faddr 17 (.t 4), none, 0⟩, ⟨some 55, .load 1 false (.t 54), none, 0⟩, ⟨some 56, .bin .sub (.t 55) (.c (.int .i64 1)), none, 0⟩, ⟨some 57, .bin .quo (.t 56) (.c (.int .i64 8)), none, 0⟩, ⟨some 58, .faddr 0 (.t 4), none, 0⟩, ⟨some 59, .faddr 1 (.t 58), none, 0⟩, ⟨some 60, .iaddr 1 (some 16) (.t 59) (.t 57), none, 0⟩, ⟨some 61, .load 1 false (.t 60), none, 0⟩, ⟨some 62, .faddr 17 (.t 4), none, 0⟩, ⟨some 63, .load 1 false (.t 62), none, 0⟩, ⟨some 64, .bin .sub (.t 63) (.c (.int .i64 1)), none, 0⟩, ⟨some 65, .bin .rem (.t 64) (.c (.int .i64 8)), none, 0⟩, ⟨some 66, .bin .shr (.c (.int .u8 128)) (.t 65), none, 0⟩, ⟨some 67, .bin .or (.t 61) (.t 66), none, 0⟩, ⟨some 68, .faddr 0 (.t 4), none, 0⟩, ⟨some 69, .faddr 1 (.t 68), none, 0⟩, ⟨some 70, .iaddr 1 (some 16) (.t 69) (.t 57), none, 0⟩, ⟨none, .store 1 (.t 70) (.t 67), none, 0⟩] true []) (.seq (.region 0 [⟨some 71, .mv (.t 8), none, 0⟩, ⟨some 72, .load 18 true (.t 4), none, 0⟩, ⟨some 73, .mv (.t 2), none, 0⟩, ⟨some 74, .callV 52 [.t 71, .t 72, .t 73] false, none, 0⟩, ⟨some 75, .extr (.t 74) 0, none, 0⟩, ⟨some 76, .extr (.t 74) 1, none, 0⟩, ⟨none, .store 18 (.t 6) (.t 75), none, 0⟩, ⟨some 7, .mv (.t 76), none, 0⟩] false []) .ret)))))))), false⟩
theorem c52 : cFunc Tryd.prog G f52 Tryd.f52 = some f52 := by kernel_rfl
end Go.Proofs.YtihbammfchnjgaaDoor.F

/- Functions in the evaluator's form, 3. No condition. -/
namespace Go.Proofs.YtihbammfchnjgaaDoor.F
open Go Go.Proofs.YtihbammfchnjgaaDoor.A
/-- junctionbox/junctionboxref28.first -/
def f53 : AFunc :=
⟨4, [.cell 8 18 true, .t 9], (.seq (.region 4 [⟨some 4, .box 24 1 (.t 0) [], none, 0⟩, ⟨some 5, .box 32 18 (.t 1) [], none, 1⟩, ⟨some 6, .box 32 18 (.t 2) [], none, 2⟩, ⟨some 8, .alloc 32 [.int .i64 0, .int .u8 0, .int .u8 0, .int .u8 0, .int .u8 0, .int .u8 0, .int .u8 0, .int .u8 0, .int .u8 0, .int .u8 0, .int .u8 0, .int .u8 0, .int .u8 0, .int .u8 0, .int .u8 0, .int .u8 0, .int .u8 0, .int .i64 0] [], none, 3⟩, ⟨some 9, .mv (.c (.bool false)), none, 0⟩] false []) (.seq (.region 0 [⟨some 10, .mv (.c (.bool false)), none, 0⟩] false []) (.seq (.seq (.region 0 [⟨some 19, .faddr 0 (.t 4), none, 0⟩, ⟨some 20, .load 1 false (.t 19), none, 0⟩, ⟨some 21, .len (.t 20), none, 0⟩, ⟨some 22, .mv (.c (.int .i64 0)), none, 0⟩] false []) (.block 0 (.loop [3, 4, 5, 6, 8, 10, 20, 21, 22] (.seq (.region 0 [⟨some 23, .bin .lss (.t 22) (.t 21), none, 0⟩] false []) (.seq (.cond (.t 23) .skip (.exit 0)) (.seq (.block 1 (.seq (.region 1 [⟨some 24, .iaddr 19 none (.t 20) (.t 22), none, 0⟩, ⟨some 25, .load 19 true (.t 24), none, 0⟩, ⟨some 12, .alloc 59 [.int .i64 0, .int .u8 0, .int .u8 0, .int .u8 0, .int .u8 0, .int .u8 0, .int .u8 0, .int .u8 0, .int .u8 0, .int .u8 0, .int .u8 0, .int .u8 0, .int .u8 0, .int .u8 0, .int .u8 0, .int .u8 0, .int .u8 0, .int .i64 0, .int .i64 0] [], none, 0⟩, ⟨none, .store 19 (.t 12) (.t 25), none, 0⟩] false []) (.seq (.seq (.region 0 [⟨some 26, .faddr 0 (.t 12), none, 0⟩, ⟨some 27, .load 18 true (.t 26), none, 0⟩, ⟨some 28, .load 18 true (.t 6), none, 0⟩, ⟨some 29, .callV 59 [.t 27, .t 28] false, none, 0⟩, ⟨some 30, .mv (.t 29), none, 0⟩, ⟨some 31, .faddr 0 (.t 12), some (30, true), 0⟩, ⟨some 32, .load 18 true (.t 31), some (30, true), 0⟩, ⟨some 33, .load 18 true (.t 5), some (30, true), 0⟩, ⟨some 34, .callV 59 [.t 32, .t 33] false, some (30, true), 0⟩, ⟨some 35, .not (.t 34), some (30, true), 0⟩, ⟨some 36, .pick (.t 30) (.t 35) (.c (.bool false)), none, 0⟩] false []) (.cond (.t 36) (.seq (.region 0 [⟨some 37, .build [.int .i64 0, .int .u8 0, .int .u8 0, .int .u8 0, .int .u8 0, .int .u8 0, .int .u8 0, .int .u8 0, .int .u8 0, .int .u8 0, .int .u8 0, .int .u8 0, .int .u8 0, .int .u8 0, .int .u8 0, .int .u8 0, .int .u8 0, .int .i64 0] [] [], none, 0⟩, ⟨none, .store 18 (.t 8) (.t 37), none, 0⟩, ⟨some 9, .mv (.c (.bool false)), none, 0⟩] false []) .ret) .skip)) (.region 0 [⟨some 38, .mv (.t 10), none, 0⟩, ⟨some 39, .mv (.t 38), none, 0⟩, ⟨some 40, .load 18 true (.t 6), some (39, false), 0⟩, ⟨some 41, .faddr 0 (.t 12), some (39, false), 0⟩, ⟨some 42, .load 18 true (.t 41), some (39, false), 0⟩, ⟨some 43, .callV 59 [.t 40, .t 42] false, some (39, false), 0⟩, ⟨some 44, .pick (.t 39) (.c (.bool true)) (.t 43), none, 0⟩, ⟨some 10, .mv (.t 44), none, 0⟩] false [])))) (.region 0 [⟨some 45, .bin .add (.t 22) (.c (.int .i64 1)), none, 0⟩, ⟨some 22, .mv (.t 45), none, 0⟩] false []))))))) (.seq (.block 2 (.seq (.region 0 [⟨some 47, .mv (.t 10), none, 0⟩, ⟨some 48, .not (.t 47), none, 0⟩, ⟨some 46, .mv (.t 48), none, 0⟩] false []) (.cond (.t 46) (.seq (.region 1 [⟨some 50, .faddr 0 (.t 6), none, 0⟩, ⟨some 51, .load 17 true (.t 50), none, 0⟩, ⟨some 52, .mv (.t 3), none, 0⟩, ⟨some 53, .callV 83 [.t 51, .t 52] false, none, 0⟩, ⟨some 49, .mv (.t 53), none, 0⟩, ⟨some 54, .extr (.t 49) 0, none, 0⟩, ⟨some 55, .extr (.t 49) 1, none, 0⟩, ⟨some 13, .alloc 32 [.int .i64 0, .int .u8 0, .int .u8 0, .int .u8 0, .int .u8 0, .int .u8 0, .int .u8 0, .int .u8 0, .int .u8 0, .int .u8 0, .int .u8 0, .int .u8 0, .int .u8 0, .int .u8 0, .int .u8 0, .int .u8 0, .int .u8 0, .int .i64 0] [], none, 0⟩, ⟨none, .store 18 (.t 13) (.t 54), none, 0⟩, ⟨some 14, .mv (.t 55), none, 0⟩] false []) (.seq (.region 0 [⟨some 56, .load 18 true (.t 13), none, 0⟩, ⟨none, .store 18 (.t 8) (.t 56), none, 0⟩, ⟨some 9, .mv (.c (.bool true)), none, 0⟩] false []) .ret)) (.seq (.region 0 [⟨some 58, .faddr 17 (.t 6), none, 0⟩, ⟨some 59, .load 1 false (.t 58), none, 0⟩, ⟨some 60, .mv (.t 3), none, 0⟩, ⟨some 61, .bin .eql (.t 59) (.t 60), none, 0⟩, ⟨some 57, .mv (.t 61), none, 0⟩] false []) (.cond (.t 57) (.seq (.region 0 [⟨some 62, .build [.int .i64 0, .int .u8 0, .int .u8 0, .int .u8 0, .int .u8 0, .int .u8 0, .int .u8 0, .int .u8 0, .int .u8 0, .int .u8 0, .int .u8 0, .int .u8 0, .int .u8 0, .int .u8 0, .int .u8 0, .int .u8 0, .int .u8 0, .int .i64 0] [] [], none, 0⟩, ⟨none, .store 18 (.t 8) (.t 62), none, 0⟩, ⟨some 9, .mv (.c (.bool false)), none, 0⟩] false []) .ret) .skip))))) (.seq (.region 2 [⟨some 63, .load 18 true (.t 6), none, 0⟩, ⟨some 64, .load 18 true (.t 6), none, 0⟩, ⟨some 15, .alloc 32 [.int .i64 0, .int .u8 0, .int .u8 0, .int .u8 0, .int .u8 0, .int .u8 0, .int .u8 0, .int .u8 0, .int .u8 0, .int .u8 0, .int .u8 0, .int .u8 0, .int .u8 0, .int .u8 0, .int .u8 0, .int .u8 0, .int .u8 0, .int .i64 0] [], none, 0⟩, ⟨some 16, .alloc 32 [.int .i64 0, .int .u8 0, .int .u8 0, .int .u8 0, .int .u8 0, .int .u8 0, .int .u8 0, .int .u8 0, .int .u8 0, .int .u8 0, .int .u8 0, .int .u8 0, .int .u8 0, .int .u8 0, .int .u8 0, .int .u8 0, .int .u8 0, .int .i64 0] [], none, 1⟩, ⟨none, .store 18 (.t 15) (.t 63), none, 0⟩, ⟨none, .store 18 (.t 16) (.t 64), none, 0⟩] true [(.t 6, .c .undef, 0), (.t 6, .c .undef, 1), (.t 6, .t 15, 0)]) (.seq (.region 0 [⟨some 65, .faddr 17 (.t 6), none, 0⟩, ⟨some 66, .load 1 false (.t 65), none, 0⟩, ⟨some 67, .bin .add (.t 66) (.c (.int .i64 1)), none, 0⟩, ⟨some 68, .faddr 17 (.t 6), none, 0⟩, ⟨some 69, .load 1 false (.t 68), none, 0⟩, ⟨some 70, .bin .add (.t 69) (.c (.int .i64 1)), none, 0⟩, ⟨some 71, .faddr 17 (.t 15), none, 0⟩, ⟨none, .store 1 (.t 71) (.t 67), none, 0⟩, ⟨some 72, .faddr 17 (.t 16), none, 0⟩, ⟨none, .store 1 (.t 72) (.t 70), none, 0⟩] true [(.t 68, .t 71, 0)]) (.seq (.region 0 [⟨some 73, .faddr 17 (.t 6), none, 0⟩, ⟨some 74, .load 1 false (.t 73), none, 0⟩, ⟨some 75, .bin .quo (.t 74) (.c (.int .i64 8)), none, 0⟩, ⟨some 76, .faddr 0 (.t 16), none, 0⟩, ⟨some 77, .faddr 1 (.t 76), none, 0⟩, ⟨some 78, .iaddr 1 (some 16) (.t 77) (.t 75), none, 0⟩, ⟨some 79, .load 1 false (.t 78), none, 0⟩, ⟨some 80, .faddr 17 (.t 6), none, 0⟩, ⟨some 81, .load 1 false (.t 80), none, 0⟩, ⟨some 82, .bin .rem (.t 81) (.c (.int .i64 8)), none, 0⟩, ⟨some 83, .bin .shr (.c (.int .u8 128)) (.t 82), none, 0⟩, ⟨some 84, .bin .or (.t 79) (.t 83), none, 0⟩, ⟨some 85, .faddr 0 (.t 16), none, 0⟩, ⟨some 86, .faddr 1 (.t 85), none, 0⟩, ⟨some 87, .iaddr 1 (some 16) (.t 86) (.t 75), none, 0⟩, ⟨none, .store 1 (.t 87) (.t 84), none, 0⟩] true []) (.seq (.seq (.region 1 [⟨some 89, .load 1 true (.t 4), none, 0⟩, ⟨some 90, .load 18 true (.t 5), none, 0⟩, ⟨some 91, .load 18 true (.t 15), none, 0⟩, ⟨some 92, .mv (.t 3), none, 0⟩, ⟨some 93, .callV 53 [.t 89, .t 90, .t 91, .t 92] false, none, 0⟩, ⟨some 88, .mv (.t 93), none, 0⟩, ⟨some 94, .extr (.t 88) 0, none, 0⟩, ⟨some 95, .extr (.t 88) 1, none, 0⟩, ⟨some 17, .alloc 32 [.int .i64 0, .int .u8 0, .int .u8 0, .int .u8 0, .int .u8 0, .int .u8 0, .int .u8 0, .int .u8 0, .int .u8 0, .int .u8 0, .int .u8 0, .int .u8 0, .int .u8 0, .int .u8 0, .int .u8 0, .int .u8 0, .int .u8 0, .int .i64 0] [], none, 0⟩, ⟨none, .store 18 (.t 17) (.t 94), none, 0⟩, ⟨some 18, .mv (.t 95), none, 0⟩] false []) (.seq (.region 0 [⟨some 96, .mv (.t 18), none, 0⟩] false []) (.cond (.t 96) (.seq (.region 0 [⟨some 97, .load 18 true (.t 17), none, 0⟩, ⟨none, .store 18 (.t 8) (.t 97), none, 0⟩, ⟨some 9, .mv (.c (.bool true)), none, 0⟩] false []) .ret) .skip))) (.seq (.region 0 [⟨some 98, .load 1 true (.t 4), none, 0⟩, ⟨some 99, .load 18 true (.t 5), none, 0⟩, ⟨some 100, .load 18 true (.t 16), none, 0⟩, ⟨some 101, .mv (.t 3), none, 0⟩, ⟨some 102, .callV 53 [.t 98, .t 99, .t 100, .t 101] false, none, 0⟩, ⟨some 103, .extr (.t 102) 0, none, 0⟩, ⟨some 104, .extr (.t 102) 1, none, 0⟩, ⟨none, .store 18 (.t 8) (.t 103), none, 0⟩, ⟨some 9, .mv (.t 104), none, 0⟩] false []) .ret))))))))), false⟩
theorem c53 : cFunc Tryd.prog G f53 Tryd.f53 = some f53 := by kernel_rfl
/-- slices.Collect[junctionbox/api.Row] -/
def f54 : AFunc :=
⟨1, [.t 2], (.seq (.region 1 [⟨some 2, .newl 59 19, none, 0⟩] false []) (.seq (.region 0 [⟨some 3, .mv (.t 0), none, 0⟩, ⟨some 4, .callR (.c (.clo 84 [])) [.c (.clip []), .t 3] true, none, 0⟩, ⟨some 2, .mv (.t 4), none, 0⟩] false []) .ret)), true⟩
theorem c54 : cFunc Tryd.prog G f54 Tryd.f54 = some f54 := by kernel_rfl
/-- junctionbox/query.Below$1 -/
def f55 : AFunc :=
⟨2, [.t 3], (.seq (.region 1 [⟨some 2, .box 32 18 (.t 0) [], none, 0⟩, ⟨some 3, .mv (.c (.bool false)), none, 0⟩] false []) (.seq (.region 0 [⟨some 4, .load 18 true (.t 1), none, 0⟩, ⟨some 5, .load 18 true (.t 2), none, 0⟩, ⟨some 6, .callV 37 [.t 4, .t 5] false, none, 0⟩, ⟨some 3, .mv (.t 6), none, 0⟩] false []) .ret)), false⟩
theorem c55 : cFunc Tryd.prog G f55 Tryd.f55 = some f55 := by kernel_rfl
/-- junctionbox/query.Above$1 -/
def f56 : AFunc :=
⟨2, [.t 3], (.seq (.region 1 [⟨some 2, .box 32 18 (.t 0) [], none, 0⟩, ⟨some 3, .mv (.c (.bool false)), none, 0⟩] false []) (.seq (.region 0 [⟨some 4, .load 18 true (.t 2), none, 0⟩, ⟨some 5, .load 18 true (.t 1), none, 0⟩, ⟨some 6, .callV 37 [.t 4, .t 5] false, none, 0⟩, ⟨some 3, .mv (.t 6), none, 0⟩] false []) .ret)), false⟩
theorem c56 : cFunc Tryd.prog G f56 Tryd.f56 = some f56 := by kernel_rfl
/-- slices.DeleteFunc[[]junctionbox/api.Row,junctionbox/api.Row] -/
def f57 : AFunc :=
⟨2, [.t 4], (.seq (.region 1 [⟨some 4, .newl 59 19, none, 0⟩] false []) (.seq (.region 0 [⟨some 8, .mv (.t 0), none, 0⟩, ⟨some 9, .mv (.t 1), none, 0⟩, ⟨some 10, .callR (.c (.clo 85 [])) [.t 8, .t 9] false, none, 0⟩, ⟨some 5, .mv (.t 10), none, 0⟩] false []) (.seq (.seq (.region 0 [⟨some 11, .mv (.t 5), none, 0⟩, ⟨some 12, .bin .eql (.t 11) (.c (.int .i64 (-1))), none, 0⟩] false []) (.cond (.t 12) (.seq (.region 0 [⟨some 13, .mv (.t 0), none, 0⟩, ⟨some 4, .mv (.t 13), none, 0⟩] false []) .ret) .skip)) (.seq (.seq (.region 0 [⟨some 14, .mv (.t 5), none, 0⟩, ⟨some 15, .bin .add (.t 14) (.c (.int .i64 1)), none, 0⟩, ⟨some 6, .mv (.t 15), none, 0⟩] false []) (.block 0 (.loop [0, 1, 5, 6] (.seq (.seq (.region 0 [⟨some 16, .mv (.t 6), none, 0⟩, ⟨some 17, .mv (.t 0), none, 0⟩, ⟨some 18, .len (.t 17), none, 0⟩, ⟨some 19, .bin .lss (.t 16) (.t 18), none, 0⟩] false []) (.cond (.t 19) .skip (.exit 0))) (.seq (.block 1 (.seq (.region 1 [⟨some 22, .mv (.t 0), none, 0⟩, ⟨some 23, .mv (.t 6), none, 0⟩, ⟨some 24, .iaddr 19 none (.t 22) (.t 23), none, 0⟩, ⟨some 25, .load 19 true (.t 24), none, 0⟩, ⟨some 7, .alloc 59 [.int .i64 0, .int .u8 0, .int .u8 0, .int .u8 0, .int .u8 0, .int .u8 0, .int .u8 0, .int .u8 0, .int .u8 0, .int .u8 0, .int .u8 0, .int .u8 0, .int .u8 0, .int .u8 0, .int .u8 0, .int .u8 0, .int .u8 0, .int .i64 0, .int .i64 0] [], none, 0⟩, ⟨none, .store 19 (.t 7) (.t 25), none, 0⟩] false []) (.seq (.region 0 [⟨some 26, .mv (.t 1), none, 0⟩, ⟨some 27, .load 19 true (.t 7), none, 0⟩, ⟨some 28, .callR (.t 26) [.t 27] false, none, 0⟩, ⟨some 29, .not (.t 28), none, 0⟩] false []) (.cond (.t 29) (.seq (.region 0 [⟨some 30, .mv (.t 0), none, 0⟩, ⟨some 31, .mv (.t 5), none, 0⟩, ⟨some 32, .load 19 true (.t 7), none, 0⟩, ⟨some 33, .iaddr 19 none (.t 30) (.t 31), none, 0⟩, ⟨none, .store 19 (.t 33) (.t 32), none, 0⟩] false []) (.region 0 [⟨some 34, .mv (.t 5), none, 0⟩, ⟨some 35, .bin .add (.t 34) (.c (.int .i64 1)), none, 0⟩, ⟨some 5, .mv (.t 35), none, 0⟩] false [])) .skip)))) (.region 0 [⟨some 20, .mv (.t 6), none, 0⟩, ⟨some 21, .bin .add (.t 20) (.c (.int .i64 1)), none, 0⟩, ⟨some 6, .mv (.t 21), none, 0⟩] false [])))))) (.seq (.region 0 [⟨some 36, .mv (.t 0), none, 0⟩, ⟨some 37, .mv (.t 5), none, 0⟩, ⟨some 38, .slice 19 (.t 36) (some (.t 37)) none none, none, 0⟩, ⟨none, .clear [.int .i64 0, .int .u8 0, .int .u8 0, .int .u8 0, .int .u8 0, .int .u8 0, .int .u8 0, .int .u8 0, .int .u8 0, .int .u8 0, .int .u8 0, .int .u8 0, .int .u8 0, .int .u8 0, .int .u8 0, .int .u8 0, .int .u8 0, .int .i64 0, .int .i64 0] (.t 38), none, 0⟩] false []) (.seq (.region 0 [⟨some 39, .mv (.t 0), none, 0⟩, ⟨some 40, .mv (.t 5), none, 0⟩, ⟨some 41, .slice 19 (.t 39) none (some (.t 40)) none, none, 0⟩, ⟨some 4, .mv (.t 41), none, 0⟩] false []) .ret)))))), false⟩
theorem c57 : cFunc Tryd.prog G f57 Tryd.f57 = some f57 := by kernel_rfl
/-- junctionbox/query.Parent$1 -/
def f58 : AFunc :=
⟨2, [.t 3], (.seq (.region 1 [⟨some 2, .box 59 19 (.t 0) [], none, 0⟩, ⟨some 3, .mv (.c (.bool false)), none, 0⟩] false []) (.seq (.region 0 [⟨some 4, .faddr 0 (.t 2), none, 0⟩, ⟨some 5, .load 18 true (.t 4), none, 0⟩, ⟨some 6, .load 18 true (.t 1), none, 0⟩, ⟨some 7, .eqagg false [1, 1, 1, 1, 1, 1, 1, 1, 1, 1, 1, 1, 1, 1, 1, 1, 1, 1] (.t 5) (.t 6), none, 0⟩, ⟨some 3, .mv (.t 7), none, 0⟩] false []) .ret)), false⟩
theorem c58 : cFunc Tryd.prog G f58 Tryd.f58 = some f58 := by kernel_rfl
/-- junctionbox/junctionboxref05.Holds -/
def f59 : AFunc :=
⟨2, [.t 4], (.seq (.region 2 [⟨some 2, .box 32 18 (.t 0) [], none, 0⟩, ⟨some 3, .box 32 18 (.t 1) [], none, 1⟩, ⟨some 4, .mv (.c (.bool false)), none, 0⟩] false []) (.seq (.region 0 [⟨some 5, .load 18 true (.t 3), none, 0⟩, ⟨some 6, .callV 48 [.t 5] false, none, 0⟩, ⟨some 7, .mv (.t 6), none, 0⟩, ⟨some 8, .faddr 17 (.t 2), some (7, true), 0⟩, ⟨some 9, .load 1 false (.t 8), some (7, true), 0⟩, ⟨some 10, .faddr 17 (.t 3), some (7, true), 0⟩, ⟨some 11, .load 1 false (.t 10), some (7, true), 0⟩, ⟨some 12, .bin .leq (.t 9) (.t 11), some (7, true), 0⟩, ⟨some 13, .pick (.t 7) (.t 12) (.c (.bool false)), none, 0⟩, ⟨some 14, .mv (.t 13), none, 0⟩, ⟨some 15, .load 18 true (.t 2), some (14, true), 0⟩, ⟨some 16, .faddr 0 (.t 3), some (14, true), 0⟩, ⟨some 17, .load 17 true (.t 16), some (14, true), 0⟩, ⟨some 18, .callV 66 [.t 15, .t 17] false, some (14, true), 0⟩, ⟨some 19, .pick (.t 14) (.t 18) (.c (.bool false)), none, 0⟩, ⟨some 4, .mv (.t 19), none, 0⟩] false []) .ret)), false⟩
theorem c59 : cFunc Tryd.prog G f59 Tryd.f59 = some f59 := by kernel_rfl
/-- junctionbox/table.Check -/
def f60 : AFunc :=
⟨1, [.t 2], (.seq (.region 1 [⟨some 1, .box 24 1 (.t 0) [], none, 0⟩, ⟨some 2, .mv (.c (.int .i64 0)), none, 0⟩] false []) (.seq (.seq (.region 0 [⟨some 5, .faddr 0 (.t 1), none, 0⟩, ⟨some 6, .load 1 false (.t 5), none, 0⟩, ⟨some 7, .len (.t 6), none, 0⟩, ⟨some 8, .mv (.c (.int .i64 0)), none, 0⟩] false []) (.block 0 (.loop [1, 6, 7, 8] (.seq (.region 0 [⟨some 9, .bin .lss (.t 8) (.t 7), none, 0⟩] false []) (.seq (.cond (.t 9) .skip (.exit 0)) (.seq (.block 1 (.seq (.region 1 [⟨some 10, .mv (.t 8), none, 0⟩, ⟨some 11, .iaddr 19 none (.t 6) (.t 8), none, 0⟩, ⟨some 12, .load 19 true (.t 11), none, 0⟩, ⟨some 4, .alloc 59 [.int .i64 0, .int .u8 0, .int .u8 0, .int .u8 0, .int .u8 0, .int .u8 0, .int .u8 0, .int .u8 0, .int .u8 0, .int .u8 0, .int .u8 0, .int .u8 0, .int .u8 0, .int .u8 0, .int .u8 0, .int .u8 0, .int .u8 0, .int .i64 0, .int .i64 0] [], none, 0⟩, ⟨some 3, .mv (.t 10), none, 0⟩, ⟨none, .store 19 (.t 4) (.t 12), none, 0⟩] false []) (.seq (.region 0 [⟨some 13, .mv (.t 3), none, 0⟩, ⟨some 14, .bin .eql (.t 13) (.c (.int .i64 40)), none, 0⟩, ⟨some 15, .mv (.t 14), none, 0⟩, ⟨some 16, .faddr 0 (.t 4), some (15, false), 0⟩, ⟨some 17, .load 18 true (.t 16), some (15, false), 0⟩, ⟨some 18, .callV 67 [.t 17] false, some (15, false), 0⟩, ⟨some 19, .bin .neq (.t 18) (.c (.int .i64 0)), some (15, false), 0⟩, ⟨some 20, .pick (.t 15) (.c (.bool true)) (.t 19), none, 0⟩, ⟨some 21, .mv (.t 20), none, 0⟩, ⟨some 22, .faddr 18 (.t 4), some (21, false), 0⟩, ⟨some 23, .load 1 false (.t 22), some (21, false), 0⟩, ⟨some 24, .callV 68 [.t 23] false, some (21, false), 0⟩, ⟨some 25, .not (.t 24), some (21, false), 0⟩, ⟨some 26, .pick (.t 21) (.c (.bool true)) (.t 25), none, 0⟩, ⟨some 27, .mv (.t 26), none, 0⟩, ⟨some 28, .mv (.t 3), some (27, false), 0⟩, ⟨some 29, .bin .gtr (.t 28) (.c (.int .i64 0)), some (27, false), 0⟩, ⟨some 30, .mv (.t 29), some (27, false), 0⟩, ⟨some 31, .faddr 0 (.t 1), some (30, true), 0⟩, ⟨some 32, .load 1 false (.t 31), some (30, true), 0⟩, ⟨some 33, .mv (.t 3), some (30, true), 0⟩, ⟨some 34, .bin .sub (.t 33) (.c (.int .i64 1)), some (30, true), 0⟩, ⟨some 35, .iaddr 19 none (.t 32) (.t 34), some (30, true), 0⟩, ⟨some 36, .load 19 true (.t 35), some (30, true), 0⟩, ⟨some 37, .faddr 0 (.t 4), some (30, true), 0⟩, ⟨some 38, .load 18 true (.t 37), some (30, true), 0⟩, ⟨some 39, .callV 86 [.t 36, .t 38] false, some (30, true), 0⟩, ⟨some 40, .bin .geq (.t 39) (.c (.int .i64 0)), some (30, true), 0⟩, ⟨some 41, .pick (.t 30) (.t 40) (.c (.bool false)), some (27, false), 0⟩, ⟨some 42, .pick (.t 27) (.c (.bool true)) (.t 41), none, 0⟩] true []) (.cond (.t 42) (.seq (.region 0 [⟨some 2, .mv (.c (.int .i64 190)), none, 0⟩] false []) .ret) .skip)))) (.region 0 [⟨some 43, .bin .add (.t 8) (.c (.int .i64 1)), none, 0⟩, ⟨some 8, .mv (.t 43), none, 0⟩] false []))))))) (.seq (.region 0 [⟨some 2, .mv (.c (.int .i64 0)), none, 0⟩] false []) .ret))), false⟩
theorem c60 : cFunc Tryd.prog G f60 Tryd.f60 = some f60 := by kernel_rfl
/-- junctionbox/prefix.CheckAddr -/
def f61 : AFunc :=
⟨1, [.t 2], (.seq (.region 1 [⟨some 1, .box 30 17 (.t 0) [], none, 0⟩, ⟨some 2, .mv (.c (.int .i64 0)), none, 0⟩] false []) (.seq (.seq (.region 0 [⟨some 4, .faddr 0 (.t 1), none, 0⟩, ⟨some 5, .load 1 false (.t 4), none, 0⟩, ⟨some 6, .callV 50 [.t 5] false, none, 0⟩, ⟨some 3, .mv (.t 6), none, 0⟩] false []) (.seq (.region 0 [⟨some 7, .mv (.t 3), none, 0⟩, ⟨some 8, .bin .eql (.t 7) (.c (.int .i64 0)), none, 0⟩, ⟨some 9, .mv (.t 8), none, 0⟩, ⟨some 10, .faddr 1 (.t 1), some (9, false), 0⟩, ⟨some 11, .load 16 true (.t 10), some (9, false), 0⟩, ⟨some 12, .mv (.t 3), some (9, false), 0⟩, ⟨some 13, .callV 87 [.t 11, .t 12] false, some (9, false), 0⟩, ⟨some 14, .not (.t 13), some (9, false), 0⟩, ⟨some 15, .pick (.t 9) (.c (.bool true)) (.t 14), none, 0⟩] false []) (.cond (.t 15) (.seq (.region 0 [⟨some 2, .mv (.c (.int .i64 150)), none, 0⟩] false []) .ret) .skip))) (.seq (.region 0 [⟨some 2, .mv (.c (.int .i64 0)), none, 0⟩] false []) .ret))), false⟩
theorem c61 : cFunc Tryd.prog G f61 Tryd.f61 = some f61 := by kernel_rfl
/-- junctionbox/query.Covering$1 -/
def f62 : AFunc :=
⟨2, [.t 3], (.seq (.region 1 [⟨some 2, .box 32 18 (.t 0) [], none, 0⟩, ⟨some 3, .mv (.c (.bool false)), none, 0⟩] false []) (.seq (.region 0 [⟨some 4, .load 18 true (.t 2), none, 0⟩, ⟨some 5, .load 17 true (.t 1), none, 0⟩, ⟨some 6, .callV 39 [.t 4, .t 5] false, none, 0⟩, ⟨some 3, .mv (.t 6), none, 0⟩] false []) .ret)), false⟩
theorem c62 : cFunc Tryd.prog G f62 Tryd.f62 = some f62 := by kernel_rfl
/-- junctionbox/query.Behind$1 -/
def f63 : AFunc :=
⟨2, [.t 3], (.seq (.region 1 [⟨some 2, .box 32 18 (.t 0) [], none, 0⟩, ⟨some 3, .mv (.c (.bool false)), none, 0⟩] false []) (.seq (.region 0 [⟨some 4, .faddr 0 (.t 2), none, 0⟩, ⟨some 5, .faddr 0 (.t 4), none, 0⟩, ⟨some 6, .load 1 false (.t 5), none, 0⟩, ⟨some 7, .faddr 0 (.t 1), none, 0⟩, ⟨some 8, .load 1 false (.t 7), none, 0⟩, ⟨some 9, .bin .eql (.t 6) (.t 8), none, 0⟩, ⟨some 10, .mv (.t 9), none, 0⟩, ⟨some 11, .faddr 0 (.t 2), some (10, true), 0⟩, ⟨some 12, .faddr 1 (.t 11), some (10, true), 0⟩, ⟨some 13, .slarr 1 16 (.t 12) none none, some (10, true), 0⟩, ⟨some 14, .faddr 1 (.t 1), some (10, true), 0⟩, ⟨some 15, .slarr 1 16 (.t 14) none none, some (10, true), 0⟩, ⟨some 16, .callV 64 [.t 13, .t 15] false, some (10, true), 0⟩, ⟨some 17, .bin .gtr (.t 16) (.c (.int .i64 0)), some (10, true), 0⟩, ⟨some 18, .pick (.t 10) (.t 17) (.c (.bool false)), none, 0⟩, ⟨some 3, .mv (.t 18), none, 0⟩] true []) .ret)), false⟩
theorem c63 : cFunc Tryd.prog G f63 Tryd.f63 = some f63 := by kernel_rfl
/-- bytes.Compare -/
def f64 : AFunc :=
⟨2, [.t 4], (.seq (.region 0 [⟨some 4, .mv (.c (.int .i64 0)), none, 0⟩] false []) (.seq (.region 0 [⟨some 5, .mv (.t 0), none, 0⟩, ⟨some 6, .mv (.t 1), none, 0⟩, ⟨some 7, .callV 88 [.t 5, .t 6] false, none, 0⟩, ⟨some 4, .mv (.t 7), none, 0⟩] false []) .ret)), false⟩
theorem c64 : cFunc Tryd.prog G f64 Tryd.f64 = some f64 := by kernel_rfl
/-- junctionbox/junctionboxref05.at -/
def f65 : AFunc :=
⟨2, [.t 4], (.seq (.region 1 [⟨some 2, .box 28 16 (.t 0) [], none, 0⟩, ⟨some 4, .mv (.c (.int .i64 0)), none, 0⟩] false []) (.seq (.region 0 [⟨some 5, .mv (.t 1), none, 0⟩, ⟨some 6, .bin .quo (.t 5) (.c (.int .i64 8)), none, 0⟩, ⟨some 7, .iaddr 1 (some 16) (.t 2) (.t 6), none, 0⟩, ⟨some 8, .load 1 false (.t 7), none, 0⟩, ⟨some 9, .conv .i64 (.t 8), none, 0⟩, ⟨some 10, .mv (.t 1), none, 0⟩, ⟨some 11, .bin .rem (.t 10) (.c (.int .i64 8)), none, 0⟩, ⟨some 12, .bin .sub (.c (.int .i64 7)) (.t 11), none, 0⟩, ⟨some 13, .conv .u64 (.t 12), none, 0⟩, ⟨some 14, .bin .shr (.t 9) (.t 13), none, 0⟩, ⟨some 15, .bin .rem (.t 14) (.c (.int .i64 2)), none, 0⟩, ⟨some 4, .mv (.t 15), none, 0⟩] false []) .ret)), false⟩
theorem c65 : cFunc Tryd.prog G f65 Tryd.f65 = some f65 := by kernel_rfl
/-- junctionbox/junctionboxref05.Has -/
def f66 : AFunc :=
⟨2, [.t 4], (.seq (.region 2 [⟨some 2, .box 32 18 (.t 0) [], none, 0⟩, ⟨some 3, .box 30 17 (.t 1) [], none, 1⟩, ⟨some 4, .mv (.c (.bool false)), none, 0⟩] false []) (.seq (.seq (.region 0 [⟨some 6, .load 18 true (.t 2), none, 0⟩, ⟨some 7, .callV 48 [.t 6] false, none, 0⟩, ⟨some 8, .not (.t 7), none, 0⟩, ⟨some 9, .mv (.t 8), none, 0⟩, ⟨some 10, .load 17 true (.t 3), some (9, false), 0⟩, ⟨some 11, .callV 33 [.t 10] false, some (9, false), 0⟩, ⟨some 12, .not (.t 11), some (9, false), 0⟩, ⟨some 13, .pick (.t 9) (.c (.bool true)) (.t 12), none, 0⟩, ⟨some 14, .mv (.t 13), none, 0⟩, ⟨some 15, .faddr 0 (.t 2), some (14, false), 0⟩, ⟨some 16, .faddr 0 (.t 15), some (14, false), 0⟩, ⟨some 17, .load 1 false (.t 16), some (14, false), 0⟩, ⟨some 18, .faddr 0 (.t 3), some (14, false), 0⟩, ⟨some 19, .load 1 false (.t 18), some (14, false), 0⟩, ⟨some 20, .bin .neq (.t 17) (.t 19), some (14, false), 0⟩, ⟨some 21, .pick (.t 14) (.c (.bool true)) (.t 20), none, 0⟩] false []) (.cond (.t 21) (.seq (.region 0 [⟨some 4, .mv (.c (.bool false)), none, 0⟩] false []) .ret) .skip)) (.seq (.seq (.region 0 [⟨some 5, .mv (.c (.int .i64 0)), none, 0⟩] false []) (.block 0 (.loop [2, 3, 5] (.seq (.seq (.region 0 [⟨some 22, .mv (.t 5), none, 0⟩, ⟨some 23, .faddr 17 (.t 2), none, 0⟩, ⟨some 24, .load 1 false (.t 23), none, 0⟩, ⟨some 25, .bin .lss (.t 22) (.t 24), none, 0⟩] false []) (.cond (.t 25) .skip (.exit 0))) (.seq (.block 1 (.seq (.region 0 [⟨some 28, .faddr 0 (.t 2), none, 0⟩, ⟨some 29, .faddr 1 (.t 28), none, 0⟩, ⟨some 30, .load 16 true (.t 29), none, 0⟩, ⟨some 31, .mv (.t 5), none, 0⟩, ⟨some 32, .callV 65 [.t 30, .t 31] false, none, 0⟩, ⟨some 33, .faddr 1 (.t 3), none, 0⟩, ⟨some 34, .load 16 true (.t 33), none, 0⟩, ⟨some 35, .mv (.t 5), none, 0⟩, ⟨some 36, .callV 65 [.t 34, .t 35] false, none, 0⟩, ⟨some 37, .bin .neq (.t 32) (.t 36), none, 0⟩] true []) (.cond (.t 37) (.seq (.region 0 [⟨some 4, .mv (.c (.bool false)), none, 0⟩] false []) .ret) .skip))) (.region 0 [⟨some 26, .mv (.t 5), none, 0⟩, ⟨some 27, .bin .add (.t 26) (.c (.int .i64 1)), none, 0⟩, ⟨some 5, .mv (.t 27), none, 0⟩] false [])))))) (.seq (.region 0 [⟨some 4, .mv (.c (.bool true)), none, 0⟩] false []) .ret)))), false⟩
theorem c66 : cFunc Tryd.prog G f66 Tryd.f66 = some f66 := by kernel_rfl
/-- junctionbox/prefix.Check -/
def f67 : AFunc :=
⟨1, [.t 2], (.seq (.region 1 [⟨some 1, .box 32 18 (.t 0) [], none, 0⟩, ⟨some 2, .mv (.c (.int .i64 0)), none, 0⟩] false []) (.seq (.seq (.region 0 [⟨some 3, .faddr 0 (.t 1), none, 0⟩, ⟨some 4, .load 17 true (.t 3), none, 0⟩, ⟨some 5, .callV 61 [.t 4] false, none, 0⟩, ⟨some 6, .bin .neq (.t 5) (.c (.int .i64 0)), none, 0⟩, ⟨some 7, .mv (.t 6), none, 0⟩, ⟨some 8, .faddr 17 (.t 1), some (7, false), 0⟩, ⟨some 9, .load 1 false (.t 8), some (7, false), 0⟩, ⟨some 10, .bin .lss (.t 9) (.c (.int .i64 0)), some (7, false), 0⟩, ⟨some 11, .pick (.t 7) (.c (.bool true)) (.t 10), none, 0⟩, ⟨some 12, .mv (.t 11), none, 0⟩, ⟨some 13, .faddr 17 (.t 1), some (12, false), 0⟩, ⟨some 14, .load 1 false (.t 13), some (12, false), 0⟩, ⟨some 15, .faddr 0 (.t 1), some (12, false), 0⟩, ⟨some 16, .faddr 0 (.t 15), some (12, false), 0⟩, ⟨some 17, .load 1 false (.t 16), some (12, false), 0⟩, ⟨some 18, .callV 50 [.t 17] false, some (12, false), 0⟩, ⟨some 19, .bin .gtr (.t 14) (.t 18), some (12, false), 0⟩, ⟨some 20, .pick (.t 12) (.c (.bool true)) (.t 19), none, 0⟩, ⟨some 21, .mv (.t 20), none, 0⟩, ⟨some 22, .faddr 0 (.t 1), some (21, false), 0⟩, ⟨some 23, .faddr 1 (.t 22), some (21, false), 0⟩, ⟨some 24, .load 16 true (.t 23), some (21, false), 0⟩, ⟨some 25, .faddr 17 (.t 1), some (21, false), 0⟩, ⟨some 26, .load 1 false (.t 25), some (21, false), 0⟩, ⟨some 27, .callV 87 [.t 24, .t 26] false, some (21, false), 0⟩, ⟨some 28, .not (.t 27), some (21, false), 0⟩, ⟨some 29, .pick (.t 21) (.c (.bool true)) (.t 28), none, 0⟩] true []) (.cond (.t 29) (.seq (.region 0 [⟨some 2, .mv (.c (.int .i64 151)), none, 0⟩] false []) .ret) .skip)) (.seq (.region 0 [⟨some 2, .mv (.c (.int .i64 0)), none, 0⟩] false []) .ret))), false⟩
theorem c67 : cFunc Tryd.prog G f67 Tryd.f67 = some f67 := by kernel_rfl
/-- junctionbox/table.hop -/
def f68 : AFunc :=
⟨1, [.t 2], (.seq (.region 0 [⟨some 2, .mv (.c (.bool false)), none, 0⟩] false []) (.seq (.region 0 [⟨some 3, .mv (.t 0), none, 0⟩, ⟨some 4, .bin .geq (.t 3) (.c (.int .i64 1)), none, 0⟩, ⟨some 5, .mv (.t 4), none, 0⟩, ⟨some 6, .mv (.t 0), some (5, true), 0⟩, ⟨some 7, .bin .leq (.t 6) (.c (.int .i64 255)), some (5, true), 0⟩, ⟨some 8, .pick (.t 5) (.t 7) (.c (.bool false)), none, 0⟩, ⟨some 2, .mv (.t 8), none, 0⟩] false []) .ret)), false⟩
theorem c68 : cFunc Tryd.prog G f68 Tryd.f68 = some f68 := by kernel_rfl
/-- junctionbox/table.place -/
def f69 : AFunc :=
⟨2, [.t 4, .t 5], (.seq (.region 2 [⟨some 2, .box 24 1 (.t 0) [], none, 0⟩, ⟨some 3, .box 32 18 (.t 1) [], none, 1⟩, ⟨some 4, .mv (.c (.int .i64 0)), none, 0⟩, ⟨some 5, .mv (.c (.bool false)), none, 0⟩] false []) (.seq (.region 0 [⟨some 6, .faddr 0 (.t 2), none, 0⟩, ⟨some 7, .load 1 false (.t 6), none, 0⟩, ⟨some 8, .load 18 true (.t 3), none, 0⟩, ⟨some 9, .callR (.c (.clo 89 [])) [.t 7, .t 8, .c (.clo 90 [])] false, none, 0⟩, ⟨some 10, .extr (.t 9) 0, none, 0⟩, ⟨some 11, .extr (.t 9) 1, none, 0⟩, ⟨some 4, .mv (.t 10), none, 0⟩, ⟨some 5, .mv (.t 11), none, 0⟩] false []) .ret)), false⟩
theorem c69 : cFunc Tryd.prog G f69 Tryd.f69 = some f69 := by kernel_rfl
/-- junctionbox/prefix.cut -/
def f72 : AFunc :=
⟨2, [.cell 4 16 true], (.seq (.region 2 [⟨some 2, .box 28 16 (.t 0) [], none, 0⟩, ⟨some 4, .alloc 28 [.int .u8 0, .int .u8 0, .int .u8 0, .int .u8 0, .int .u8 0, .int .u8 0, .int .u8 0, .int .u8 0, .int .u8 0, .int .u8 0, .int .u8 0, .int .u8 0, .int .u8 0, .int .u8 0, .int .u8 0, .int .u8 0] [], none, 1⟩] false []) (.seq (.seq (.region 0 [⟨some 7, .mv (.c (.int .i64 0)), none, 0⟩] false []) (.block 0 (.loop [1, 2, 4, 7] (.seq (.region 0 [⟨some 8, .bin .lss (.t 7) (.c (.int .i64 16)), none, 0⟩] false []) (.seq (.cond (.t 8) .skip (.exit 0)) (.seq (.block 1 (.seq (.region 0 [⟨some 9, .mv (.t 7), none, 0⟩, ⟨some 5, .mv (.t 9), none, 0⟩] false []) (.seq (.region 0 [⟨some 10, .mv (.t 1), none, 0⟩, ⟨some 11, .mv (.t 5), none, 0⟩, ⟨some 12, .bin .mul (.c (.int .i64 8)) (.t 11), none, 0⟩, ⟨some 13, .bin .sub (.t 10) (.t 12), none, 0⟩, ⟨some 6, .mv (.t 13), none, 0⟩] false []) (.block 2 (.seq (.region 0 [⟨some 15, .mv (.t 6), none, 0⟩, ⟨some 16, .bin .leq (.t 15) (.c (.int .i64 0)), none, 0⟩, ⟨some 14, .mv (.t 16), none, 0⟩] false []) (.cond (.t 14) (.region 0 [⟨some 17, .mv (.t 5), none, 0⟩, ⟨some 18, .iaddr 1 (some 16) (.t 2) (.t 17), none, 0⟩, ⟨none, .store 1 (.t 18) (.c (.int .u8 0)), none, 0⟩] false []) (.seq (.region 0 [⟨some 20, .mv (.t 6), none, 0⟩, ⟨some 21, .bin .lss (.t 20) (.c (.int .i64 8)), none, 0⟩, ⟨some 19, .mv (.t 21), none, 0⟩] false []) (.cond (.t 19) (.region 0 [⟨some 22, .mv (.t 5), none, 0⟩, ⟨some 23, .iaddr 1 (some 16) (.t 2) (.t 22), none, 0⟩, ⟨some 24, .load 1 false (.t 23), none, 0⟩, ⟨some 25, .mv (.t 6), none, 0⟩, ⟨some 26, .bin .sub (.c (.int .i64 8)) (.t 25), none, 0⟩, ⟨some 27, .bin .shl (.c (.int .u8 255)) (.t 26), none, 0⟩, ⟨some 28, .bin .and (.t 24) (.t 27), none, 0⟩, ⟨some 29, .iaddr 1 (some 16) (.t 2) (.t 22), none, 0⟩, ⟨none, .store 1 (.t 29) (.t 28), none, 0⟩] true []) .skip)))))))) (.region 0 [⟨some 30, .bin .add (.t 7) (.c (.int .i64 1)), none, 0⟩, ⟨some 7, .mv (.t 30), none, 0⟩] false []))))))) (.seq (.region 0 [⟨some 31, .load 16 true (.t 2), none, 0⟩, ⟨none, .store 16 (.t 4) (.t 31), none, 0⟩] false []) .ret))), false⟩
theorem c72 : cFunc Tryd.prog G f72 Tryd.f72 = some f72 := by kernel_rfl
/-- cmp.Or[int] -/
def f73 : AFunc :=
⟨1, [.t 2], (.seq (.region 0 [⟨some 2, .mv (.c (.int .i64 0)), none, 0⟩] false []) (.seq (.region 0 [⟨some 3, .mv (.c (.int .i64 0)), none, 0⟩] false []) (.seq (.seq (.region 0 [⟨some 6, .mv (.t 0), none, 0⟩, ⟨some 7, .len (.t 6), none, 0⟩, ⟨some 8, .mv (.c (.int .i64 0)), none, 0⟩] false []) (.block 0 (.loop [3, 6, 7, 8] (.seq (.region 0 [⟨some 9, .bin .lss (.t 8) (.t 7), none, 0⟩] false []) (.seq (.cond (.t 9) .skip (.exit 0)) (.seq (.block 1 (.seq (.region 0 [⟨some 10, .iaddr 1 none (.t 6) (.t 8), none, 0⟩, ⟨some 11, .load 1 false (.t 10), none, 0⟩, ⟨some 5, .mv (.t 11), none, 0⟩] false []) (.seq (.region 0 [⟨some 12, .mv (.t 5), none, 0⟩, ⟨some 13, .mv (.t 3), none, 0⟩, ⟨some 14, .bin .neq (.t 12) (.t 13), none, 0⟩] false []) (.cond (.t 14) (.seq (.region 0 [⟨some 15, .mv (.t 5), none, 0⟩, ⟨some 2, .mv (.t 15), none, 0⟩] false []) .ret) .skip)))) (.region 0 [⟨some 16, .bin .add (.t 8) (.c (.int .i64 1)), none, 0⟩, ⟨some 8, .mv (.t 16), none, 0⟩] false []))))))) (.seq (.region 0 [⟨some 17, .mv (.t 3), none, 0⟩, ⟨some 2, .mv (.t 17), none, 0⟩] false []) .ret)))), false⟩
theorem c73 : cFunc Tryd.prog G f73 Tryd.f73 = some f73 := by kernel_rfl
/-- cmp.Compare[int] -/
def f74 : AFunc :=
⟨2, [.t 4], (.seq (.region 0 [⟨some 4, .mv (.c (.int .i64 0)), none, 0⟩] false []) (.seq (.region 0 [⟨some 7, .mv (.t 0), none, 0⟩, ⟨some 8, .callV 93 [.t 7] false, none, 0⟩, ⟨some 5, .mv (.t 8), none, 0⟩] false []) (.seq (.region 0 [⟨some 9, .mv (.t 1), none, 0⟩, ⟨some 10, .callV 93 [.t 9] false, none, 0⟩, ⟨some 6, .mv (.t 10), none, 0⟩] false []) (.seq (.seq (.region 0 [⟨some 11, .mv (.t 5), none, 0⟩] false []) (.cond (.t 11) (.seq (.seq (.region 0 [⟨some 12, .mv (.t 6), none, 0⟩] false []) (.cond (.t 12) (.seq (.region 0 [⟨some 4, .mv (.c (.int .i64 0)), none, 0⟩] false []) .ret) .skip)) (.seq (.region 0 [⟨some 4, .mv (.c (.int .i64 (-1))), none, 0⟩] false []) .ret)) .skip)) (.seq (.seq (.region 0 [⟨some 13, .mv (.t 6), none, 0⟩] false []) (.cond (.t 13) (.seq (.region 0 [⟨some 4, .mv (.c (.int .i64 1)), none, 0⟩] false []) .ret) .skip)) (.seq (.seq (.region 0 [⟨some 14, .mv (.t 0), none, 0⟩, ⟨some 15, .mv (.t 1), none, 0⟩, ⟨some 16, .bin .lss (.t 14) (.t 15), none, 0⟩] false []) (.cond (.t 16) (.seq (.region 0 [⟨some 4, .mv (.c (.int .i64 (-1))), none, 0⟩] false []) .ret) .skip)) (.seq (.seq (.region 0 [⟨some 17, .mv (.t 0), none, 0⟩, ⟨some 18, .mv (.t 1), none, 0⟩, ⟨some 19, .bin .gtr (.t 17) (.t 18), none, 0⟩] false []) (.cond (.t 19) (.seq (.region 0 [⟨some 4, .mv (.c (.int .i64 1)), none, 0⟩] false []) .ret) .skip)) (.seq (.region 0 [⟨some 4, .mv (.c (.int .i64 0)), none, 0⟩] false []) .ret)))))))), false⟩
theorem c74 : cFunc Tryd.prog G f74 Tryd.f74 = some f74 := by kernel_rfl
/-- slices.Delete[[]junctionbox/api.Row,junctionbox/api.Row] -/
def f75 : AFunc :=
⟨3, [.t 6], (.seq (.region 1 [⟨some 6, .newl 59 19, none, 0⟩] false []) (.seq (.region 0 [⟨some 8, .mv (.t 0), none, 0⟩, ⟨some 9, .mv (.t 1), none, 0⟩, ⟨some 10, .mv (.t 2), none, 0⟩, ⟨some 11, .mv (.t 0), none, 0⟩, ⟨some 12, .len (.t 11), none, 0⟩, ⟨some 13, .sliceL 1 19 (.t 8) (some (.t 9)) (some (.t 10)) (some (.t 12)), none, 0⟩] false []) (.seq (.seq (.region 0 [⟨some 14, .mv (.t 1), none, 0⟩, ⟨some 15, .mv (.t 2), none, 0⟩, ⟨some 16, .bin .eql (.t 14) (.t 15), none, 0⟩] false []) (.cond (.t 16) (.seq (.region 0 [⟨some 17, .mv (.t 0), none, 0⟩, ⟨some 6, .mv (.t 17), none, 0⟩] false []) .ret) .skip)) (.seq (.region 0 [⟨some 18, .mv (.t 0), none, 0⟩, ⟨some 19, .len (.t 18), none, 0⟩, ⟨some 7, .mv (.t 19), none, 0⟩] false []) (.seq (.region 0 [⟨some 20, .mv (.t 0), none, 0⟩, ⟨some 21, .mv (.t 1), none, 0⟩, ⟨some 22, .slice 19 (.t 20) none (some (.t 21)) none, none, 0⟩, ⟨some 23, .mv (.t 0), none, 0⟩, ⟨some 24, .mv (.t 2), none, 0⟩, ⟨some 25, .slice 19 (.t 23) (some (.t 24)) none none, none, 0⟩, ⟨some 26, .appIn 59 19 (.t 22) (.t 25), none, 0⟩, ⟨some 0, .mv (.t 26), none, 0⟩] true []) (.seq (.region 0 [⟨some 27, .mv (.t 0), none, 0⟩, ⟨some 28, .mv (.t 0), none, 0⟩, ⟨some 29, .len (.t 28), none, 0⟩, ⟨some 30, .mv (.t 7), none, 0⟩, ⟨some 31, .sliceL 2 19 (.t 27) (some (.t 29)) (some (.t 30)) none, none, 0⟩, ⟨none, .clear [.int .i64 0, .int .u8 0, .int .u8 0, .int .u8 0, .int .u8 0, .int .u8 0, .int .u8 0, .int .u8 0, .int .u8 0, .int .u8 0, .int .u8 0, .int .u8 0, .int .u8 0, .int .u8 0, .int .u8 0, .int .u8 0, .int .u8 0, .int .i64 0, .int .i64 0] (.t 31), none, 0⟩] false []) (.seq (.region 0 [⟨some 32, .mv (.t 0), none, 0⟩, ⟨some 6, .mv (.t 32), none, 0⟩] false []) .ret))))))), false⟩
theorem c75 : cFunc Tryd.prog G f75 Tryd.f75 = some f75 := by kernel_rfl
/-- junctionbox/query.that$1 -/
def f76 : AFunc :=
⟨3, [], (.seq (.region 0 [⟨some 6, .faddr 0 (.t 1), none, 0⟩, ⟨some 7, .load 1 false (.t 6), none, 0⟩, ⟨some 8, .len (.t 7), none, 0⟩, ⟨some 9, .mv (.c (.int .i64 0)), none, 0⟩] false []) (.block 0 (.loop [0, 2, 7, 8, 9] (.seq (.region 0 [⟨some 10, .bin .lss (.t 9) (.t 8), none, 0⟩] false []) (.seq (.cond (.t 10) .skip (.exit 0)) (.seq (.block 1 (.seq (.region 1 [⟨some 11, .iaddr 19 none (.t 7) (.t 9), none, 0⟩, ⟨some 12, .load 19 true (.t 11), none, 0⟩, ⟨some 5, .alloc 59 [.int .i64 0, .int .u8 0, .int .u8 0, .int .u8 0, .int .u8 0, .int .u8 0, .int .u8 0, .int .u8 0, .int .u8 0, .int .u8 0, .int .u8 0, .int .u8 0, .int .u8 0, .int .u8 0, .int .u8 0, .int .u8 0, .int .u8 0, .int .i64 0, .int .i64 0] [], none, 0⟩, ⟨none, .store 19 (.t 5) (.t 12), none, 0⟩] false []) (.seq (.region 0 [⟨some 13, .load 1 false (.t 2), none, 0⟩, ⟨some 14, .faddr 0 (.t 5), none, 0⟩, ⟨some 15, .load 18 true (.t 14), none, 0⟩, ⟨some 16, .callR (.t 13) [.t 15] false, none, 0⟩, ⟨some 17, .mv (.t 16), none, 0⟩, ⟨some 18, .mv (.t 0), some (17, true), 0⟩, ⟨some 19, .load 19 true (.t 5), some (17, true), 0⟩, ⟨some 20, .callR (.t 18) [.t 19] false, some (17, true), 0⟩, ⟨some 21, .not (.t 20), some (17, true), 0⟩, ⟨some 22, .pick (.t 17) (.t 21) (.c (.bool false)), none, 0⟩] false []) (.cond (.t 22) .ret .skip)))) (.region 0 [⟨some 23, .bin .add (.t 9) (.c (.int .i64 1)), none, 0⟩, ⟨some 9, .mv (.t 23), none, 0⟩] false []))))))), false⟩
theorem c76 : cFunc Tryd.prog G f76 Tryd.f76 = some f76 := by kernel_rfl
/-- slices.ContainsFunc[[]junctionbox/api.Prefix,junctionbox/api.Prefix] -/
def f77 : AFunc :=
⟨2, [.t 4], (.seq (.region 0 [⟨some 4, .mv (.c (.bool false)), none, 0⟩] false []) (.seq (.region 0 [⟨some 5, .mv (.t 0), none, 0⟩, ⟨some 6, .mv (.t 1), none, 0⟩, ⟨some 7, .callR (.c (.clo 94 [])) [.t 5, .t 6] false, none, 0⟩, ⟨some 8, .bin .geq (.t 7) (.c (.int .i64 0)), none, 0⟩, ⟨some 4, .mv (.t 8), none, 0⟩] false []) .ret)), false⟩
theorem c77 : cFunc Tryd.prog G f77 Tryd.f77 = some f77 := by kernel_rfl
/-- junctionbox/query.free$1 -/
def f78 : AFunc :=
⟨2, [.t 3], (.seq (.region 1 [⟨some 2, .box 32 18 (.t 0) [], none, 0⟩, ⟨some 3, .mv (.c (.bool false)), none, 0⟩] false []) (.seq (.region 0 [⟨some 4, .load 18 true (.t 2), none, 0⟩, ⟨some 5, .load 18 true (.t 1), none, 0⟩, ⟨some 6, .callV 37 [.t 4, .t 5] false, none, 0⟩, ⟨some 3, .mv (.t 6), none, 0⟩] false []) .ret)), false⟩
theorem c78 : cFunc Tryd.prog G f78 Tryd.f78 = some f78 := by kernel_rfl
/-- slices.DeleteFunc[[]junctionbox/api.Prefix,junctionbox/api.Prefix] -/
def f79 : AFunc :=
⟨2, [.t 4], (.seq (.region 1 [⟨some 4, .newl 32 18, none, 0⟩] false []) (.seq (.region 0 [⟨some 8, .mv (.t 0), none, 0⟩, ⟨some 9, .mv (.t 1), none, 0⟩, ⟨some 10, .callR (.c (.clo 94 [])) [.t 8, .t 9] false, none, 0⟩, ⟨some 5, .mv (.t 10), none, 0⟩] false []) (.seq (.seq (.region 0 [⟨some 11, .mv (.t 5), none, 0⟩, ⟨some 12, .bin .eql (.t 11) (.c (.int .i64 (-1))), none, 0⟩] false []) (.cond (.t 12) (.seq (.region 0 [⟨some 13, .mv (.t 0), none, 0⟩, ⟨some 4, .mv (.t 13), none, 0⟩] false []) .ret) .skip)) (.seq (.seq (.region 0 [⟨some 14, .mv (.t 5), none, 0⟩, ⟨some 15, .bin .add (.t 14) (.c (.int .i64 1)), none, 0⟩, ⟨some 6, .mv (.t 15), none, 0⟩] false []) (.block 0 (.loop [0, 1, 5, 6] (.seq (.seq (.region 0 [⟨some 16, .mv (.t 6), none, 0⟩, ⟨some 17, .mv (.t 0), none, 0⟩, ⟨some 18, .len (.t 17), none, 0⟩, ⟨some 19, .bin .lss (.t 16) (.t 18), none, 0⟩] false []) (.cond (.t 19) .skip (.exit 0))) (.seq (.block 1 (.seq (.region 1 [⟨some 22, .mv (.t 0), none, 0⟩, ⟨some 23, .mv (.t 6), none, 0⟩, ⟨some 24, .iaddr 18 none (.t 22) (.t 23), none, 0⟩, ⟨some 25, .load 18 true (.t 24), none, 0⟩, ⟨some 7, .alloc 32 [.int .i64 0, .int .u8 0, .int .u8 0, .int .u8 0, .int .u8 0, .int .u8 0, .int .u8 0, .int .u8 0, .int .u8 0, .int .u8 0, .int .u8 0, .int .u8 0, .int .u8 0, .int .u8 0, .int .u8 0, .int .u8 0, .int .u8 0, .int .i64 0] [], none, 0⟩, ⟨none, .store 18 (.t 7) (.t 25), none, 0⟩] false []) (.seq (.region 0 [⟨some 26, .mv (.t 1), none, 0⟩, ⟨some 27, .load 18 true (.t 7), none, 0⟩, ⟨some 28, .callR (.t 26) [.t 27] false, none, 0⟩, ⟨some 29, .not (.t 28), none, 0⟩] false []) (.cond (.t 29) (.seq (.region 0 [⟨some 30, .mv (.t 0), none, 0⟩, ⟨some 31, .mv (.t 5), none, 0⟩, ⟨some 32, .load 18 true (.t 7), none, 0⟩, ⟨some 33, .iaddr 18 none (.t 30) (.t 31), none, 0⟩, ⟨none, .store 18 (.t 33) (.t 32), none, 0⟩] false []) (.region 0 [⟨some 34, .mv (.t 5), none, 0⟩, ⟨some 35, .bin .add (.t 34) (.c (.int .i64 1)), none, 0⟩, ⟨some 5, .mv (.t 35), none, 0⟩] false [])) .skip)))) (.region 0 [⟨some 20, .mv (.t 6), none, 0⟩, ⟨some 21, .bin .add (.t 20) (.c (.int .i64 1)), none, 0⟩, ⟨some 6, .mv (.t 21), none, 0⟩] false [])))))) (.seq (.region 0 [⟨some 36, .mv (.t 0), none, 0⟩, ⟨some 37, .mv (.t 5), none, 0⟩, ⟨some 38, .slice 18 (.t 36) (some (.t 37)) none none, none, 0⟩, ⟨none, .clear [.int .i64 0, .int .u8 0, .int .u8 0, .int .u8 0, .int .u8 0, .int .u8 0, .int .u8 0, .int .u8 0, .int .u8 0, .int .u8 0, .int .u8 0, .int .u8 0, .int .u8 0, .int .u8 0, .int .u8 0, .int .u8 0, .int .u8 0, .int .i64 0] (.t 38), none, 0⟩] false []) (.seq (.region 0 [⟨some 39, .mv (.t 0), none, 0⟩, ⟨some 40, .mv (.t 5), none, 0⟩, ⟨some 41, .slice 18 (.t 39) none (some (.t 40)) none, none, 0⟩, ⟨some 4, .mv (.t 41), none, 0⟩] false []) .ret)))))), false⟩
theorem c79 : cFunc Tryd.prog G f79 Tryd.f79 = some f79 := by kernel_rfl
end Go.Proofs.YtihbammfchnjgaaDoor.F

/- Functions in the evaluator's form, 4. No condition. -/
namespace Go.Proofs.YtihbammfchnjgaaDoor.F
open Go Go.Proofs.YtihbammfchnjgaaDoor.A
/-- junctionbox/query.free$2 -/
def f81 : AFunc :=
⟨2, [.t 3], (.seq (.region 1 [⟨some 2, .box 32 18 (.t 0) [], none, 0⟩, ⟨some 3, .mv (.c (.bool false)), none, 0⟩] false []) (.seq (.region 0 [⟨some 4, .load 18 true (.t 1), none, 0⟩, ⟨some 5, .load 18 true (.t 2), none, 0⟩, ⟨some 6, .callV 37 [.t 4, .t 5] false, none, 0⟩, ⟨some 7, .not (.t 6), none, 0⟩, ⟨some 3, .mv (.t 7), none, 0⟩] false []) .ret)), false⟩
theorem c81 : cFunc Tryd.prog G f81 Tryd.f81 = some f81 := by kernel_rfl
/-- junctionbox/prefix.Of -/
def f82 : AFunc :=
⟨2, [.cell 4 18 true, .t 5], (.seq (.region 2 [⟨some 2, .box 30 17 (.t 0) [], none, 0⟩, ⟨some 4, .alloc 32 [.int .i64 0, .int .u8 0, .int .u8 0, .int .u8 0, .int .u8 0, .int .u8 0, .int .u8 0, .int .u8 0, .int .u8 0, .int .u8 0, .int .u8 0, .int .u8 0, .int .u8 0, .int .u8 0, .int .u8 0, .int .u8 0, .int .u8 0, .int .i64 0] [], none, 1⟩, ⟨some 5, .mv (.c (.int .i64 0)), none, 0⟩] false []) (.seq (.block 0 (.seq (.region 0 [⟨some 7, .load 17 true (.t 2), none, 0⟩, ⟨some 8, .callV 61 [.t 7] false, none, 0⟩, ⟨some 9, .bin .neq (.t 8) (.c (.int .i64 0)), none, 0⟩, ⟨some 6, .mv (.t 9), none, 0⟩] false []) (.cond (.t 6) (.seq (.region 0 [⟨some 10, .build [.int .i64 0, .int .u8 0, .int .u8 0, .int .u8 0, .int .u8 0, .int .u8 0, .int .u8 0, .int .u8 0, .int .u8 0, .int .u8 0, .int .u8 0, .int .u8 0, .int .u8 0, .int .u8 0, .int .u8 0, .int .u8 0, .int .u8 0, .int .i64 0] [] [], none, 0⟩, ⟨none, .store 18 (.t 4) (.t 10), none, 0⟩, ⟨some 5, .mv (.c (.int .i64 150)), none, 0⟩] false []) .ret) (.seq (.region 0 [⟨some 12, .mv (.t 1), none, 0⟩, ⟨some 13, .bin .lss (.t 12) (.c (.int .i64 0)), none, 0⟩, ⟨some 14, .mv (.t 13), none, 0⟩, ⟨some 15, .mv (.t 1), some (14, false), 0⟩, ⟨some 16, .faddr 0 (.t 2), some (14, false), 0⟩, ⟨some 17, .load 1 false (.t 16), some (14, false), 0⟩, ⟨some 18, .callV 50 [.t 17] false, some (14, false), 0⟩, ⟨some 19, .bin .gtr (.t 15) (.t 18), some (14, false), 0⟩, ⟨some 20, .pick (.t 14) (.c (.bool true)) (.t 19), none, 0⟩, ⟨some 11, .mv (.t 20), none, 0⟩] false []) (.cond (.t 11) (.seq (.region 0 [⟨some 21, .build [.int .i64 0, .int .u8 0, .int .u8 0, .int .u8 0, .int .u8 0, .int .u8 0, .int .u8 0, .int .u8 0, .int .u8 0, .int .u8 0, .int .u8 0, .int .u8 0, .int .u8 0, .int .u8 0, .int .u8 0, .int .u8 0, .int .u8 0, .int .i64 0] [] [], none, 0⟩, ⟨none, .store 18 (.t 4) (.t 21), none, 0⟩, ⟨some 5, .mv (.c (.int .i64 2)), none, 0⟩] false []) .ret) .skip))))) (.seq (.region 0 [⟨some 22, .faddr 1 (.t 2), none, 0⟩, ⟨some 23, .load 16 true (.t 22), none, 0⟩, ⟨some 24, .mv (.t 1), none, 0⟩, ⟨some 25, .callV 72 [.t 23, .t 24] false, none, 0⟩, ⟨some 26, .faddr 1 (.t 2), none, 0⟩, ⟨none, .store 16 (.t 26) (.t 25), none, 0⟩] false []) (.seq (.region 0 [⟨some 27, .load 17 true (.t 2), none, 0⟩, ⟨some 28, .mv (.t 1), none, 0⟩, ⟨some 29, .build [.int .i64 0, .int .u8 0, .int .u8 0, .int .u8 0, .int .u8 0, .int .u8 0, .int .u8 0, .int .u8 0, .int .u8 0, .int .u8 0, .int .u8 0, .int .u8 0, .int .u8 0, .int .u8 0, .int .u8 0, .int .u8 0, .int .u8 0, .int .i64 0] [(0, 17, .t 27), (17, 1, .t 28)] [], none, 0⟩, ⟨none, .store 18 (.t 4) (.t 29), none, 0⟩, ⟨some 5, .mv (.c (.int .i64 0)), none, 0⟩] false []) .ret)))), false⟩
theorem c82 : cFunc Tryd.prog G f82 Tryd.f82 = some f82 := by kernel_rfl
/-- junctionbox/junctionboxref05.Of -/
def f83 : AFunc :=
⟨2, [.cell 4 18 true, .t 5], (.seq (.region 2 [⟨some 2, .box 30 17 (.t 0) [], none, 0⟩, ⟨some 4, .alloc 32 [.int .i64 0, .int .u8 0, .int .u8 0, .int .u8 0, .int .u8 0, .int .u8 0, .int .u8 0, .int .u8 0, .int .u8 0, .int .u8 0, .int .u8 0, .int .u8 0, .int .u8 0, .int .u8 0, .int .u8 0, .int .u8 0, .int .u8 0, .int .i64 0] [], none, 1⟩, ⟨some 5, .mv (.c (.int .i64 0)), none, 0⟩] false []) (.seq (.seq (.region 0 [⟨some 8, .load 17 true (.t 2), none, 0⟩, ⟨some 9, .callV 33 [.t 8] false, none, 0⟩, ⟨some 10, .not (.t 9), none, 0⟩] false []) (.cond (.t 10) (.seq (.region 0 [⟨some 11, .build [.int .i64 0, .int .u8 0, .int .u8 0, .int .u8 0, .int .u8 0, .int .u8 0, .int .u8 0, .int .u8 0, .int .u8 0, .int .u8 0, .int .u8 0, .int .u8 0, .int .u8 0, .int .u8 0, .int .u8 0, .int .u8 0, .int .u8 0, .int .i64 0] [] [], none, 0⟩, ⟨none, .store 18 (.t 4) (.t 11), none, 0⟩, ⟨some 5, .mv (.c (.int .i64 150)), none, 0⟩] false []) .ret) .skip)) (.seq (.seq (.region 0 [⟨some 12, .mv (.t 1), none, 0⟩, ⟨some 13, .bin .lss (.t 12) (.c (.int .i64 0)), none, 0⟩, ⟨some 14, .mv (.t 13), none, 0⟩, ⟨some 15, .mv (.t 1), some (14, false), 0⟩, ⟨some 16, .faddr 0 (.t 2), some (14, false), 0⟩, ⟨some 17, .load 1 false (.t 16), some (14, false), 0⟩, ⟨some 18, .callV 21 [.t 17] false, some (14, false), 0⟩, ⟨some 19, .bin .gtr (.t 15) (.t 18), some (14, false), 0⟩, ⟨some 20, .pick (.t 14) (.c (.bool true)) (.t 19), none, 0⟩] false []) (.cond (.t 20) (.seq (.region 0 [⟨some 21, .build [.int .i64 0, .int .u8 0, .int .u8 0, .int .u8 0, .int .u8 0, .int .u8 0, .int .u8 0, .int .u8 0, .int .u8 0, .int .u8 0, .int .u8 0, .int .u8 0, .int .u8 0, .int .u8 0, .int .u8 0, .int .u8 0, .int .u8 0, .int .i64 0] [] [], none, 0⟩, ⟨none, .store 18 (.t 4) (.t 21), none, 0⟩, ⟨some 5, .mv (.c (.int .i64 2)), none, 0⟩] false []) .ret) .skip)) (.seq (.region 1 [⟨some 22, .faddr 0 (.t 2), none, 0⟩, ⟨some 23, .load 1 false (.t 22), none, 0⟩, ⟨some 24, .build [.int .i64 0, .int .u8 0, .int .u8 0, .int .u8 0, .int .u8 0, .int .u8 0, .int .u8 0, .int .u8 0, .int .u8 0, .int .u8 0, .int .u8 0, .int .u8 0, .int .u8 0, .int .u8 0, .int .u8 0, .int .u8 0, .int .u8 0] [(0, 1, .t 23)] [], none, 0⟩, ⟨some 25, .mv (.t 1), none, 0⟩, ⟨some 26, .build [.int .i64 0, .int .u8 0, .int .u8 0, .int .u8 0, .int .u8 0, .int .u8 0, .int .u8 0, .int .u8 0, .int .u8 0, .int .u8 0, .int .u8 0, .int .u8 0, .int .u8 0, .int .u8 0, .int .u8 0, .int .u8 0, .int .u8 0, .int .i64 0] [(0, 17, .t 24), (17, 1, .t 25)] [], none, 0⟩, ⟨some 6, .alloc 32 [.int .i64 0, .int .u8 0, .int .u8 0, .int .u8 0, .int .u8 0, .int .u8 0, .int .u8 0, .int .u8 0, .int .u8 0, .int .u8 0, .int .u8 0, .int .u8 0, .int .u8 0, .int .u8 0, .int .u8 0, .int .u8 0, .int .u8 0, .int .i64 0] [], none, 0⟩, ⟨none, .store 18 (.t 6) (.t 26), none, 0⟩] false []) (.seq (.seq (.region 0 [⟨some 7, .mv (.c (.int .i64 0)), none, 0⟩] false []) (.block 0 (.loop [1, 2, 4, 6, 7] (.seq (.seq (.region 0 [⟨some 27, .mv (.t 7), none, 0⟩, ⟨some 28, .mv (.t 1), none, 0⟩, ⟨some 29, .bin .lss (.t 27) (.t 28), none, 0⟩] false []) (.cond (.t 29) .skip (.exit 0))) (.seq (.block 1 (.seq (.region 0 [⟨some 32, .faddr 1 (.t 2), none, 0⟩, ⟨some 33, .load 16 true (.t 32), none, 0⟩, ⟨some 34, .mv (.t 7), none, 0⟩, ⟨some 35, .callV 65 [.t 33, .t 34] false, none, 0⟩, ⟨some 36, .bin .eql (.t 35) (.c (.int .i64 1)), none, 0⟩] false []) (.cond (.t 36) (.region 0 [⟨some 37, .mv (.t 7), none, 0⟩, ⟨some 38, .bin .quo (.t 37) (.c (.int .i64 8)), none, 0⟩, ⟨some 39, .mv (.t 7), none, 0⟩, ⟨some 40, .bin .quo (.t 39) (.c (.int .i64 8)), none, 0⟩, ⟨some 41, .faddr 0 (.t 6), none, 0⟩, ⟨some 42, .faddr 1 (.t 41), none, 0⟩, ⟨some 43, .iaddr 1 (some 16) (.t 42) (.t 40), none, 0⟩, ⟨some 44, .load 1 false (.t 43), none, 0⟩, ⟨some 45, .mv (.t 7), none, 0⟩, ⟨some 46, .bin .rem (.t 45) (.c (.int .i64 8)), none, 0⟩, ⟨some 47, .conv .u64 (.t 46), none, 0⟩, ⟨some 48, .bin .shr (.c (.int .u8 128)) (.t 47), none, 0⟩, ⟨some 49, .bin .add (.t 44) (.t 48), none, 0⟩, ⟨some 50, .faddr 0 (.t 6), none, 0⟩, ⟨some 51, .faddr 1 (.t 50), none, 0⟩, ⟨some 52, .iaddr 1 (some 16) (.t 51) (.t 38), none, 0⟩, ⟨none, .store 1 (.t 52) (.t 49), none, 0⟩] false []) .skip))) (.region 0 [⟨some 30, .mv (.t 7), none, 0⟩, ⟨some 31, .bin .add (.t 30) (.c (.int .i64 1)), none, 0⟩, ⟨some 7, .mv (.t 31), none, 0⟩] false [])))))) (.seq (.region 0 [⟨some 53, .load 18 true (.t 6), none, 0⟩, ⟨none, .store 18 (.t 4) (.t 53), none, 0⟩, ⟨some 5, .mv (.c (.int .i64 0)), none, 0⟩] false []) .ret)))))), false⟩
theorem c83 : cFunc Tryd.prog G f83 Tryd.f83 = some f83 := by kernel_rfl
/-- slices.AppendSeq[[]junctionbox/api.Row,junctionbox/api.Row] -/
def f84 : AFunc :=
⟨2, [.t 4], (.seq (.region 3 [⟨some 2, .box 22 1 (.t 0) [(0, 59, 19)], none, 0⟩, ⟨some 4, .newl 59 19, none, 2⟩] false []) (.seq (.seq (.region 0 [⟨some 6, .mv (.t 1), none, 0⟩] false []) (.block 0 (.range (.t 6) [7] (.region 1 [⟨some 5, .alloc 59 [.int .i64 0, .int .u8 0, .int .u8 0, .int .u8 0, .int .u8 0, .int .u8 0, .int .u8 0, .int .u8 0, .int .u8 0, .int .u8 0, .int .u8 0, .int .u8 0, .int .u8 0, .int .u8 0, .int .u8 0, .int .u8 0, .int .u8 0, .int .i64 0, .int .i64 0] [], none, 0⟩, ⟨none, .store 19 (.t 5) (.t 7), none, 0⟩] false []) (.block 1 (.region 2 [⟨some 8, .load 1 false (.t 2), none, 0⟩, ⟨some 9, .load 19 true (.t 5), none, 0⟩, ⟨some 10, .buildSl 59 19 [.int .i64 0, .int .u8 0, .int .u8 0, .int .u8 0, .int .u8 0, .int .u8 0, .int .u8 0, .int .u8 0, .int .u8 0, .int .u8 0, .int .u8 0, .int .u8 0, .int .u8 0, .int .u8 0, .int .u8 0, .int .u8 0, .int .u8 0, .int .i64 0, .int .i64 0] 1 [(0, .t 9)] true, none, 0⟩, ⟨some 11, .append 59 19 40 (.t 8) (.t 10), none, 1⟩, ⟨none, .store 1 (.t 2) (.t 11), none, 0⟩] false []))))) (.seq (.region 0 [⟨some 12, .load 1 false (.t 2), none, 0⟩, ⟨some 4, .mv (.t 12), none, 0⟩] false []) .ret))), false⟩
theorem c84 : cFunc Tryd.prog G f84 Tryd.f84 = some f84 := by kernel_rfl
/-- slices.IndexFunc[[]junctionbox/api.Row,junctionbox/api.Row] -/
def f85 : AFunc :=
⟨2, [.t 4], (.seq (.region 0 [⟨some 4, .mv (.c (.int .i64 0)), none, 0⟩] false []) (.seq (.seq (.region 0 [⟨some 6, .mv (.t 0), none, 0⟩, ⟨some 7, .len (.t 6), none, 0⟩, ⟨some 8, .mv (.c (.int .i64 0)), none, 0⟩] false []) (.block 0 (.loop [0, 1, 7, 8] (.seq (.region 0 [⟨some 9, .bin .lss (.t 8) (.t 7), none, 0⟩] false []) (.seq (.cond (.t 9) .skip (.exit 0)) (.seq (.block 1 (.seq (.region 0 [⟨some 10, .mv (.t 8), none, 0⟩, ⟨some 5, .mv (.t 10), none, 0⟩] false []) (.seq (.region 0 [⟨some 11, .mv (.t 1), none, 0⟩, ⟨some 12, .mv (.t 0), none, 0⟩, ⟨some 13, .mv (.t 5), none, 0⟩, ⟨some 14, .iaddr 19 none (.t 12) (.t 13), none, 0⟩, ⟨some 15, .load 19 true (.t 14), none, 0⟩, ⟨some 16, .callR (.t 11) [.t 15] false, none, 0⟩] false []) (.cond (.t 16) (.seq (.region 0 [⟨some 17, .mv (.t 5), none, 0⟩, ⟨some 4, .mv (.t 17), none, 0⟩] false []) .ret) .skip)))) (.region 0 [⟨some 18, .bin .add (.t 8) (.c (.int .i64 1)), none, 0⟩, ⟨some 8, .mv (.t 18), none, 0⟩] false []))))))) (.seq (.region 0 [⟨some 4, .mv (.c (.int .i64 (-1))), none, 0⟩] false []) .ret))), false⟩
theorem c85 : cFunc Tryd.prog G f85 Tryd.f85 = some f85 := by kernel_rfl
/-- (junctionbox/table.row).against -/
def f86 : AFunc :=
⟨2, [.t 4], (.seq (.region 2 [⟨some 2, .box 118 19 (.t 0) [], none, 0⟩, ⟨some 3, .box 32 18 (.t 1) [], none, 1⟩, ⟨some 4, .mv (.c (.int .i64 0)), none, 0⟩] false []) (.seq (.region 0 [⟨some 5, .faddr 0 (.t 2), none, 0⟩, ⟨some 6, .load 18 true (.t 5), none, 0⟩, ⟨some 7, .load 18 true (.t 3), none, 0⟩, ⟨some 8, .callV 40 [.t 6, .t 7] false, none, 0⟩, ⟨some 4, .mv (.t 8), none, 0⟩] false []) .ret)), false⟩
theorem c86 : cFunc Tryd.prog G f86 Tryd.f86 = some f86 := by kernel_rfl
/-- junctionbox/prefix.clear -/
def f87 : AFunc :=
⟨2, [.t 4], (.seq (.region 1 [⟨some 2, .box 28 16 (.t 0) [], none, 0⟩, ⟨some 4, .mv (.c (.bool false)), none, 0⟩] false []) (.seq (.seq (.region 0 [⟨some 6, .mv (.t 1), none, 0⟩, ⟨some 5, .mv (.t 6), none, 0⟩] false []) (.block 0 (.loop [2, 5] (.seq (.seq (.region 0 [⟨some 7, .mv (.t 5), none, 0⟩, ⟨some 8, .bin .lss (.t 7) (.c (.int .i64 128)), none, 0⟩] false []) (.cond (.t 8) .skip (.exit 0))) (.seq (.block 1 (.seq (.region 0 [⟨some 11, .mv (.t 5), none, 0⟩, ⟨some 12, .bin .quo (.t 11) (.c (.int .i64 8)), none, 0⟩, ⟨some 13, .iaddr 1 (some 16) (.t 2) (.t 12), none, 0⟩, ⟨some 14, .load 1 false (.t 13), none, 0⟩, ⟨some 15, .mv (.t 5), none, 0⟩, ⟨some 16, .bin .rem (.t 15) (.c (.int .i64 8)), none, 0⟩, ⟨some 17, .bin .sub (.c (.int .i64 7)) (.t 16), none, 0⟩, ⟨some 18, .bin .shr (.t 14) (.t 17), none, 0⟩, ⟨some 19, .bin .and (.t 18) (.c (.int .u8 1)), none, 0⟩, ⟨some 20, .bin .eql (.t 19) (.c (.int .u8 1)), none, 0⟩] false []) (.cond (.t 20) (.seq (.region 0 [⟨some 4, .mv (.c (.bool false)), none, 0⟩] false []) .ret) .skip))) (.region 0 [⟨some 9, .mv (.t 5), none, 0⟩, ⟨some 10, .bin .add (.t 9) (.c (.int .i64 1)), none, 0⟩, ⟨some 5, .mv (.t 10), none, 0⟩] false [])))))) (.seq (.region 0 [⟨some 4, .mv (.c (.bool true)), none, 0⟩] false []) .ret))), false⟩
theorem c87 : cFunc Tryd.prog G f87 Tryd.f87 = some f87 := by kernel_rfl
/-- slices.BinarySearchFunc[[]junctionbox/api.Row,junctionbox/api.Row,junctionbox/api.Prefix] -/
def f89 : AFunc :=
⟨3, [.t 6, .t 7], (.seq (.region 1 [⟨some 4, .box 32 18 (.t 1) [], none, 0⟩, ⟨some 6, .mv (.c (.int .i64 0)), none, 0⟩, ⟨some 7, .mv (.c (.bool false)), none, 0⟩] false []) (.seq (.region 0 [⟨some 12, .mv (.t 0), none, 0⟩, ⟨some 13, .len (.t 12), none, 0⟩, ⟨some 8, .mv (.t 13), none, 0⟩] false []) (.seq (.region 0 [⟨some 14, .mv (.t 8), none, 0⟩, ⟨some 9, .mv (.c (.int .i64 0)), none, 0⟩, ⟨some 10, .mv (.t 14), none, 0⟩] false []) (.seq (.block 0 (.loop [0, 2, 4, 8, 9, 10] (.seq (.seq (.region 0 [⟨some 15, .mv (.t 9), none, 0⟩, ⟨some 16, .mv (.t 10), none, 0⟩, ⟨some 17, .bin .lss (.t 15) (.t 16), none, 0⟩] false []) (.cond (.t 17) .skip (.exit 0))) (.block 1 (.seq (.region 0 [⟨some 18, .mv (.t 9), none, 0⟩, ⟨some 19, .mv (.t 10), none, 0⟩, ⟨some 20, .bin .add (.t 18) (.t 19), none, 0⟩, ⟨some 21, .conv .u64 (.t 20), none, 0⟩, ⟨some 22, .bin .shr (.t 21) (.c (.int .u64 1)), none, 0⟩, ⟨some 23, .conv .i64 (.t 22), none, 0⟩, ⟨some 11, .mv (.t 23), none, 0⟩] false []) (.seq (.region 0 [⟨some 24, .mv (.t 2), none, 0⟩, ⟨some 25, .mv (.t 0), none, 0⟩, ⟨some 26, .mv (.t 11), none, 0⟩, ⟨some 27, .iaddr 19 none (.t 25) (.t 26), none, 0⟩, ⟨some 28, .load 19 true (.t 27), none, 0⟩, ⟨some 29, .load 18 true (.t 4), none, 0⟩, ⟨some 30, .callR (.t 24) [.t 28, .t 29] false, none, 0⟩, ⟨some 31, .bin .lss (.t 30) (.c (.int .i64 0)), none, 0⟩] true []) (.cond (.t 31) (.region 0 [⟨some 32, .mv (.t 11), none, 0⟩, ⟨some 33, .bin .add (.t 32) (.c (.int .i64 1)), none, 0⟩, ⟨some 9, .mv (.t 33), none, 0⟩] false []) (.region 0 [⟨some 34, .mv (.t 11), none, 0⟩, ⟨some 10, .mv (.t 34), none, 0⟩] false [])))))))) (.seq (.region 0 [⟨some 35, .mv (.t 9), none, 0⟩, ⟨some 36, .mv (.t 9), none, 0⟩, ⟨some 37, .mv (.t 8), none, 0⟩, ⟨some 38, .bin .lss (.t 36) (.t 37), none, 0⟩, ⟨some 39, .mv (.t 38), none, 0⟩, ⟨some 40, .mv (.t 2), some (39, true), 0⟩, ⟨some 41, .mv (.t 0), some (39, true), 0⟩, ⟨some 42, .mv (.t 9), some (39, true), 0⟩, ⟨some 43, .iaddr 19 none (.t 41) (.t 42), some (39, true), 0⟩, ⟨some 44, .load 19 true (.t 43), some (39, true), 0⟩, ⟨some 45, .load 18 true (.t 4), some (39, true), 0⟩, ⟨some 46, .callR (.t 40) [.t 44, .t 45] false, some (39, true), 0⟩, ⟨some 47, .bin .eql (.t 46) (.c (.int .i64 0)), some (39, true), 0⟩, ⟨some 48, .pick (.t 39) (.t 47) (.c (.bool false)), none, 0⟩, ⟨some 6, .mv (.t 35), none, 0⟩, ⟨some 7, .mv (.t 48), none, 0⟩] true []) .ret))))), false⟩
theorem c89 : cFunc Tryd.prog G f89 Tryd.f89 = some f89 := by kernel_rfl
/-- junctionbox/table.place$1 -/
def f90 : AFunc :=
⟨2, [.t 4], (.seq (.region 2 [⟨some 2, .box 59 19 (.t 0) [], none, 0⟩, ⟨some 3, .box 32 18 (.t 1) [], none, 1⟩, ⟨some 4, .mv (.c (.int .i64 0)), none, 0⟩] false []) (.seq (.region 0 [⟨some 5, .load 19 true (.t 2), none, 0⟩, ⟨some 6, .load 18 true (.t 3), none, 0⟩, ⟨some 7, .callV 86 [.t 5, .t 6] false, none, 0⟩, ⟨some 4, .mv (.t 7), none, 0⟩] false []) .ret)), false⟩
theorem c90 : cFunc Tryd.prog G f90 Tryd.f90 = some f90 := by kernel_rfl
/-- cmp.isNaN[int] -/
def f93 : AFunc :=
⟨1, [.t 2], (.seq (.region 0 [⟨some 2, .mv (.c (.bool false)), none, 0⟩] false []) (.seq (.region 0 [⟨some 3, .mv (.t 0), none, 0⟩, ⟨some 4, .mv (.t 0), none, 0⟩, ⟨some 5, .bin .neq (.t 3) (.t 4), none, 0⟩, ⟨some 2, .mv (.t 5), none, 0⟩] false []) .ret)), false⟩
theorem c93 : cFunc Tryd.prog G f93 Tryd.f93 = some f93 := by kernel_rfl
/-- slices.IndexFunc[[]junctionbox/api.Prefix,junctionbox/api.Prefix] -/
def f94 : AFunc :=
⟨2, [.t 4], (.seq (.region 0 [⟨some 4, .mv (.c (.int .i64 0)), none, 0⟩] false []) (.seq (.seq (.region 0 [⟨some 6, .mv (.t 0), none, 0⟩, ⟨some 7, .len (.t 6), none, 0⟩, ⟨some 8, .mv (.c (.int .i64 0)), none, 0⟩] false []) (.block 0 (.loop [0, 1, 7, 8] (.seq (.region 0 [⟨some 9, .bin .lss (.t 8) (.t 7), none, 0⟩] false []) (.seq (.cond (.t 9) .skip (.exit 0)) (.seq (.block 1 (.seq (.region 0 [⟨some 10, .mv (.t 8), none, 0⟩, ⟨some 5, .mv (.t 10), none, 0⟩] false []) (.seq (.region 0 [⟨some 11, .mv (.t 1), none, 0⟩, ⟨some 12, .mv (.t 0), none, 0⟩, ⟨some 13, .mv (.t 5), none, 0⟩, ⟨some 14, .iaddr 18 none (.t 12) (.t 13), none, 0⟩, ⟨some 15, .load 18 true (.t 14), none, 0⟩, ⟨some 16, .callR (.t 11) [.t 15] false, none, 0⟩] false []) (.cond (.t 16) (.seq (.region 0 [⟨some 17, .mv (.t 5), none, 0⟩, ⟨some 4, .mv (.t 17), none, 0⟩] false []) .ret) .skip)))) (.region 0 [⟨some 18, .bin .add (.t 8) (.c (.int .i64 1)), none, 0⟩, ⟨some 8, .mv (.t 18), none, 0⟩] false []))))))) (.seq (.region 0 [⟨some 4, .mv (.c (.int .i64 (-1))), none, 0⟩] false []) .ret))), false⟩
theorem c94 : cFunc Tryd.prog G f94 Tryd.f94 = some f94 := by kernel_rfl
end Go.Proofs.YtihbammfchnjgaaDoor.F

/- slices.Clone of this program. No condition. -/
set_option linter.unusedVariables false
set_option linter.unusedSimpArgs false
namespace Go.Proofs.YtihbammfchnjgaaDoor.F
open Go Go.RowKit Go.Proofs Go.Proofs.YtihbammfchnjgaaDoor Go.Proofs.YtihbammfchnjgaaDoor.J
theorem elemT_22 : ElemT Tryd.prog 22 59 19 (.agg #[.int .i64 0, .int .u8 0, .int .u8 0, .int .u8 0, .int .u8 0, .int .u8 0, .int .u8 0, .int .u8 0, .int .u8 0, .int .u8 0, .int .u8 0, .int .u8 0, .int .u8 0, .int .u8 0, .int .u8 0, .int .u8 0, .int .u8 0, .int .i64 0, .int .i64 0]) 40 := ⟨Tryd.underlying22, by kernel_rfl, rfl, by decide⟩
set_option maxHeartbeats 4000000 in
set_option maxRecDepth 100000 in
theorem ins_shift_f71 (g n c i vb voff vc : Nat) (cur curv : Array Value) (xs : List Value) (w : World) (hi : i < n) (hroom : n + 1 ≤ c) (hc63 : c ≤ 9223372036854775807) (hvb : vb ≠ g) (hh : w.heap[g]? = some (.cells cur 59 (0, 0))) (hcs : cur.size = c * 19)
    (hv : w.heap[vb]? = some (.cells curv 59 (0, 0))) (hxl : xs.length = 19) (hx : ∀ j u, xs[j]? = some u → w.cell? ⟨vb, voff + j, none⟩ = some u) (h1x : ∀ u ∈ xs, u.oneCell' = true) (h1c : ∀ u ∈ (cur.toList.take (n * 19)).drop (i * 19), u.oneCell' = true) (R1 : Array Value)
    (hA : R1 = (cur.toList.take ((i + 1) * 19) ++ (cur.toList.take (n * 19)).drop (i * 19) ++ cur.toList.drop ((i + 1) * 19 + (n - i) * 19)).toArray) :
    Calls Tryd.prog 71 #[.slice (some ⟨g, 0, none⟩) n c, .int .i64 i, .slice (some ⟨vb, voff, none⟩) 1 vc] w fun e w' =>
      e = .returned (.slice (some ⟨g, 0, none⟩) (n + 1) c) ∧ w' = (w.drew.setRow g R1).setRow g (R1.toList.take (i * 19) ++ xs ++ R1.toList.drop (i * 19 + xs.length)).toArray := by
  have hsz : (Tryd.prog.info? 59).map (·.size) = some 19 := by kernel_rfl
  have hdl : ((cur.toList.take (n * 19)).drop (i * 19)).length = (n - i) * 19 := by
    rw [List.length_drop, List.length_take, Array.length_toList]
    omega
  have hsA : w.shape? vb = some (59, curv.size) := by simp [World.shape?, hv]
  have hsB : w.shape? g = some (59, cur.size) := by simp [World.shape?, hh]
  have hfr : ∀ o, w.frozen? ⟨vb, o, none⟩ = false := fun o => by simp [World.frozen?, hv]
  have hov : ∀ lb cb, (callFunc 91 #[.slice (some ⟨vb, voff, none⟩) 1 vc, .slice (some ⟨g, (i + 1) * 19, none⟩) lb cb]).run Tryd.prog w = .ok (.value (.bool false)) w := fun lb cb => by
    rw [run_callFunc_extern Tryd.func91 (by kernel_rfl) (by kernel_rfl) (by kernel_rfl) (e := Extern.SlicesOverlaps.overlaps #[22, 22] #[4]) (by kernel_rfl),
      Lib.run_overlaps_apart w 22 4 59 Tryd.underlying22 19 (fun w => by kernel_rfl) ⟨vb, voff, none⟩ ⟨g, (i + 1) * 19, none⟩ 1 vc lb cb hvb 59 59 _ _ hsA hsB (by omega) (hfr _) (hfr _)]
    rfl
  have hAs : R1.size = cur.size := by
    rw [hA]; simp only [List.size_toArray, List.length_append, hdl, List.length_take, List.length_drop, Array.length_toList]
    omega
  have hcp1 : ∀ ty dc sc, (Builtin.copy_ #[22, 22] ty #[.slice (some ⟨g, (i + 1) * 19, none⟩) (n - i) dc, .slice (some ⟨g, i * 19, none⟩) (n + 1 - i) sc]).run Tryd.prog w.drew = .ok (goInt ((n - i : Nat) : Int)) (w.drew.setRow g R1) := fun ty dc sc => by
    have h := A.run_copy_row (P := Tryd.prog) w.drew 22 ty 59 19 Tryd.underlying22 hsz g ((i + 1) * 19) (n - i) dc ⟨g, i * 19, none⟩ (n + 1 - i) sc cur 59 hh _ (n - i) (by simp only [Nat.min_def]; split <;> omega) hdl (fun j v hj => by
      rw [Addr.add_lit]
      rw [List.getElem?_drop, List.getElem?_take] at hj
      split at hj
      · show w.cell? _ = _
        simp only [World.cell?, hh]
        rw [← Array.getElem?_toList]; exact hj
      · cases hj) (by rw [hdl]; omega) h1c
    rw [hdl] at h
    rw [hA]; exact h
  obtain ⟨W1, hW1⟩ : ∃ W1, W1 = w.drew.setRow g R1 := ⟨_, rfl⟩
  have hh1 : W1.heap[g]? = some (.cells R1 59 (0, 0)) := by rw [hW1]; exact setRow_heap w.drew g cur R1 59 (0, 0) hh
  have hx1 : ∀ j u, xs[j]? = some u → W1.cell? ⟨vb, voff + j, none⟩ = some u := fun j u hj => by
    rw [hW1, cell_setRow_other w.drew g R1 _ hvb]; exact hx j u hj
  have hcp2 : ∀ ty dc, (Builtin.copy_ #[22, 22] ty #[.slice (some ⟨g, i * 19, none⟩) (n + 1 - i) dc, .slice (some ⟨vb, voff, none⟩) 1 vc]).run Tryd.prog W1 = .ok (goInt 1) (W1.setRow g (R1.toList.take (i * 19) ++ xs ++ R1.toList.drop (i * 19 + xs.length)).toArray) := fun ty dc =>
    A.run_copy_row (P := Tryd.prog) W1 22 ty 59 19 Tryd.underlying22 hsz g (i * 19) (n + 1 - i) dc ⟨vb, voff, none⟩ 1 vc R1 59 hh1 xs 1 (by simp only [Nat.min_def]; split <;> omega) (by omega) (fun j v hj => by rw [Addr.add_lit]; exact hx1 j v hj) (by omega) h1x
  have hw1 : IntKind.i64.wrap ((i : Int) + 1) = (i : Int) + 1 := by rw [IntKind.wrap_i64]; omega
  have hw2 : IntKind.i64.wrap ((n : Int) + 1) = (n : Int) + 1 := by rw [IntKind.wrap_i64]; omega
  have hz2 : ¬ ((i : Int) = (n : Int)) := by omega
  have hb1 : (0 : Int) ≤ (i : Int) + 1 := by omega
  have hin : i ≤ n := by omega
  have htn : ((i : Int) + 1).toNat = i + 1 := by omega
  have htn2 : ((n : Int) + 1).toNat = n + 1 := by omega
  have hb2 : ¬ (c = i + 1) := by omega
  have hb3 : (i : Int) ≤ (n : Int) + 1 := by omega
  have hb4 : ¬ (c = i) := by omega
  rw [← hW1] at hcp1 ⊢
  clear hW1 hA hdl hAs
  go_enter Tryd.func71, Tryd.ntmps71
  go_wp2_with (simp only [hov])
  go_region_law (refine step_copy_runI rfl _ _ 22 22 rfl _ _ (by simp [Act.eval, Act.put]) (by simp [Act.eval, Act.put]) (hcp1 _ _ _) ?_)
  go_wp2_with (at_builtin; refine wpList_copy_runI _ rfl _ _ 22 22 rfl _ _ rfl rfl (hcp2 _ _) ?_)
  go_ret
  exact ⟨rfl, by simp [hxl]⟩
set_option maxHeartbeats 4000000 in
set_option maxRecDepth 100000 in
theorem ins_grow_f71 (g n c i vb voff vc : Nat) (cur curv : Array Value) (xs : List Value) (w : World) (hi : i < n) (hnc : n ≤ c) (hroom : c < n + 1) (hbig : (n + 1) * 40 ≤ 140737488355328) (hh : w.heap[g]? = some (.cells cur 59 (0, 0))) (hcs : cur.size = c * 19)
    (hv : w.heap[vb]? = some (.cells curv 59 (0, 0))) (hxl : xs.length = 19) (hx : ∀ j u, xs[j]? = some u → w.cell? ⟨vb, voff + j, none⟩ = some u) (h1x : ∀ u ∈ xs, u.oneCell' = true) (h1c : ∀ u ∈ (cur.toList.take (n * 19)).drop (i * 19), u.oneCell' = true) :
    Calls Tryd.prog 71 #[.slice (some ⟨g, 0, none⟩) n c, .int .i64 i, .slice (some ⟨vb, voff, none⟩) 1 vc] w fun e w' =>
      ∃ (G : Nat) (R1 R2 : Array Value), e = .returned (.slice (some ⟨w.heap.size, 0, none⟩) (n + 1) G) ∧ n + 1 ≤ G ∧ G ≤ maxLen ∧ R1.size = G * 19 ∧ R1.toList.take (i * 19) = cur.toList.take (i * 19) ∧
        R2 = (R1.toList.take (i * 19) ++ xs ++ R1.toList.drop (i * 19 + 19)).toArray ∧
        w'.heap = ((((w.alloc (.cells R1 59)).setRow w.heap.size R2).setRow w.heap.size (R2.toList.take ((i + 1) * 19) ++ (cur.toList.take (n * 19)).drop (i * 19) ++ R2.toList.drop ((i + 1) * 19 + (n - i) * 19)).toArray)).heap ∧
        w'.os = w.os ∧ w'.tape = w.tape ∧ w'.output = w.output := by
  obtain ⟨i0, z, hi0, hz0, hzs, hzb, hzc⟩ : ∃ i0 z, Tryd.prog.info? 59 = some i0 ∧ i0.zero = some z ∧ i0.size = 19 ∧ i0.bytes = 40 ∧ z.cells.size = 19 := by
    have h := elemT_22.info
    cases hq : Tryd.prog.info? 59 with
    | none => rw [hq] at h; cases h
    | some i0 => rw [hq] at h; simp at h; exact ⟨i0, _, rfl, h.1, h.2.1, h.2.2, elemT_22.zs⟩
  have hsz : (Tryd.prog.info? 59).map (·.size) = some 19 := by rw [hi0]; simp [hzs]
  have hdl : ((cur.toList.take (n * 19)).drop (i * 19)).length = (n - i) * 19 := by
    rw [List.length_drop, List.length_take, Array.length_toList]
    omega
  have hgw : g < w.heap.size := (Array.getElem?_eq_some_iff.1 hh).1
  have hvw : vb < w.heap.size := (Array.getElem?_eq_some_iff.1 hv).1
  have hkk : (n : Int) + 1 - (i : Int) = ((n + 1 - i : Nat) : Int) := by omega
  have hik : i + (n + 1 - i) = n + 1 := by omega
  have hold : (Builtin.firstCells i0.size i (.slice (some ⟨g, 0, none⟩) i c)).run Tryd.prog w.drew = .ok (cur.toList.take (i * 19)).toArray w.drew := by
    rw [hzs]
    exact run_firstCells_some w.drew 19 i ⟨g, 0, none⟩ i c (cur.toList.take (i * 19)) (by rw [List.length_take, Array.length_toList]; omega) (fun j v hj => by
      rw [Addr.add_lit]
      rw [List.getElem?_take] at hj
      split at hj
      · show w.cell? _ = _
        simp only [World.cell?, hh]
        rw [← Array.getElem?_toList, Nat.zero_add]; exact hj
      · cases hj)
  obtain ⟨G, hG⟩ : ∃ G, G = grownCap w (n + 1) c 59 := ⟨_, rfl⟩
  obtain ⟨R1, hR1⟩ : ∃ R1 : Array Value, R1 = (cur.toList.take (i * 19)).toArray ++ Builtin.zeroCells z.cells (n + 1 - i) ++ Builtin.zeroCells z.cells (G - (n + 1)) := ⟨_, rfl⟩
  have hrz : ∀ ty, (Builtin.append_ #[22, 3] ty #[.slice (some ⟨g, 0, none⟩) i c, .int .i64 ((n : Int) + 1 - (i : Int))]).run Tryd.prog w = .ok (.slice (some ⟨w.heap.size, 0, none⟩) (n + 1) G) (w.drew.alloc (.cells R1 59)) := fun ty => by
    have h := Lib.run_append_grow_zeros w 22 3 ty 59 i0 _ .i64 .i64 Tryd.underlying22 Tryd.underlying3 hi0 hz0 (some ⟨g, 0, none⟩) i c _ hold (n + 1 - i) (by omega) (by omega) (by omega) (by omega) (by rw [hzb]; omega) (by rw [hzb, hik]; exact growslice_fits hroom hbig)
    rw [hik, ← hG, ← hR1] at h
    rw [hkk]
    exact h
  have hGn : n + 1 ≤ G := by rw [hG]; exact grownCap_ge w _ _ _
  have hGm : G ≤ maxLen := by rw [hG]; exact grownCap_le_maxLen w (n + 1) c 59 (by unfold maxLen; omega)
  have hG63 : G ≤ 9223372036854775807 := by unfold maxLen at hGm; omega
  have hRs : R1.size = G * 19 := by
    rw [hR1]; simp only [Array.size_append, List.size_toArray, size_zeroCells, hzc, List.length_take, Array.length_toList]
    omega
  have hRt : R1.toList.take (i * 19) = cur.toList.take (i * 19) := by
    rw [hR1]
    have hl : (cur.toList.take (i * 19)).length = i * 19 := by rw [List.length_take, Array.length_toList]; omega
    simp only [Array.toList_append, List.append_assoc]
    exact List.take_left' hl
  obtain ⟨R2, hR2⟩ : ∃ R2 : Array Value, R2 = (R1.toList.take (i * 19) ++ xs ++ R1.toList.drop (i * 19 + 19)).toArray := ⟨_, rfl⟩
  obtain ⟨R3, hR3⟩ : ∃ R3 : Array Value, R3 = (R2.toList.take ((i + 1) * 19) ++ (cur.toList.take (n * 19)).drop (i * 19) ++ R2.toList.drop ((i + 1) * 19 + (n - i) * 19)).toArray := ⟨_, rfl⟩
  have hle : (i + 1) * 19 + (n - i) * 19 ≤ G * 19 := by omega
  have hR2s : R2.size = G * 19 := by
    rw [hR2]; simp only [List.size_toArray, List.length_append, List.length_take, List.length_drop, Array.length_toList, hxl, hRs]
    omega
  have hcpA : ∀ W : World, W.heap = (w.alloc (.cells R1 59)).heap → ∀ ty dc, (Builtin.copy_ #[22, 22] ty #[.slice (some ⟨w.heap.size, i * 19, none⟩) (n + 1 - i) dc, .slice (some ⟨vb, voff, none⟩) 1 vc]).run Tryd.prog W = .ok (goInt 1) (W.setRow w.heap.size R2) := fun W hW ty dc => by
    have h := A.run_copy_row (P := Tryd.prog) W 22 ty 59 19 Tryd.underlying22 hsz w.heap.size (i * 19) (n + 1 - i) dc ⟨vb, voff, none⟩ 1 vc R1 59 (by rw [hW]; exact World.alloc_heap_new w _) xs 1 (by simp only [Nat.min_def]; split <;> omega) (by omega) (fun j v hj => by
      rw [Addr.add_lit]
      have := hx j v hj
      unfold World.cell? at this ⊢
      rw [hW]
      rw [A.alloc_old w _ hvw]
      exact this) (by omega) h1x
    rw [hxl] at h
    rw [hR2]; exact h
  have hcpB : ∀ W : World, W.heap = ((w.alloc (.cells R1 59)).setRow w.heap.size R2).heap → ∀ ty dc sc, (Builtin.copy_ #[22, 22] ty #[.slice (some ⟨w.heap.size, (i + 1) * 19, none⟩) (n - i) dc, .slice (some ⟨g, i * 19, none⟩) (n - i) sc]).run Tryd.prog W = .ok (goInt ((n - i : Nat) : Int)) (W.setRow w.heap.size R3) := fun W hW ty dc sc => by
    have h := A.run_copy_row (P := Tryd.prog) W 22 ty 59 19 Tryd.underlying22 hsz w.heap.size ((i + 1) * 19) (n - i) dc ⟨g, i * 19, none⟩ (n - i) sc R2 59 (by rw [hW]; exact setRow_heap _ _ R1 R2 59 (0, 0) (World.alloc_heap_new w _)) _ (n - i) (by simp only [Nat.min_def]; split <;> omega) hdl (fun j v hj => by
      rw [Addr.add_lit]
      have hc : W.cell? ⟨g, i * 19 + j, none⟩ = ((w.alloc (.cells R1 59)).setRow w.heap.size R2).cell? ⟨g, i * 19 + j, none⟩ := by unfold World.cell?; rw [hW]
      rw [hc, cell_setRow_other _ _ _ _ (show g ≠ w.heap.size by omega)]
      rw [List.getElem?_drop, List.getElem?_take] at hj
      split at hj
      · unfold World.cell?
        rw [A.alloc_old w _ hgw, hh]
        simp only
        rw [← Array.getElem?_toList]; exact hj
      · cases hj) (by rw [hdl, hR2s]; omega) h1c
    rw [hdl] at h
    rw [hR3]; exact h
  have hw1 : IntKind.i64.wrap ((i : Int) + 1) = (i : Int) + 1 := by rw [IntKind.wrap_i64]; omega
  have hw2 : IntKind.i64.wrap ((n : Int) + 1) = (n : Int) + 1 := by rw [IntKind.wrap_i64]; omega
  have hz2 : ¬ ((i : Int) = (n : Int)) := by omega
  have hz3 : (c : Int) < (n : Int) + 1 := by omega
  have hb1 : (0 : Int) ≤ (i : Int) + 1 := by omega
  have hin : i ≤ n := by omega
  have htn : ((i : Int) + 1).toNat = i + 1 := by omega
  have hb3 : (i : Int) ≤ (n : Int) := by omega
  have hb4 : ¬ (c = i) := by omega
  have hGi : ¬ (G = i) := by omega
  have hGim : ¬ (G = i + 1) := by omega
  clear hkk hik hold hR1 hG hle hR2s hdl hsz
  refine Calls.mono (R := fun e w' => e = .returned (.slice (some ⟨w.heap.size, 0, none⟩) (n + 1) G) ∧ w'.heap = (((w.alloc (.cells R1 59)).setRow w.heap.size R2).setRow w.heap.size R3).heap ∧ w'.os = w.os ∧ w'.tape = w.tape ∧ w'.output = w.output) ?_ (fun e w' h => ⟨G, R1, R2, h.1, hGn, hGm, hRs, hRt, hR2, by rw [← hR3]; exact h.2.1, h.2.2⟩)
  have hA := hcpA (w.alloc (.cells R1 59)).drew rfl
  have hB := hcpB ((w.alloc (.cells R1 59)).drew.setRow w.heap.size R2).drew rfl
  clear hR2 hR3 hRt hcpA hcpB
  go_enter Tryd.func71, Tryd.ntmps71
  go_wp2_with (first
    | (at_builtin; refine Lib.wpList_append_run _ rfl _ _ _ _ rfl _ _ rfl rfl _ _ (hrz _) ?_)
    | (at_builtin; refine wpList_copy_runI _ rfl _ _ 22 22 rfl _ _ rfl rfl (hA _ _) ?_))
  go_region_law (refine step_copy_runI rfl _ _ 22 22 rfl _ _ (by simp [Act.eval, Act.put]) (by simp [Act.eval, Act.put]) (hB _ _ _) ?_)
  go_wp2
  go_ret
  exact ⟨rfl, rfl, rfl, rfl, rfl⟩
theorem ins_mid_f71 : A.InsMid Tryd.prog 71 59 19 40 := by
  intro g n c i vb voff vc cur curv xs w hi hnc hcm hbig hvb hh hcs hv hxl hx h1x h1c
  have h1d : ∀ u ∈ (cur.toList.take (n * 19)).drop (i * 19), u.oneCell' = true := fun u hu => h1c u (List.mem_of_mem_drop hu)
  have hdl : ((cur.toList.take (n * 19)).drop (i * 19)).length = (n - i) * 19 := by
    rw [List.length_drop, List.length_take, Array.length_toList]
    omega
  have hgw : g < w.heap.size := (Array.getElem?_eq_some_iff.1 hh).1
  have ea : (n + 1) * 19 = i * 19 + 19 + (n - i) * 19 := by omega
  have eb : (i + 1) * 19 = i * 19 + 19 := by omega
  by_cases hroom : n + 1 ≤ c
  · refine (ins_shift_f71 g n c i vb voff vc cur curv xs w hi hroom (by unfold maxLen at hcm; omega) hvb hh hcs hv hxl hx h1x h1d _ rfl).mono ?_
    rintro e' w' ⟨rfl, rfl⟩
    obtain ⟨q1, q2⟩ := A.ins_list1 (i * 19) 19 ((n - i) * 19) cur.toList xs _ hdl hxl (by rw [Array.length_toList, hcs]; omega) _ _ rfl rfl
    obtain ⟨c', rfl⟩ : ∃ c', c = c' + 1 := ⟨c - 1, by omega⟩
    refine ⟨g, c', _, rfl, setRow_heap _ g _ _ 59 (0, 0) (setRow_heap w.drew g cur _ 59 (0, 0) hh), hroom, hcm, ?_, ?_, .inl rfl, ?_⟩
    · rw [← Array.length_toList]
      rw [hxl, eb]; exact q2.trans (by rw [Array.length_toList]; exact hcs)
    · rw [hxl, ea, eb]; exact q1
    · refine ⟨rfl, rfl, rfl, by simp only [World.setRow, Array.size_modify]; exact Nat.le_refl _, fun b hb hne => ?_⟩
      rw [setRow_other _ _ _ _ (fun e => hne (by rw [e])), setRow_other _ _ _ _ (fun e => hne (by rw [e]))]; rfl
  · refine (ins_grow_f71 g n c i vb voff vc cur curv xs w hi hnc (by omega) hbig hh hcs hv hxl hx h1x h1d).mono ?_
    rintro e' w' ⟨G, R1, R2, rfl, hG1, hG2, hR1, hR1t, hR2, hheap, ho, ht, hout⟩
    obtain ⟨q1, q2⟩ := A.ins_list2 (i * 19) 19 ((n - i) * 19) cur.toList xs _ R1.toList hdl hxl (by rw [Array.length_toList, hR1]; omega) hR1t (by rw [Array.length_toList, hcs]; omega) R2.toList _ (by rw [hR2]) rfl
    obtain ⟨c', rfl⟩ : ∃ c', G = c' + 1 := ⟨G - 1, by omega⟩
    refine ⟨w.heap.size, c', (R2.toList.take ((i + 1) * 19) ++ (cur.toList.take (n * 19)).drop (i * 19) ++ R2.toList.drop ((i + 1) * 19 + (n - i) * 19)).toArray, rfl, ?_, hG1, hG2, ?_, ?_, .inr (Nat.le_refl _), ?_⟩
    rotate_left 3
    · refine ⟨ho, ht, hout, by rw [hheap]; simp only [World.setRow, Array.size_modify]; show _ ≤ (w.heap.push _).size; rw [Array.size_push]; exact Nat.le_succ _, fun b hb hne => ?_⟩
      rw [hheap, setRow_other _ _ _ _ (by omega), setRow_other _ _ _ _ (by omega)]; exact A.alloc_old w _ hb
    · rw [hheap]; exact setRow_heap _ _ _ _ 59 (0, 0) (setRow_heap _ _ R1 _ 59 (0, 0) (World.alloc_heap_new w _))
    · rw [← Array.length_toList]
      rw [eb]; exact q2.trans (by rw [Array.length_toList]; exact hR1)
    · rw [ea, eb]; exact q1
set_option maxHeartbeats 4000000 in
set_option maxRecDepth 100000 in
theorem ins_end_f71 : A.InsEnd Tryd.prog 71 22 := by
  intro base n c vb voff vc v' w w' hnc hn hrun
  have h1 : (0 : Int) ≤ (n : Int) := by omega
  cases base with
  | none =>
    have h0 := hn rfl
    subst h0
    go_enter Tryd.func71, Tryd.ntmps71
    go_wp2_with (at_builtin; refine Lib.wpList_append_run _ rfl _ _ _ _ rfl _ _ rfl rfl _ _ hrun ?_)
    go_ret
    exact ⟨rfl, rfl⟩
  | some a =>
    obtain ⟨ab, ao, asp⟩ := a
    go_enter Tryd.func71, Tryd.ntmps71
    go_wp2_with (at_builtin; refine Lib.wpList_append_run _ rfl _ _ _ _ rfl _ _ rfl rfl _ _ hrun ?_)
    all_goals (go_ret; exact ⟨rfl, rfl⟩)
set_option maxHeartbeats 1000000 in
theorem clone_f70 (a : Option Addr) (c : Nat) (css : List (List Value)) (w : World) (hs : SlC w 19 a css) (h1 : ∀ cs ∈ css, ∀ u ∈ cs, u.oneCell' = true) (hb : css.length * 40 ≤ 140737488355328) :
    Calls Tryd.prog 70 #[.slice a css.length c] w fun e w' => ∃ v, e = .returned v ∧ OwnL w' w.heap.size 59 19 v css ∧ Ext w w' := by
  have keq := eql_slice_nil Tryd.underlying22
  cases a with
  | none =>
    have hnil : css = [] := by
      cases css with
      | nil => rfl
      | cons c r => obtain ⟨_, b, o, h2, _⟩ := hs 0 c rfl; cases h2
    subst hnil
    have kn := fun (w : World) (l c : Nat) => keq w none l c
    simp only [Option.isNone_none] at kn
    clear keq
    go_enter Tryd.func70, Tryd.ntmps70
    go_wp2
    go_ret
    exact ⟨_, rfl, OwnL.nil _ _ _ _, by repeat (first | exact Ext.refl _ | assumption | apply Ext.alloc | apply Ext.drewN | apply Ext.drew)⟩
  | some ad =>
    have kn := fun (w : World) (l c : Nat) => keq w (some ad) l c
    simp only [Option.isNone_some] at kn
    clear keq
    have ho : OwnL (w.alloc (.cells #[] 59)) w.heap.size 59 19 (.slice (some ⟨w.heap.size, 0, none⟩) 0 0) [] := ⟨World.ownsRow_lit w #[] 0 (Nat.le_refl _) (Nat.zero_le _) (by simp), fun c hc => by cases hc⟩
    go_enter Tryd.func70, Tryd.ntmps70
    go_wp2_with (at_builtin; refine wpl_append rfl _ _ 22 rfl elemT_22 w.heap.size rfl ho rfl rfl (hs.ext ((Ext.refl w).alloc _)) h1 (by simpa using hb) (by decide) (by simp) ?_; intro v' W' ho' hg'; have he' := ext_own ((Ext.refl w).alloc _) ho (Nat.le_refl _) hg'; clear hg')
    go_ret
    exact ⟨_, rfl, by simpa using ho', he'⟩
theorem elemT_60 : ElemT Tryd.prog 60 32 18 (.agg #[.int .i64 0, .int .u8 0, .int .u8 0, .int .u8 0, .int .u8 0, .int .u8 0, .int .u8 0, .int .u8 0, .int .u8 0, .int .u8 0, .int .u8 0, .int .u8 0, .int .u8 0, .int .u8 0, .int .u8 0, .int .u8 0, .int .u8 0, .int .i64 0]) 32 := ⟨Tryd.underlying60, by kernel_rfl, rfl, by decide⟩
set_option maxHeartbeats 1000000 in
theorem clone_f80 (a : Option Addr) (c : Nat) (css : List (List Value)) (w : World) (hs : SlC w 18 a css) (h1 : ∀ cs ∈ css, ∀ u ∈ cs, u.oneCell' = true) (hb : css.length * 32 ≤ 140737488355328) :
    Calls Tryd.prog 80 #[.slice a css.length c] w fun e w' => ∃ v, e = .returned v ∧ OwnL w' w.heap.size 32 18 v css ∧ Ext w w' := by
  have keq := eql_slice_nil Tryd.underlying60
  cases a with
  | none =>
    have hnil : css = [] := by
      cases css with
      | nil => rfl
      | cons c r => obtain ⟨_, b, o, h2, _⟩ := hs 0 c rfl; cases h2
    subst hnil
    have kn := fun (w : World) (l c : Nat) => keq w none l c
    simp only [Option.isNone_none] at kn
    clear keq
    go_enter Tryd.func80, Tryd.ntmps80
    go_wp2
    go_ret
    exact ⟨_, rfl, OwnL.nil _ _ _ _, by repeat (first | exact Ext.refl _ | assumption | apply Ext.alloc | apply Ext.drewN | apply Ext.drew)⟩
  | some ad =>
    have kn := fun (w : World) (l c : Nat) => keq w (some ad) l c
    simp only [Option.isNone_some] at kn
    clear keq
    have ho : OwnL (w.alloc (.cells #[] 32)) w.heap.size 32 18 (.slice (some ⟨w.heap.size, 0, none⟩) 0 0) [] := ⟨World.ownsRow_lit w #[] 0 (Nat.le_refl _) (Nat.zero_le _) (by simp), fun c hc => by cases hc⟩
    go_enter Tryd.func80, Tryd.ntmps80
    go_wp2_with (at_builtin; refine wpl_append rfl _ _ 60 rfl elemT_60 w.heap.size rfl ho rfl rfl (hs.ext ((Ext.refl w).alloc _)) h1 (by simpa using hb) (by decide) (by simp) ?_; intro v' W' ho' hg'; have he' := ext_own ((Ext.refl w).alloc _) ho (Nat.le_refl _) hg'; clear hg')
    go_ret
    exact ⟨_, rfl, by simpa using ho', he'⟩
end Go.Proofs.YtihbammfchnjgaaDoor.F

/- What the evaluator is told of the functions. No condition. -/
namespace Go.Proofs.YtihbammfchnjgaaDoor.F
open Go Go.Proofs.YtihbammfchnjgaaDoor.A
def fns : FuncId → Option AFunc
  | 3 => some f3
  | 4 => some f4
  | 5 => some f5
  | 6 => some f6
  | 7 => some f7
  | 8 => some f8
  | 9 => some f9
  | 10 => some f10
  | 11 => some f11
  | 12 => some f12
  | 13 => some f13
  | 14 => some f14
  | 15 => some f15
  | 16 => some f16
  | 17 => some f17
  | 18 => some f18
  | 19 => some f19
  | 20 => some f20
  | 21 => some f21
  | 22 => some f22
  | 23 => some f23
  | 24 => some f24
  | 25 => some f25
  | 26 => some f26
  | 27 => some f27
  | 28 => some f28
  | 29 => some f29
  | 30 => some f30
  | 31 => some f31
  | 32 => some f32
  | 33 => some f33
  | 34 => some f34
  | 35 => some f35
  | 36 => some f36
  | 37 => some f37
  | 38 => some f38
  | 39 => some f39
  | 40 => some f40
  | 41 => some f41
  | 42 => some f42
  | 43 => some f43
  | 44 => some f44
  | 45 => some f45
  | 46 => some f46
  | 47 => some f47
  | 48 => some f48
  | 49 => some f49
  | 50 => some f50
  | 51 => some f51
  | 52 => some f52
  | 53 => some f53
  | 54 => some f54
  | 55 => some f55
  | 56 => some f56
  | 57 => some f57
  | 58 => some f58
  | 59 => some f59
  | 60 => some f60
  | 61 => some f61
  | 62 => some f62
  | 63 => some f63
  | 64 => some f64
  | 65 => some f65
  | 66 => some f66
  | 67 => some f67
  | 68 => some f68
  | 69 => some f69
  | 72 => some f72
  | 73 => some f73
  | 74 => some f74
  | 75 => some f75
  | 76 => some f76
  | 77 => some f77
  | 78 => some f78
  | 79 => some f79
  | 81 => some f81
  | 82 => some f82
  | 83 => some f83
  | 84 => some f84
  | 85 => some f85
  | 86 => some f86
  | 87 => some f87
  | 89 => some f89
  | 90 => some f90
  | 93 => some f93
  | 94 => some f94
  | _ => none
def prims : FuncId → Option (List AV → List Blk → Option (AV × List Blk))
  | 70 => some (pClone 59 19 40)
  | 71 => some (pInsert 59 19 40)
  | 80 => some (pClone 32 18 32)
  | 88 => some (pCmp)
  | _ => none
def E : Env := ⟨fns, prims⟩
theorem envOk : EnvOk Tryd.prog G E := by
  refine ⟨fun f af _ h => ?_, fun f p h => ?_⟩
  · show ∃ fm g, _
    change fns f = some af at h
    unfold fns at h
    split at h
    · cases h; exact ⟨Tryd.f3, f3, Tryd.func3, by kernel_rfl, c3⟩
    · cases h; exact ⟨Tryd.f4, f4, Tryd.func4, by kernel_rfl, c4⟩
    · cases h; exact ⟨Tryd.f5, f5, Tryd.func5, by kernel_rfl, c5⟩
    · cases h; exact ⟨Tryd.f6, f6, Tryd.func6, by kernel_rfl, c6⟩
    · cases h; exact ⟨Tryd.f7, f7, Tryd.func7, by kernel_rfl, c7⟩
    · cases h; exact ⟨Tryd.f8, f8, Tryd.func8, by kernel_rfl, c8⟩
    · cases h; exact ⟨Tryd.f9, f9, Tryd.func9, by kernel_rfl, c9⟩
    · cases h; exact ⟨Tryd.f10, f10, Tryd.func10, by kernel_rfl, c10⟩
    · cases h; exact ⟨Tryd.f11, f11, Tryd.func11, by kernel_rfl, c11⟩
    · cases h; exact ⟨Tryd.f12, f12, Tryd.func12, by kernel_rfl, c12⟩
    · cases h; exact ⟨Tryd.f13, f13, Tryd.func13, by kernel_rfl, c13⟩
    · cases h; exact ⟨Tryd.f14, f14, Tryd.func14, by kernel_rfl, c14⟩
    · cases h; exact ⟨Tryd.f15, f15, Tryd.func15, by kernel_rfl, c15⟩
    · cases h; exact ⟨Tryd.f16, f16, Tryd.func16, by kernel_rfl, c16⟩
    · cases h; exact ⟨Tryd.f17, f17, Tryd.func17, by kernel_rfl, c17⟩
    · cases h; exact ⟨Tryd.f18, f18, Tryd.func18, by kernel_rfl, c18⟩
    · cases h; exact ⟨Tryd.f19, f19, Tryd.func19, by kernel_rfl, c19⟩
    · cases h; exact ⟨Tryd.f20, f20, Tryd.func20, by kernel_rfl, c20⟩
    · cases h; exact ⟨Tryd.f21, f21, Tryd.func21, by kernel_rfl, c21⟩
    · cases h; exact ⟨Tryd.f22, f22, Tryd.func22, by kernel_rfl, c22⟩
    · cases h; exact ⟨Tryd.f23, f23, Tryd.func23, by kernel_rfl, c23⟩
    · cases h; exact ⟨Tryd.f24, f24, Tryd.func24, by kernel_rfl, c24⟩
    · cases h; exact ⟨Tryd.f25, f25, Tryd.func25, by kernel_rfl, c25⟩
    · cases h; exact ⟨Tryd.f26, f26, Tryd.func26, by kernel_rfl, c26⟩
    · cases h; exact ⟨Tryd.f27, f27, Tryd.func27, by kernel_rfl, c27⟩
    · cases h; exact ⟨Tryd.f28, f28, Tryd.func28, by kernel_rfl, c28⟩
    · cases h; exact ⟨Tryd.f29, f29, Tryd.func29, by kernel_rfl, c29⟩
    · cases h; exact ⟨Tryd.f30, f30, Tryd.func30, by kernel_rfl, c30⟩
    · cases h; exact ⟨Tryd.f31, f31, Tryd.func31, by kernel_rfl, c31⟩
    · cases h; exact ⟨Tryd.f32, f32, Tryd.func32, by kernel_rfl, c32⟩
    · cases h; exact ⟨Tryd.f33, f33, Tryd.func33, by kernel_rfl, c33⟩
    · cases h; exact ⟨Tryd.f34, f34, Tryd.func34, by kernel_rfl, c34⟩
    · cases h; exact ⟨Tryd.f35, f35, Tryd.func35, by kernel_rfl, c35⟩
    · cases h; exact ⟨Tryd.f36, f36, Tryd.func36, by kernel_rfl, c36⟩
    · cases h; exact ⟨Tryd.f37, f37, Tryd.func37, by kernel_rfl, c37⟩
    · cases h; exact ⟨Tryd.f38, f38, Tryd.func38, by kernel_rfl, c38⟩
    · cases h; exact ⟨Tryd.f39, f39, Tryd.func39, by kernel_rfl, c39⟩
    · cases h; exact ⟨Tryd.f40, f40, Tryd.func40, by kernel_rfl, c40⟩
    · cases h; exact ⟨Tryd.f41, f41, Tryd.func41, by kernel_rfl, c41⟩
    · cases h; exact ⟨Tryd.f42, f42, Tryd.func42, by kernel_rfl, c42⟩
    · cases h; exact ⟨Tryd.f43, f43, Tryd.func43, by kernel_rfl, c43⟩
    · cases h; exact ⟨Tryd.f44, f44, Tryd.func44, by kernel_rfl, c44⟩
    · cases h; exact ⟨Tryd.f45, f45, Tryd.func45, by kernel_rfl, c45⟩
    · cases h; exact ⟨Tryd.f46, f46, Tryd.func46, by kernel_rfl, c46⟩
    · cases h; exact ⟨Tryd.f47, f47, Tryd.func47, by kernel_rfl, c47⟩
    · cases h; exact ⟨Tryd.f48, f48, Tryd.func48, by kernel_rfl, c48⟩
    · cases h; exact ⟨Tryd.f49, f49, Tryd.func49, by kernel_rfl, c49⟩
    · cases h; exact ⟨Tryd.f50, f50, Tryd.func50, by kernel_rfl, c50⟩
    · cases h; exact ⟨Tryd.f51, f51, Tryd.func51, by kernel_rfl, c51⟩
    · cases h; exact ⟨Tryd.f52, f52, Tryd.func52, by kernel_rfl, c52⟩
    · cases h; exact ⟨Tryd.f53, f53, Tryd.func53, by kernel_rfl, c53⟩
    · cases h; exact ⟨Tryd.f54, f54, Tryd.func54, by kernel_rfl, c54⟩
    · cases h; exact ⟨Tryd.f55, f55, Tryd.func55, by kernel_rfl, c55⟩
    · cases h; exact ⟨Tryd.f56, f56, Tryd.func56, by kernel_rfl, c56⟩
    · cases h; exact ⟨Tryd.f57, f57, Tryd.func57, by kernel_rfl, c57⟩
    · cases h; exact ⟨Tryd.f58, f58, Tryd.func58, by kernel_rfl, c58⟩
    · cases h; exact ⟨Tryd.f59, f59, Tryd.func59, by kernel_rfl, c59⟩
    · cases h; exact ⟨Tryd.f60, f60, Tryd.func60, by kernel_rfl, c60⟩
    · cases h; exact ⟨Tryd.f61, f61, Tryd.func61, by kernel_rfl, c61⟩
    · cases h; exact ⟨Tryd.f62, f62, Tryd.func62, by kernel_rfl, c62⟩
    · cases h; exact ⟨Tryd.f63, f63, Tryd.func63, by kernel_rfl, c63⟩
    · cases h; exact ⟨Tryd.f64, f64, Tryd.func64, by kernel_rfl, c64⟩
    · cases h; exact ⟨Tryd.f65, f65, Tryd.func65, by kernel_rfl, c65⟩
    · cases h; exact ⟨Tryd.f66, f66, Tryd.func66, by kernel_rfl, c66⟩
    · cases h; exact ⟨Tryd.f67, f67, Tryd.func67, by kernel_rfl, c67⟩
    · cases h; exact ⟨Tryd.f68, f68, Tryd.func68, by kernel_rfl, c68⟩
    · cases h; exact ⟨Tryd.f69, f69, Tryd.func69, by kernel_rfl, c69⟩
    · cases h; exact ⟨Tryd.f72, f72, Tryd.func72, by kernel_rfl, c72⟩
    · cases h; exact ⟨Tryd.f73, f73, Tryd.func73, by kernel_rfl, c73⟩
    · cases h; exact ⟨Tryd.f74, f74, Tryd.func74, by kernel_rfl, c74⟩
    · cases h; exact ⟨Tryd.f75, f75, Tryd.func75, by kernel_rfl, c75⟩
    · cases h; exact ⟨Tryd.f76, f76, Tryd.func76, by kernel_rfl, c76⟩
    · cases h; exact ⟨Tryd.f77, f77, Tryd.func77, by kernel_rfl, c77⟩
    · cases h; exact ⟨Tryd.f78, f78, Tryd.func78, by kernel_rfl, c78⟩
    · cases h; exact ⟨Tryd.f79, f79, Tryd.func79, by kernel_rfl, c79⟩
    · cases h; exact ⟨Tryd.f81, f81, Tryd.func81, by kernel_rfl, c81⟩
    · cases h; exact ⟨Tryd.f82, f82, Tryd.func82, by kernel_rfl, c82⟩
    · cases h; exact ⟨Tryd.f83, f83, Tryd.func83, by kernel_rfl, c83⟩
    · cases h; exact ⟨Tryd.f84, f84, Tryd.func84, by kernel_rfl, c84⟩
    · cases h; exact ⟨Tryd.f85, f85, Tryd.func85, by kernel_rfl, c85⟩
    · cases h; exact ⟨Tryd.f86, f86, Tryd.func86, by kernel_rfl, c86⟩
    · cases h; exact ⟨Tryd.f87, f87, Tryd.func87, by kernel_rfl, c87⟩
    · cases h; exact ⟨Tryd.f89, f89, Tryd.func89, by kernel_rfl, c89⟩
    · cases h; exact ⟨Tryd.f90, f90, Tryd.func90, by kernel_rfl, c90⟩
    · cases h; exact ⟨Tryd.f93, f93, Tryd.func93, by kernel_rfl, c93⟩
    · cases h; exact ⟨Tryd.f94, f94, Tryd.func94, by kernel_rfl, c94⟩
    · cases h
  · change prims f = some p at h
    unfold prims at h
    split at h
    · cases h; exact pClone_ok (ent_of Tryd.func70 (by kernel_rfl) (c := _) rfl) clone_f70
    · cases h; exact pInsert_ok' (ent_of Tryd.func71 (by kernel_rfl) (c := _) rfl) (by kernel_rfl) elemT_22 ins_mid_f71 ins_end_f71
    · cases h; exact pClone_ok (ent_of Tryd.func80 (by kernel_rfl) (c := _) rfl) clone_f80
    · cases h; exact pCmp_ok Tryd.func88 (by kernel_rfl) (by kernel_rfl) (by kernel_rfl) (by kernel_rfl)
    · cases h
end Go.Proofs.YtihbammfchnjgaaDoor.F

/- Addresses, prefixes and rows as data, and their cells. No condition. -/
set_option linter.unusedSimpArgs false
namespace Go.Proofs.YtihbammfchnjgaaDoor.D
open Go Go.Proofs.YtihbammfchnjgaaDoor.A

structure B16 where
  l : List Nat
  len : l.length = 16
  rng : ∀ x ∈ l, x < 256
  deriving DecidableEq
structure Adr where
  ver : Int
  b : B16
  deriving DecidableEq
structure Pfx where
  adr : Adr
  bits : Int
  deriving DecidableEq
structure Rw where
  p : Pfx
  hop : Int
  deriving DecidableEq

def zerB : B16 := ⟨List.replicate 16 0, rfl, by decide⟩
def zerA : Adr := ⟨0, zerB⟩
def zerP : Pfx := ⟨zerA, 0⟩
def zerR : Rw := ⟨zerP, 0⟩

def u8c (x : Nat) : AV := .int .u8 (x : Int)
def bav (b : B16) : List AV := b.l.map u8c
def aav (a : Adr) : List AV := .int .i64 a.ver :: bav a.b
def pav (p : Pfx) : List AV := .int .i64 p.adr.ver :: (bav p.adr.b ++ [.int .i64 p.bits])
def rav (r : Rw) : List AV := .int .i64 r.p.adr.ver :: (bav r.p.adr.b ++ [.int .i64 r.p.bits, .int .i64 r.hop])

theorem bav_zer : bav zerB = [.int .u8 0, .int .u8 0, .int .u8 0, .int .u8 0, .int .u8 0, .int .u8 0, .int .u8 0, .int .u8 0, .int .u8 0, .int .u8 0, .int .u8 0, .int .u8 0, .int .u8 0, .int .u8 0, .int .u8 0, .int .u8 0] := rfl
theorem aav_zer : aav zerA = [.int .i64 0, .int .u8 0, .int .u8 0, .int .u8 0, .int .u8 0, .int .u8 0, .int .u8 0, .int .u8 0, .int .u8 0, .int .u8 0, .int .u8 0, .int .u8 0, .int .u8 0, .int .u8 0, .int .u8 0, .int .u8 0, .int .u8 0] := rfl
theorem pav_zer : pav zerP = [.int .i64 0, .int .u8 0, .int .u8 0, .int .u8 0, .int .u8 0, .int .u8 0, .int .u8 0, .int .u8 0, .int .u8 0, .int .u8 0, .int .u8 0, .int .u8 0, .int .u8 0, .int .u8 0, .int .u8 0, .int .u8 0, .int .u8 0, .int .i64 0] := rfl
theorem rav_zer : rav zerR = [.int .i64 0, .int .u8 0, .int .u8 0, .int .u8 0, .int .u8 0, .int .u8 0, .int .u8 0, .int .u8 0, .int .u8 0, .int .u8 0, .int .u8 0, .int .u8 0, .int .u8 0, .int .u8 0, .int .u8 0, .int .u8 0, .int .u8 0, .int .i64 0, .int .i64 0] := rfl

theorem bav_len (b : B16) : (bav b).length = 16 := by simp [bav, b.len]
theorem aav_len (a : Adr) : (aav a).length = 17 := by simp [aav, bav_len]
theorem pav_len (p : Pfx) : (pav p).length = 18 := by simp [pav, bav_len]
theorem rav_len (r : Rw) : (rav r).length = 19 := by simp [rav, bav_len]
theorem bav_data (b : B16) : dataL (bav b) = true := by
  simp only [dataL, bav, List.all_map, List.all_eq_true, Function.comp]
  intro x _; rfl
theorem all_data (l r : List AV) : dataL (l ++ r) = (dataL l && dataL r) := by simp [dataL]
theorem aav_data (a : Adr) : dataL (aav a) = true := by
  have := bav_data a.b; simp only [dataL, aav, List.all_cons, AV.isData, Bool.true_and] at *; exact this
theorem pav_data (p : Pfx) : dataL (pav p) = true := by
  have := bav_data p.adr.b
  simp only [dataL, pav, List.all_cons, AV.isData, Bool.true_and, List.all_append, List.all_nil, Bool.and_true] at *; exact this
theorem rav_data (r : Rw) : dataL (rav r) = true := by
  have := bav_data r.p.adr.b
  simp only [dataL, rav, List.all_cons, AV.isData, Bool.true_and, List.all_append, List.all_nil, Bool.and_true] at *; exact this
theorem below_append (m : Nat) : ∀ l r, belowL m (l ++ r) = (belowL m l && belowL m r)
  | [], r => by simp [belowL]
  | a :: l, r => by simp only [List.cons_append, belowL, below_append m l r, Bool.and_assoc]
theorem below_data (m : Nat) : ∀ {l : List AV}, dataL l = true → belowL m l = true
  | [], _ => rfl
  | a :: l, h => by
    simp only [dataL, List.all_cons, Bool.and_eq_true] at h
    simp only [belowL, below_data m (l := l) h.2, Bool.and_true]
    cases a <;> first | rfl | (have := h.1; cases this)
theorem bav_below (m : Nat) (b : B16) : belowL m (bav b) = true := below_data m (bav_data b)
theorem aav_below (m : Nat) (b : Adr) : belowL m (aav b) = true := below_data m (aav_data b)
theorem pav_below (m : Nat) (b : Pfx) : belowL m (pav b) = true := below_data m (pav_data b)
theorem rav_below (m : Nat) (b : Rw) : belowL m (rav b) = true := below_data m (rav_data b)

theorem pc_all (l : List AV) (n : Nat) (h : l.length = n) : piece l 0 n = some l := by
  unfold piece; rw [if_pos (by omega)]; subst h; simp
theorem bav_p (b : B16) : piece (bav b) 0 16 = some (bav b) := pc_all _ _ (bav_len b)
theorem aav_p (a : Adr) : piece (aav a) 0 17 = some (aav a) := pc_all _ _ (aav_len a)
theorem pav_p (p : Pfx) : piece (pav p) 0 18 = some (pav p) := pc_all _ _ (pav_len p)
theorem rav_p (r : Rw) : piece (rav r) 0 19 = some (rav r) := pc_all _ _ (rav_len r)
theorem aav_v (a : Adr) : piece (aav a) 0 1 = some [.int .i64 a.ver] := by
  unfold piece; rw [if_pos (by rw [aav_len]; omega)]; rfl
theorem pav_v (a : Pfx) : piece (pav a) 0 1 = some [.int .i64 a.adr.ver] := by
  unfold piece; rw [if_pos (by rw [pav_len]; omega)]; rfl
theorem rav_v (a : Rw) : piece (rav a) 0 1 = some [.int .i64 a.p.adr.ver] := by
  unfold piece; rw [if_pos (by rw [rav_len]; omega)]; rfl
theorem aav_b (a : Adr) : piece (aav a) 1 16 = some (bav a.b) := by
  unfold piece; rw [if_pos (by rw [aav_len]; omega)]
  have := bav_len a.b
  simp only [aav, List.drop_succ_cons, List.drop_zero]
  rw [← this, List.take_length]
theorem pav_b (a : Pfx) : piece (pav a) 1 16 = some (bav a.adr.b) := by
  unfold piece; rw [if_pos (by rw [pav_len]; omega)]
  have := bav_len a.adr.b
  simp only [pav, List.drop_succ_cons, List.drop_zero]
  rw [← this, List.take_left]
theorem rav_b (a : Rw) : piece (rav a) 1 16 = some (bav a.p.adr.b) := by
  unfold piece; rw [if_pos (by rw [rav_len]; omega)]
  have := bav_len a.p.adr.b
  simp only [rav, List.drop_succ_cons, List.drop_zero]
  rw [← this, List.take_left]
theorem pav_a (a : Pfx) : piece (pav a) 0 17 = some (aav a.adr) := by
  unfold piece; rw [if_pos (by rw [pav_len]; omega)]
  have := bav_len a.adr.b
  simp only [pav, aav, List.take_succ_cons, List.drop_zero]
  rw [← this, List.take_left]
theorem rav_a (a : Rw) : piece (rav a) 0 17 = some (aav a.p.adr) := by
  unfold piece; rw [if_pos (by rw [rav_len]; omega)]
  have := bav_len a.p.adr.b
  simp only [rav, aav, List.take_succ_cons, List.drop_zero]
  rw [← this, List.take_left]
theorem drop16 (b : B16) (r : List AV) (n : Nat) : (bav b ++ r).drop (16 + n) = r.drop n := by
  rw [← bav_len b, List.drop_append]; simp
theorem pav_n (a : Pfx) : piece (pav a) 17 1 = some [.int .i64 a.bits] := by
  unfold piece; rw [if_pos (by rw [pav_len]; omega)]
  simp only [pav, List.drop_succ_cons]
  rw [show (16 : Nat) = 16 + 0 from rfl, drop16]; rfl
theorem rav_n (a : Rw) : piece (rav a) 17 1 = some [.int .i64 a.p.bits] := by
  unfold piece; rw [if_pos (by rw [rav_len]; omega)]
  simp only [rav, List.drop_succ_cons]
  rw [show (16 : Nat) = 16 + 0 from rfl, drop16]; rfl
theorem rav_h (a : Rw) : piece (rav a) 18 1 = some [.int .i64 a.hop] := by
  unfold piece; rw [if_pos (by rw [rav_len]; omega)]
  simp only [rav, List.drop_succ_cons]
  rw [show (17 : Nat) = 16 + 1 from rfl, drop16]; rfl
theorem rav_pf (a : Rw) : piece (rav a) 0 18 = some (pav a.p) := by
  unfold piece; rw [if_pos (by rw [rav_len]; omega)]
  have := bav_len a.p.adr.b
  simp only [rav, pav, List.take_succ_cons, List.drop_zero]
  rw [show (17 : Nat) = (bav a.p.adr.b).length + 1 by rw [this], List.take_length_add_append]; rfl

def B16.get (b : B16) (n : Nat) : Nat := b.l.getD n 0
theorem B16.get_lt (b : B16) (n : Nat) : b.get n < 256 := by
  unfold B16.get
  rw [List.getD_eq_getElem?_getD]
  cases h : b.l[n]? with
  | none => simp
  | some x => simpa using b.rng x (List.mem_of_getElem? h)
theorem B16.get_some (b : B16) {n : Nat} (h : n < 16) : b.l[n]? = some (b.get n) := by
  have h' : n < b.l.length := by rw [b.len]; exact h
  simp [B16.get, List.getElem?_eq_getElem h']
theorem bav_i (b : B16) (n : Nat) (h : n < 16) : piece (bav b) n 1 = some [.int .u8 (b.get n : Int)] := by
  unfold piece; rw [if_pos (by rw [bav_len]; omega)]
  have h' : n < (bav b).length := by rw [bav_len]; exact h
  rw [List.drop_eq_getElem_cons h']
  have : (bav b)[n]? = some (u8c (b.get n)) := by simp [bav, b.get_some h]
  rw [List.getElem?_eq_getElem h'] at this
  rw [Option.some.inj this]
  rfl
theorem B16.ext' {a b : B16} (h : ∀ n < 16, a.get n = b.get n) : a = b := by
  have : a.l = b.l := List.ext_getElem? fun n => by
    by_cases hn : n < 16
    · rw [a.get_some hn, b.get_some hn, h n hn]
    · rw [List.getElem?_eq_none (by rw [a.len]; omega), List.getElem?_eq_none (by rw [b.len]; omega)]
  cases a; cases b; simp only [B16.mk.injEq]; exact this
def B16.put (b : B16) (n v : Nat) : B16 := if h : v < 256 then ⟨b.l.set n v, by simp [b.len], fun x hx => by
  rcases List.mem_or_eq_of_mem_set hx with h' | h'
  · exact b.rng x h'
  · omega⟩ else b
theorem B16.get_put (b : B16) {n v k : Nat} (hn : n < 16) (hv : v < 256) : (b.put n v).get k = if k = n then v else b.get k := by
  unfold B16.put; rw [dif_pos hv]
  simp only [B16.get, List.getD_eq_getElem?_getD, List.getElem?_set]
  by_cases h : n = k
  · subst h; simp [b.len, hn]
  · rw [if_neg h, if_neg (fun e => h e.symm)]
theorem bav_put (b : B16) {n v : Nat} (hn : n < 16) (hv : v < 256) : ovr (bav b) n [.int .u8 (v : Int)] = some (bav (b.put n v)) := by
  unfold ovr
  rw [if_pos (by simp [bav_len]; omega)]
  unfold B16.put; rw [dif_pos hv]
  have h' : n < (bav b).length := by rw [bav_len]; exact hn
  show some ((bav b).take n ++ [u8c v] ++ (bav b).drop (n + 1)) = _
  simp only [bav, List.map_set]
  rw [List.set_eq_take_append_cons_drop, if_pos (by simpa [bav] using h')]
  simp
def gen (f : Nat → Nat) : B16 := ⟨(List.range 16).map (fun i => f i % 256), by simp, fun x hx => by
  obtain ⟨i, _, rfl⟩ := List.mem_map.1 hx; exact Nat.mod_lt _ (by decide)⟩
theorem gen_get (f : Nat → Nat) {n : Nat} (h : n < 16) : (gen f).get n = f n % 256 := by
  simp [gen, B16.get, List.getD_eq_getElem?_getD, h]

/-! ### Bits -/
def bit (b : B16) (k : Nat) : Bool := (b.get (k / 8)).testBit (7 - k % 8)
theorem byte_ext {x y : Nat} (hx : x < 256) (hy : y < 256) (h : ∀ j < 8, x.testBit j = y.testBit j) : x = y := by
  apply Nat.eq_of_testBit_eq
  intro j
  by_cases hj : j < 8
  · exact h j hj
  · rw [Nat.testBit_lt_two_pow (Nat.lt_of_lt_of_le hx (Nat.pow_le_pow_right (n := 2) (by decide) (show 8 ≤ j by omega))), Nat.testBit_lt_two_pow (Nat.lt_of_lt_of_le hy (Nat.pow_le_pow_right (n := 2) (by decide) (show 8 ≤ j by omega)))]
theorem bits_ext {a b : B16} (h : ∀ k < 128, bit a k = bit b k) : a = b := by
  apply B16.ext'
  intro n hn
  apply byte_ext (a.get_lt n) (b.get_lt n)
  intro j hj
  have := h (8 * n + (7 - j)) (by omega)
  unfold bit at this
  rw [show (8 * n + (7 - j)) / 8 = n by omega, show 7 - (8 * n + (7 - j)) % 8 = j by omega] at this
  exact this
def Clr (b : B16) (n : Nat) : Prop := ∀ k, n ≤ k → k < 128 → bit b k = false
instance {b : B16} {n : Nat} : Decidable (Clr b n) := decidable_of_iff (∀ k, k < 128 → n ≤ k → bit b k = false) ⟨fun h k h1 h2 => h k h2 h1, fun h k h1 h2 => h k h2 h1⟩
def width (v : Int) : Nat := if v = 4 then 32 else if v = 6 then 128 else 0
theorem width_le (v : Int) : width v ≤ 128 := by unfold width; split <;> (try split) <;> omega
def AddrOk (a : Adr) : Prop := width a.ver ≠ 0 ∧ Clr a.b (width a.ver)
instance {a : Adr} : Decidable (AddrOk a) := by unfold AddrOk; infer_instance
def PfxOk (p : Pfx) : Prop := AddrOk p.adr ∧ 0 ≤ p.bits ∧ p.bits ≤ width p.adr.ver ∧ Clr p.adr.b p.bits.toNat
instance {p : Pfx} : Decidable (PfxOk p) := by unfold PfxOk; infer_instance
def cutN (x n : Nat) : Nat := x / 2 ^ (8 - n) * 2 ^ (8 - n)
def cut (b : B16) (n : Nat) : B16 := gen fun i => cutN (b.get i) (n - 8 * i)
def Has (p : Pfx) (a : Adr) : Prop := PfxOk p ∧ AddrOk a ∧ p.adr.ver = a.ver ∧ cut a.b p.bits.toNat = p.adr.b
instance {p : Pfx} {a : Adr} : Decidable (Has p a) := by unfold Has; infer_instance
def Holds (p q : Pfx) : Prop := PfxOk q ∧ p.bits ≤ q.bits ∧ Has p q.adr
instance {p q : Pfx} : Decidable (Holds p q) := by unfold Holds; infer_instance
theorem cutN_le (x n : Nat) : cutN x n ≤ x := Nat.div_mul_le_self _ _
theorem cutN_bit (x n j : Nat) : (cutN x n).testBit j = (decide (8 - n ≤ j) && x.testBit j) := by
  unfold cutN
  rw [← Nat.shiftLeft_eq, ← Nat.shiftRight_eq_div_pow, Nat.testBit_shiftLeft, Nat.testBit_shiftRight]
  by_cases h : 8 - n ≤ j
  · simp [h, show 8 - n + (j - (8 - n)) = j by omega]
  · simp [h]
theorem cut_get (b : B16) (n : Nat) {i : Nat} (h : i < 16) : (cut b n).get i = cutN (b.get i) (n - 8 * i) := by
  unfold cut
  rw [gen_get _ h, Nat.mod_eq_of_lt (Nat.lt_of_le_of_lt (cutN_le _ _) (b.get_lt i))]
theorem cut_bit (b : B16) (n : Nat) {k : Nat} (h : k < 128) : bit (cut b n) k = (decide (k < n) && bit b k) := by
  unfold bit
  rw [cut_get b n (by omega), cutN_bit]
  congr 1
  apply decide_eq_decide.2
  omega
theorem has_bits {p : Pfx} {a : B16} {n : Nat} (hc : Clr p.adr.b n) : cut a n = p.adr.b ↔ ∀ i < n, i < 128 → bit p.adr.b i = bit a i := by
  constructor
  · intro h i hi h2
    rw [← h, cut_bit a n h2]; simp [hi]
  · intro h
    apply bits_ext
    intro k hk
    rw [cut_bit a n hk]
    by_cases hn : k < n
    · simp [hn, h k hn hk]
    · simp [hn, hc k (by omega) hk]

/-! ### Whole numbers in the machine -/
theorem quo8 (k : Nat) (h : k ≤ 9223372036854775807) : IntKind.i64.wrap ((k : Int).tdiv 8) = ((k / 8 : Nat) : Int) := by
  rw [IntWalk.i64_quo _ _ (by omega)]; omega
theorem rem8 (k : Nat) : (k : Int).tmod 8 = ((k % 8 : Nat) : Int) := by
  rw [Int.tmod_eq_emod_of_nonneg (by omega)]; omega
theorem sub7 (k : Nat) : IntKind.i64.wrap (7 - ((k % 8 : Nat) : Int)) = ((7 - k % 8 : Nat) : Int) := by
  rw [IntWalk.i64_in _ (by omega)]; omega
theorem shrN (x j : Nat) (h : j ≤ 8) : ((x : Int).fdiv (2 ^ (Nat.min j 8))) = ((x / 2 ^ j : Nat) : Int) := by
  rw [show Nat.min j 8 = j from Nat.min_eq_left h, Int.fdiv_eq_ediv_of_nonneg _ (Int.pow_nonneg (by decide))]
  simp
theorem and1 (x : Nat) (h : x < 256) : bits2 .and .u8 (x : Int) 1 = some ((x % 2 : Nat) : Int) := by
  have : ∀ x < 256, bits2 .and .u8 ((x : Nat) : Int) 1 = some ((x % 2 : Nat) : Int) := by decide +kernel
  exact this x h
theorem bit_and (b : B16) (k : Nat) : (((b.get (k / 8) / 2 ^ (7 - k % 8)) % 2 : Nat) : Int) = if bit b k then 1 else 0 := by
  unfold bit
  rw [Nat.testBit_eq_decide_div_mod_eq]
  have := Nat.mod_two_eq_zero_or_one (b.get (k / 8) / 2 ^ (7 - k % 8))
  rcases this with h | h <;> rw [h] <;> simp

theorem eqInts (k : IntKind) : ∀ (l r : List Int), l.length = r.length → eqCells (List.replicate l.length 1) (l.map (.int k)) (r.map (.int k)) = some (decide (l = r))
  | [], [], _ => rfl
  | a :: l, b :: r, h => by
    simp only [List.length_cons, List.replicate_succ, List.map_cons, eqCells, A.kindOk, if_true, eqCell, eqInts k l r (by simpa using h), List.cons.injEq, Option.some.injEq]
    by_cases h1 : a = b <;> by_cases h2 : l = r <;> simp [h1, h2]
  | [], _ :: _, h => by simp at h
  | _ :: _, [], h => by simp at h
theorem eqCells_append : ∀ (k1 k2 : List Nat) (a b c d : List AV), k1.length = a.length → a.length = c.length → eqCells (k1 ++ k2) (a ++ b) (c ++ d) = match eqCells k1 a c, eqCells k2 b d with
    | some x, some y => some (x && y)
    | _, _ => none
  | [], k2, [], b, [], d, _, _ => by
    simp only [List.nil_append, eqCells]
    cases eqCells k2 b d <;> simp
  | n :: k1, k2, x :: a, b, y :: c, d, h1, h2 => by
    simp only [List.cons_append, eqCells]
    rw [eqCells_append k1 k2 a b c d (by simpa using h1) (by simpa using h2)]
    cases A.kindOk n x <;> simp only [Bool.false_eq_true, if_false, if_true]
    cases eqCell x y <;> cases eqCells k1 a c <;> cases eqCells k2 b d <;> simp [Bool.and_assoc]
  | [], _, _ :: _, _, _, _, h, _ => by simp at h
  | _ :: _, _, [], _, _, _, h, _ => by simp at h
  | _, _, [], _, _ :: _, _, _, h => by simp at h
  | _, _, _ :: _, _, [], _, _, h => by simp at h
theorem bav_ints (b : B16) : bav b = (b.l.map (fun x : Nat => (x : Int))).map (.int .u8) := by simp only [bav, List.map_map]; rfl
theorem eq_bav (a b : B16) : eqCells [1, 1, 1, 1, 1, 1, 1, 1, 1, 1, 1, 1, 1, 1, 1, 1] (bav a) (bav b) = some (decide (a = b)) := by
  have h := eqInts .u8 (a.l.map fun x : Nat => (x : Int)) (b.l.map fun x : Nat => (x : Int)) (by simp [a.len, b.len])
  rw [← bav_ints, ← bav_ints] at h
  simp only [List.length_map, a.len] at h
  refine h.trans (congrArg some (decide_eq_decide.2 ?_))
  constructor
  · intro h
    have : a.l = b.l := List.map_inj_right (fun x y h => Int.ofNat.inj h) |>.1 h
    cases a; cases b; simp only [B16.mk.injEq]; exact this
  · intro h; rw [h]
theorem eq1 (k : IntKind) (x y : Int) : eqCells [1] [.int k x] [.int k y] = some (decide (x = y)) := by
  simp only [eqCells, A.kindOk, if_true, eqCell, Bool.and_true, Option.some.injEq]
  by_cases h : x = y <;> simp [h]
theorem eq2 (k : IntKind) (x y z w : Int) : eqCells [1, 1] [.int k x, .int k z] [.int k y, .int k w] = some (decide (x = y) && decide (z = w)) := by
  simp only [eqCells, A.kindOk, if_true, eqCell, Bool.and_true, Option.some.injEq]
  by_cases h : x = y <;> by_cases h2 : z = w <;> simp [h, h2]
theorem eq_aav (a b : Adr) : eqCells [1, 1, 1, 1, 1, 1, 1, 1, 1, 1, 1, 1, 1, 1, 1, 1, 1] (aav a) (aav b) = some (decide (a = b)) := by
  have := eqCells_append [1] [1, 1, 1, 1, 1, 1, 1, 1, 1, 1, 1, 1, 1, 1, 1, 1] [.int .i64 a.ver] (bav a.b) [.int .i64 b.ver] (bav b.b) rfl rfl
  rw [eq1, eq_bav] at this
  refine this.trans (congrArg some ?_)
  obtain ⟨v, x⟩ := a; obtain ⟨w, y⟩ := b
  by_cases h1 : v = w <;> by_cases h2 : x = y <;> simp [h1, h2]
theorem eq_pav (a b : Pfx) : eqCells [1, 1, 1, 1, 1, 1, 1, 1, 1, 1, 1, 1, 1, 1, 1, 1, 1, 1] (pav a) (pav b) = some (decide (a = b)) := by
  have := eqCells_append [1, 1, 1, 1, 1, 1, 1, 1, 1, 1, 1, 1, 1, 1, 1, 1, 1] [1] (aav a.adr) [.int .i64 a.bits] (aav b.adr) [.int .i64 b.bits] (by rw [aav_len]; rfl) (by rw [aav_len, aav_len])
  rw [eq1, eq_aav] at this
  refine this.trans (congrArg some ?_)
  obtain ⟨v, x⟩ := a; obtain ⟨w, y⟩ := b
  by_cases h1 : v = w <;> by_cases h2 : x = y <;> simp [h1, h2]
theorem eq_rav (a b : Rw) : eqCells [1, 1, 1, 1, 1, 1, 1, 1, 1, 1, 1, 1, 1, 1, 1, 1, 1, 1, 1] (rav a) (rav b) = some (decide (a = b)) := by
  have := eqCells_append [1, 1, 1, 1, 1, 1, 1, 1, 1, 1, 1, 1, 1, 1, 1, 1, 1, 1] [1] (pav a.p) [.int .i64 a.hop] (pav b.p) [.int .i64 b.hop] (by rw [pav_len]; rfl) (by rw [pav_len, pav_len])
  have e : ∀ a : Rw, pav a.p ++ [.int .i64 a.hop] = rav a := fun a => by simp [pav, rav]
  rw [eq1, eq_pav, e, e] at this
  refine this.trans (congrArg some ?_)
  obtain ⟨v, x⟩ := a; obtain ⟨w, y⟩ := b
  by_cases h1 : v = w <;> by_cases h2 : x = y <;> simp [h1, h2]

theorem and255 (x d : Nat) (hx : x < 256) (hd : d ≤ 8) : bits2 .and .u8 (x : Int) (IntKind.u8.wrap (255 * 2 ^ (Nat.min d 8))) = some ((x / 2 ^ d * 2 ^ d : Nat) : Int) := by
  have : ∀ x < 256, ∀ d < 9, bits2 .and .u8 ((x : Nat) : Int) (IntKind.u8.wrap (255 * 2 ^ (Nat.min d 8))) = some ((x / 2 ^ d * 2 ^ d : Nat) : Int) := by decide +kernel
  exact this x hx d (by omega)
def cutTo (b : B16) (n k : Nat) : B16 := gen fun i => if i < k then cutN (b.get i) (n - 8 * i) else b.get i
theorem cutTo_get (b : B16) (n k : Nat) {i : Nat} (h : i < 16) : (cutTo b n k).get i = if i < k then cutN (b.get i) (n - 8 * i) else b.get i := by
  unfold cutTo
  rw [gen_get _ h, Nat.mod_eq_of_lt]
  split
  · exact Nat.lt_of_le_of_lt (cutN_le _ _) (b.get_lt i)
  · exact b.get_lt i
theorem cutTo_0 (b : B16) (n : Nat) : cutTo b n 0 = b := B16.ext' fun i hi => by rw [cutTo_get _ _ _ hi, if_neg (by omega)]
theorem cutTo_16 (b : B16) (n : Nat) : cutTo b n 16 = cut b n := B16.ext' fun i hi => by rw [cutTo_get _ _ _ hi, if_pos hi, cut_get _ _ hi]
theorem cutTo_put (b : B16) (n k : Nat) {v : Nat} (hk : k < 16) (hv : v = cutN (b.get k) (n - 8 * k)) : (cutTo b n k).put k v = cutTo b n (k + 1) := B16.ext' fun i hi => by
  rw [B16.get_put _ hk (by rw [hv]; exact Nat.lt_of_le_of_lt (cutN_le _ _) (b.get_lt k)), cutTo_get _ _ _ hi, cutTo_get _ _ _ hi]
  by_cases h : i = k
  · subst h; simp [hv]
  · rw [if_neg h]
    by_cases h2 : i < k
    · rw [if_pos h2, if_pos (by omega)]
    · rw [if_neg h2, if_neg (by omega)]
theorem cutTo_same (b : B16) (n k : Nat) (hv : b.get k = cutN (b.get k) (n - 8 * k)) : cutTo b n k = cutTo b n (k + 1) := B16.ext' fun i hi => by
  rw [cutTo_get _ _ _ hi, cutTo_get _ _ _ hi]
  by_cases h : i = k
  · subst h; simp [← hv]
  · by_cases h2 : i < k
    · rw [if_pos h2, if_pos (by omega)]
    · rw [if_neg h2, if_neg (by omega)]
theorem bav_put0 (b : B16) {n : Nat} (hn : n < 16) : ovr (bav b) n [.int .u8 0] = some (bav (b.put n 0)) := bav_put b hn (by decide)
theorem ovr_all (l r : List AV) (h : l.length = r.length) : ovr l 0 r = some r := by
  unfold ovr; rw [if_pos (by omega)]; simp [h]
theorem bav_o (l : List AV) (b : B16) (h : l.length = 16) : ovr l 0 (bav b) = some (bav b) := ovr_all _ _ (by rw [h, bav_len])
theorem aav_o (l : List AV) (b : Adr) (h : l.length = 17) : ovr l 0 (aav b) = some (aav b) := ovr_all _ _ (by rw [h, aav_len])
theorem pav_o (l : List AV) (b : Pfx) (h : l.length = 18) : ovr l 0 (pav b) = some (pav b) := ovr_all _ _ (by rw [h, pav_len])
theorem rav_o (l : List AV) (b : Rw) (h : l.length = 19) : ovr l 0 (rav b) = some (rav b) := ovr_all _ _ (by rw [h, rav_len])
theorem aav_ob (a : Adr) (b : B16) : ovr (aav a) 1 (bav b) = some (aav ⟨a.ver, b⟩) := by
  unfold ovr; rw [if_pos (by rw [aav_len, bav_len]; omega)]
  simp only [aav, bav_len, List.take_succ_cons, List.take_zero, List.cons_append, List.nil_append, List.drop_succ_cons]
  rw [List.drop_eq_nil_of_le (by rw [bav_len]; omega)]; simp
theorem pav_oa (p : Pfx) (a : Adr) : ovr (pav p) 0 (aav a) = some (pav ⟨a, p.bits⟩) := by
  unfold ovr; rw [if_pos (by rw [pav_len, aav_len]; omega)]
  simp only [aav_len, List.take_zero, List.nil_append, Nat.zero_add]
  simp only [pav, aav, List.drop_succ_cons]
  rw [show (16 : Nat) = 16 + 0 from rfl, drop16]; rfl
theorem pav_on (p : Pfx) (n : Int) : ovr (pav p) 17 [.int .i64 n] = some (pav ⟨p.adr, n⟩) := by
  unfold ovr; rw [if_pos (by rw [pav_len]; simp)]
  have h := bav_len p.adr.b
  simp only [pav, List.take_succ_cons, List.length_cons, List.length_nil, List.drop_succ_cons]
  rw [show (bav p.adr.b ++ [AV.int IntKind.i64 p.bits]).take 16 = bav p.adr.b by rw [← h, List.take_left], show (17 : Nat) = 16 + 1 from rfl, drop16]; simp
theorem DB : (((((type_of% (@bav_len) ∧ type_of% (@aav_len)) ∧ (type_of% (@pav_len) ∧ type_of% (@rav_len))) ∧ ((type_of% (@bav_data) ∧ type_of% (@aav_data)) ∧ (type_of% (@pav_data) ∧ type_of% (@rav_data)))) ∧ (((type_of% (@bav_p) ∧ type_of% (@aav_p)) ∧ (type_of% (@pav_p) ∧ type_of% (@rav_p))) ∧ ((type_of% (@aav_v) ∧ type_of% (@pav_v)) ∧ (type_of% (@rav_v) ∧ (type_of% (@aav_b) ∧ type_of% (@pav_b)))))) ∧ ((((type_of% (@rav_b) ∧ type_of% (@pav_a)) ∧ (type_of% (@rav_a) ∧ type_of% (@pav_n))) ∧ ((type_of% (@rav_n) ∧ type_of% (@rav_h)) ∧ (type_of% (@rav_pf) ∧ (type_of% (@bav_o) ∧ type_of% (@pav_o))))) ∧ (((type_of% (@aav_o) ∧ type_of% (@rav_o)) ∧ (type_of% (@aav_ob) ∧ type_of% (@pav_oa))) ∧ ((type_of% (@pav_on) ∧ type_of% (@eq_bav)) ∧ (type_of% (@eq_aav) ∧ (type_of% (@eq_pav) ∧ type_of% (@eq_rav))))))) := ⟨⟨⟨⟨⟨@bav_len, @aav_len⟩, ⟨@pav_len, @rav_len⟩⟩, ⟨⟨@bav_data, @aav_data⟩, ⟨@pav_data, @rav_data⟩⟩⟩, ⟨⟨⟨@bav_p, @aav_p⟩, ⟨@pav_p, @rav_p⟩⟩, ⟨⟨@aav_v, @pav_v⟩, ⟨@rav_v, ⟨@aav_b, @pav_b⟩⟩⟩⟩⟩, ⟨⟨⟨⟨@rav_b, @pav_a⟩, ⟨@rav_a, @pav_n⟩⟩, ⟨⟨@rav_n, @rav_h⟩, ⟨@rav_pf, ⟨@bav_o, @pav_o⟩⟩⟩⟩, ⟨⟨⟨@aav_o, @rav_o⟩, ⟨@aav_ob, @pav_oa⟩⟩, ⟨⟨@pav_on, @eq_bav⟩, ⟨@eq_aav, ⟨@eq_pav, @eq_rav⟩⟩⟩⟩⟩⟩
theorem LPB : ((((type_of% (@refs_int) ∧ (type_of% (@refs_bool) ∧ type_of% (@refs_str))) ∧ ((type_of% (@refs_ro) ∧ type_of% (@refs_clip)) ∧ (type_of% (@refs_nilf) ∧ type_of% (@refs_nilp)))) ∧ ((type_of% (@refs_rp) ∧ (type_of% (@refs_yld) ∧ type_of% (@refs_refs))) ∧ ((type_of% (@refs_rq) ∧ type_of% (@belowR_nil)) ∧ (type_of% (@belowR_cons) ∧ type_of% (@refs_ptr))))) ∧ (((type_of% (@refs_lis) ∧ (type_of% (@refs_clo) ∧ type_of% (@refs_agg))) ∧ ((type_of% (@refs_tup) ∧ type_of% (@below_nil)) ∧ (type_of% (@below_cons) ∧ type_of% (@bref_dead)))) ∧ (((type_of% (@bref_box) ∧ type_of% (@bref_lst)) ∧ (type_of% (@ball_nil) ∧ type_of% (@ball_cons))) ∧ ((type_of% (@bav_below) ∧ type_of% (@aav_below)) ∧ (type_of% (@pav_below) ∧ type_of% (@rav_below)))))) := ⟨⟨⟨⟨@refs_int, ⟨@refs_bool, @refs_str⟩⟩, ⟨⟨@refs_ro, @refs_clip⟩, ⟨@refs_nilf, @refs_nilp⟩⟩⟩, ⟨⟨@refs_rp, ⟨@refs_yld, @refs_refs⟩⟩, ⟨⟨@refs_rq, @belowR_nil⟩, ⟨@belowR_cons, @refs_ptr⟩⟩⟩⟩, ⟨⟨⟨@refs_lis, ⟨@refs_clo, @refs_agg⟩⟩, ⟨⟨@refs_tup, @below_nil⟩, ⟨@below_cons, @bref_dead⟩⟩⟩, ⟨⟨⟨@bref_box, @bref_lst⟩, ⟨@ball_nil, @ball_cons⟩⟩, ⟨⟨@bav_below, @aav_below⟩, ⟨@pav_below, @rav_below⟩⟩⟩⟩⟩
end Go.Proofs.YtihbammfchnjgaaDoor.D

/- The program's prefixes: what its functions tell. No condition. -/
set_option linter.unusedSimpArgs false
namespace Go.Proofs.YtihbammfchnjgaaDoor.F
open Go Go.Proofs.YtihbammfchnjgaaDoor.A Go.Proofs.YtihbammfchnjgaaDoor.D
theorem e50 (v : Int) : LV E 50 [.int .i64 v] = some (.int .i64 (width v)) := by
  rw [LV_R (fn := f50) rfl rfl rfl]
  simp only [f50, RB, pickV, eqbV, notV, negV, convV, faddrV, fldV, idxV, eqaggV, iaddrV, isnilV, nilckV, cloV, extrV, slenV, minV, sidxV, abin, cmpInt, params, growLists, fillCells, newAt, rdPtr, wrPtr, AV.cells, asVal, lenOf, boundOf, rowsOf, argIds, freshIn, scalar1, setAll, AV.isData, AV.isYld, Nat.reduceAdd, Nat.reduceMul, Nat.reduceSub, Nat.reduceEqDiff, Nat.reduceLeDiff, Nat.reduceLT, Int.reduceNeg, ↓reduceIte, reduceCtorEq, Int.reduceEq, Int.reduceLT, Int.reduceLE, Int.reduceBEq, Int.reduceBNe, Int.reduceToNat, IntKind.bits, Int.reduceAdd, Int.reduceSub, Int.reduceMul, Int.reduceTDiv, Int.reduceTMod]
  (repeat' (first
    | (refine Ci_cases (fun h => ?_) (fun h => ?_) <;> simp only [h, RB, pickV, eqbV, notV, negV, convV, faddrV, fldV, idxV, eqaggV, iaddrV, isnilV, nilckV, cloV, extrV, slenV, minV, sidxV, abin, cmpInt, params, growLists, fillCells, newAt, rdPtr, wrPtr, AV.cells, asVal, lenOf, boundOf, rowsOf, argIds, freshIn, scalar1, setAll, AV.isData, AV.isYld, Nat.reduceAdd, Nat.reduceMul, Nat.reduceSub, Nat.reduceEqDiff, Nat.reduceLeDiff, Nat.reduceLT, Int.reduceNeg, ↓reduceIte, reduceCtorEq, Int.reduceEq, Int.reduceLT, Int.reduceLE, Int.reduceBEq, Int.reduceBNe, Int.reduceToNat, IntKind.bits, Int.reduceAdd, Int.reduceSub, Int.reduceMul, Int.reduceTDiv, Int.reduceTMod])
    | (refine Gi_cases (fun h => ?_) (fun h => ?_) <;> simp only [h, RB, pickV, eqbV, notV, negV, convV, faddrV, fldV, idxV, eqaggV, iaddrV, isnilV, nilckV, cloV, extrV, slenV, minV, sidxV, abin, cmpInt, params, growLists, fillCells, newAt, rdPtr, wrPtr, AV.cells, asVal, lenOf, boundOf, rowsOf, argIds, freshIn, scalar1, setAll, AV.isData, AV.isYld, Nat.reduceAdd, Nat.reduceMul, Nat.reduceSub, Nat.reduceEqDiff, Nat.reduceLeDiff, Nat.reduceLT, Int.reduceNeg, ↓reduceIte, reduceCtorEq, Int.reduceEq, Int.reduceLT, Int.reduceLE, Int.reduceBEq, Int.reduceBNe, Int.reduceToNat, IntKind.bits, Int.reduceAdd, Int.reduceSub, Int.reduceMul, Int.reduceTDiv, Int.reduceTMod])
    | (refine Gj_cases (fun h => ?_) (fun h => ?_) <;> simp only [h, RB, pickV, eqbV, notV, negV, convV, faddrV, fldV, idxV, eqaggV, iaddrV, isnilV, nilckV, cloV, extrV, slenV, minV, sidxV, abin, cmpInt, params, growLists, fillCells, newAt, rdPtr, wrPtr, AV.cells, asVal, lenOf, boundOf, rowsOf, argIds, freshIn, scalar1, setAll, AV.isData, AV.isYld, Nat.reduceAdd, Nat.reduceMul, Nat.reduceSub, Nat.reduceEqDiff, Nat.reduceLeDiff, Nat.reduceLT, Int.reduceNeg, ↓reduceIte, reduceCtorEq, Int.reduceEq, Int.reduceLT, Int.reduceLE, Int.reduceBEq, Int.reduceBNe, Int.reduceToNat, IntKind.bits, Int.reduceAdd, Int.reduceSub, Int.reduceMul, Int.reduceTDiv, Int.reduceTMod])))
  · simp only [decide_eq_true_eq] at h
    simp [width, show v ≠ 4 by omega, show v ≠ 6 by omega]
  · simp only [decide_eq_true_eq, decide_eq_false_iff_not] at *
    simp [width, show v ≠ 4 by omega, show v ≠ 6 by omega]
  · simp only [decide_eq_false_iff_not] at *
    have : v = 0 ∨ v = 1 ∨ v = 2 ∨ v = 3 ∨ v = 4 ∨ v = 5 ∨ v = 6 := by omega
    rcases this with rfl | rfl | rfl | rfl | rfl | rfl | rfl <;> simp [RB, pickV, eqbV, notV, negV, convV, faddrV, fldV, idxV, eqaggV, iaddrV, isnilV, nilckV, cloV, extrV, slenV, minV, sidxV, abin, cmpInt, params, growLists, fillCells, newAt, rdPtr, wrPtr, AV.cells, asVal, lenOf, boundOf, rowsOf, argIds, freshIn, scalar1, setAll, AV.isData, AV.isYld, Nat.reduceAdd, Nat.reduceMul, Nat.reduceSub, Nat.reduceEqDiff, Nat.reduceLeDiff, Nat.reduceLT, Int.reduceNeg, ↓reduceIte, reduceCtorEq, Int.reduceEq, Int.reduceLT, Int.reduceLE, Int.reduceBEq, Int.reduceBNe, Int.reduceToNat, IntKind.bits, Int.reduceAdd, Int.reduceSub, Int.reduceMul, Int.reduceTDiv, Int.reduceTMod, piece, width]
theorem e93 (v : Int) : LV E 93 [.int .i64 v] = some (.bool false) := by
  rw [LV_R (fn := f93) rfl rfl rfl]
  simp only [f93, RB, pickV, eqbV, notV, negV, convV, faddrV, fldV, idxV, eqaggV, iaddrV, isnilV, nilckV, cloV, extrV, slenV, minV, sidxV, abin, cmpInt, params, growLists, fillCells, newAt, rdPtr, wrPtr, AV.cells, asVal, lenOf, boundOf, rowsOf, argIds, freshIn, scalar1, setAll, AV.isData, AV.isYld, Nat.reduceAdd, Nat.reduceMul, Nat.reduceSub, Nat.reduceEqDiff, Nat.reduceLeDiff, Nat.reduceLT, Int.reduceNeg, ↓reduceIte, reduceCtorEq, Int.reduceEq, Int.reduceLT, Int.reduceLE, Int.reduceBEq, Int.reduceBNe, Int.reduceToNat, IntKind.bits, Int.reduceAdd, Int.reduceSub, Int.reduceMul, Int.reduceTDiv, Int.reduceTMod, bne_self_eq_false]
def cmpI (a b : Int) : Int := if a < b then -1 else if b < a then 1 else 0
theorem e74 (a b : Int) : LV E 74 [.int .i64 a, .int .i64 b] = some (.int .i64 (cmpI a b)) := by
  rw [LV_R (fn := f74) rfl rfl rfl]
  simp only [f74, RB, pickV, eqbV, notV, negV, convV, faddrV, fldV, idxV, eqaggV, iaddrV, isnilV, nilckV, cloV, extrV, slenV, minV, sidxV, abin, cmpInt, params, growLists, fillCells, newAt, rdPtr, wrPtr, AV.cells, asVal, lenOf, boundOf, rowsOf, argIds, freshIn, scalar1, setAll, AV.isData, AV.isYld, Nat.reduceAdd, Nat.reduceMul, Nat.reduceSub, Nat.reduceEqDiff, Nat.reduceLeDiff, Nat.reduceLT, Int.reduceNeg, ↓reduceIte, reduceCtorEq, Int.reduceEq, Int.reduceLT, Int.reduceLE, Int.reduceBEq, Int.reduceBNe, Int.reduceToNat, IntKind.bits, Int.reduceAdd, Int.reduceSub, Int.reduceMul, Int.reduceTDiv, Int.reduceTMod, e93]
  (repeat' (first
    | (refine Ci_cases (fun h => ?_) (fun h => ?_) <;> simp only [h, RB, pickV, eqbV, notV, negV, convV, faddrV, fldV, idxV, eqaggV, iaddrV, isnilV, nilckV, cloV, extrV, slenV, minV, sidxV, abin, cmpInt, params, growLists, fillCells, newAt, rdPtr, wrPtr, AV.cells, asVal, lenOf, boundOf, rowsOf, argIds, freshIn, scalar1, setAll, AV.isData, AV.isYld, Nat.reduceAdd, Nat.reduceMul, Nat.reduceSub, Nat.reduceEqDiff, Nat.reduceLeDiff, Nat.reduceLT, Int.reduceNeg, ↓reduceIte, reduceCtorEq, Int.reduceEq, Int.reduceLT, Int.reduceLE, Int.reduceBEq, Int.reduceBNe, Int.reduceToNat, IntKind.bits, Int.reduceAdd, Int.reduceSub, Int.reduceMul, Int.reduceTDiv, Int.reduceTMod])
    | (refine Gi_cases (fun h => ?_) (fun h => ?_) <;> simp only [h, RB, pickV, eqbV, notV, negV, convV, faddrV, fldV, idxV, eqaggV, iaddrV, isnilV, nilckV, cloV, extrV, slenV, minV, sidxV, abin, cmpInt, params, growLists, fillCells, newAt, rdPtr, wrPtr, AV.cells, asVal, lenOf, boundOf, rowsOf, argIds, freshIn, scalar1, setAll, AV.isData, AV.isYld, Nat.reduceAdd, Nat.reduceMul, Nat.reduceSub, Nat.reduceEqDiff, Nat.reduceLeDiff, Nat.reduceLT, Int.reduceNeg, ↓reduceIte, reduceCtorEq, Int.reduceEq, Int.reduceLT, Int.reduceLE, Int.reduceBEq, Int.reduceBNe, Int.reduceToNat, IntKind.bits, Int.reduceAdd, Int.reduceSub, Int.reduceMul, Int.reduceTDiv, Int.reduceTMod])
    | (refine Gj_cases (fun h => ?_) (fun h => ?_) <;> simp only [h, RB, pickV, eqbV, notV, negV, convV, faddrV, fldV, idxV, eqaggV, iaddrV, isnilV, nilckV, cloV, extrV, slenV, minV, sidxV, abin, cmpInt, params, growLists, fillCells, newAt, rdPtr, wrPtr, AV.cells, asVal, lenOf, boundOf, rowsOf, argIds, freshIn, scalar1, setAll, AV.isData, AV.isYld, Nat.reduceAdd, Nat.reduceMul, Nat.reduceSub, Nat.reduceEqDiff, Nat.reduceLeDiff, Nat.reduceLT, Int.reduceNeg, ↓reduceIte, reduceCtorEq, Int.reduceEq, Int.reduceLT, Int.reduceLE, Int.reduceBEq, Int.reduceBNe, Int.reduceToNat, IntKind.bits, Int.reduceAdd, Int.reduceSub, Int.reduceMul, Int.reduceTDiv, Int.reduceTMod])))
  all_goals (simp only [decide_eq_true_eq, decide_eq_false_iff_not] at *; simp only [cmpI, Option.some.injEq, AV.int.injEq, true_and]; (repeat split) <;> omega)
theorem e87 (b : B16) (n : Nat) : LV E 87 [.agg (bav b), .int .i64 (n : Int)] = some (.bool (decide (Clr b n))) := by
  rw [LV_R (fn := f87) rfl rfl rfl]
  simp only [f87, RB, pickV, eqbV, notV, negV, convV, faddrV, fldV, idxV, eqaggV, iaddrV, isnilV, nilckV, cloV, extrV, slenV, minV, sidxV, abin, cmpInt, params, growLists, fillCells, newAt, rdPtr, wrPtr, AV.cells, asVal, lenOf, boundOf, rowsOf, argIds, freshIn, scalar1, setAll, AV.isData, AV.isYld, Nat.reduceAdd, Nat.reduceMul, Nat.reduceSub, Nat.reduceEqDiff, Nat.reduceLeDiff, Nat.reduceLT, Int.reduceNeg, ↓reduceIte, reduceCtorEq, Int.reduceEq, Int.reduceLT, Int.reduceLE, Int.reduceBEq, Int.reduceBNe, Int.reduceToNat, IntKind.bits, Int.reduceAdd, Int.reduceSub, Int.reduceMul, Int.reduceTDiv, Int.reduceTMod, DB]
  refine W_rec (ι := Nat) (M := fun k => [(2, .ptr 0 0 0 0), (5, .int .i64 (k : Int))]) (H := fun _ => ⟨[.box 0 28 (bav b)], []⟩) (r := fun k => some (AV.bool (decide (Clr b k)))) (μ := fun k => 128 - k) (fun i => ?_) (fun k ih => ?_) n
  · simp [LPB]
  by_cases hk : k < 128
  · have f1 : (k : Int) < 128 := by omega
    have f2 : k / 8 < 16 := by omega
    have f3 : ((k / 8 : Nat) : Int) < 16 := by omega
    have f4 : (0 : Int) ≤ ((k / 8 : Nat) : Int) := by omega
    have f5 : (0 : Int) ≤ ((7 - k % 8 : Nat) : Int) := by omega
    have f6 : IntKind.i64.wrap ((k : Int) + 1) = ((k + 1 : Nat) : Int) := by rw [IntWalk.i64_in _ (by omega)] <;> omega
    cases hb : bit b k with
    | true =>
      simp only [RB, pickV, eqbV, notV, negV, convV, faddrV, fldV, idxV, eqaggV, iaddrV, isnilV, nilckV, cloV, extrV, slenV, minV, sidxV, abin, cmpInt, params, growLists, fillCells, newAt, rdPtr, wrPtr, AV.cells, asVal, lenOf, boundOf, rowsOf, argIds, freshIn, scalar1, setAll, AV.isData, AV.isYld, Nat.reduceAdd, Nat.reduceMul, Nat.reduceSub, Nat.reduceEqDiff, Nat.reduceLeDiff, Nat.reduceLT, Int.reduceNeg, ↓reduceIte, reduceCtorEq, Int.reduceEq, Int.reduceLT, Int.reduceLE, Int.reduceBEq, Int.reduceBNe, Int.reduceToNat, IntKind.bits, Int.reduceAdd, Int.reduceSub, Int.reduceMul, Int.reduceTDiv, Int.reduceTMod, DB, f1, f3, f4, f5, quo8 k (by omega), rem8, sub7, bav_i b (k / 8) f2, shrN _ (7 - k % 8) (by omega), and1 _ (Nat.lt_of_le_of_lt (Nat.div_le_self _ _) (b.get_lt (k / 8))), bit_and, hb]
      rw [decide_eq_false fun hc => by rw [hc k (Nat.le_refl _) hk] at hb; cases hb]
    | false =>
      simp only [RB, pickV, eqbV, notV, negV, convV, faddrV, fldV, idxV, eqaggV, iaddrV, isnilV, nilckV, cloV, extrV, slenV, minV, sidxV, abin, cmpInt, params, growLists, fillCells, newAt, rdPtr, wrPtr, AV.cells, asVal, lenOf, boundOf, rowsOf, argIds, freshIn, scalar1, setAll, AV.isData, AV.isYld, Nat.reduceAdd, Nat.reduceMul, Nat.reduceSub, Nat.reduceEqDiff, Nat.reduceLeDiff, Nat.reduceLT, Int.reduceNeg, ↓reduceIte, reduceCtorEq, Int.reduceEq, Int.reduceLT, Int.reduceLE, Int.reduceBEq, Int.reduceBNe, Int.reduceToNat, IntKind.bits, Int.reduceAdd, Int.reduceSub, Int.reduceMul, Int.reduceTDiv, Int.reduceTMod, DB, f1, f3, f4, f5, quo8 k (by omega), rem8, sub7, bav_i b (k / 8) f2, shrN _ (7 - k % 8) (by omega), and1 _ (Nat.lt_of_le_of_lt (Nat.div_le_self _ _) (b.get_lt (k / 8))), bit_and, hb, f6]
      rw [ih (k + 1) (by omega)]
      congr 2
      refine decide_eq_decide.2 ⟨fun h j h1 h2 => ?_, fun h j h1 h2 => h j (by omega) h2⟩
      rcases Nat.lt_or_eq_of_le h1 with h3 | rfl
      · exact h j h3 h2
      · exact hb
  · simp only [RB, pickV, eqbV, notV, negV, convV, faddrV, fldV, idxV, eqaggV, iaddrV, isnilV, nilckV, cloV, extrV, slenV, minV, sidxV, abin, cmpInt, params, growLists, fillCells, newAt, rdPtr, wrPtr, AV.cells, asVal, lenOf, boundOf, rowsOf, argIds, freshIn, scalar1, setAll, AV.isData, AV.isYld, Nat.reduceAdd, Nat.reduceMul, Nat.reduceSub, Nat.reduceEqDiff, Nat.reduceLeDiff, Nat.reduceLT, Int.reduceNeg, ↓reduceIte, reduceCtorEq, Int.reduceEq, Int.reduceLT, Int.reduceLE, Int.reduceBEq, Int.reduceBNe, Int.reduceToNat, IntKind.bits, Int.reduceAdd, Int.reduceSub, Int.reduceMul, Int.reduceTDiv, Int.reduceTMod, DB, show ¬ (k : Int) < 128 by omega]
    rw [decide_eq_true (show Clr b k from fun j h1 h2 => absurd h2 (by omega))]
theorem e61 (a : Adr) : LV E 61 [.agg (aav a)] = some (.int .i64 (if AddrOk a then 0 else 150)) := by
  rw [LV_R (fn := f61) rfl rfl rfl]
  simp only [f61, RB, pickV, eqbV, notV, negV, convV, faddrV, fldV, idxV, eqaggV, iaddrV, isnilV, nilckV, cloV, extrV, slenV, minV, sidxV, abin, cmpInt, params, growLists, fillCells, newAt, rdPtr, wrPtr, AV.cells, asVal, lenOf, boundOf, rowsOf, argIds, freshIn, scalar1, setAll, AV.isData, AV.isYld, Nat.reduceAdd, Nat.reduceMul, Nat.reduceSub, Nat.reduceEqDiff, Nat.reduceLeDiff, Nat.reduceLT, Int.reduceNeg, ↓reduceIte, reduceCtorEq, Int.reduceEq, Int.reduceLT, Int.reduceLE, Int.reduceBEq, Int.reduceBNe, Int.reduceToNat, IntKind.bits, Int.reduceAdd, Int.reduceSub, Int.reduceMul, Int.reduceTDiv, Int.reduceTMod, DB, e50, e87]
  (repeat' (first
    | (refine Ci_cases (fun h => ?_) (fun h => ?_) <;> simp only [h, RB, pickV, eqbV, notV, negV, convV, faddrV, fldV, idxV, eqaggV, iaddrV, isnilV, nilckV, cloV, extrV, slenV, minV, sidxV, abin, cmpInt, params, growLists, fillCells, newAt, rdPtr, wrPtr, AV.cells, asVal, lenOf, boundOf, rowsOf, argIds, freshIn, scalar1, setAll, AV.isData, AV.isYld, Nat.reduceAdd, Nat.reduceMul, Nat.reduceSub, Nat.reduceEqDiff, Nat.reduceLeDiff, Nat.reduceLT, Int.reduceNeg, ↓reduceIte, reduceCtorEq, Int.reduceEq, Int.reduceLT, Int.reduceLE, Int.reduceBEq, Int.reduceBNe, Int.reduceToNat, IntKind.bits, Int.reduceAdd, Int.reduceSub, Int.reduceMul, Int.reduceTDiv, Int.reduceTMod, DB, e50, e87])
    | (refine Gi_cases (fun h => ?_) (fun h => ?_) <;> simp only [h, RB, pickV, eqbV, notV, negV, convV, faddrV, fldV, idxV, eqaggV, iaddrV, isnilV, nilckV, cloV, extrV, slenV, minV, sidxV, abin, cmpInt, params, growLists, fillCells, newAt, rdPtr, wrPtr, AV.cells, asVal, lenOf, boundOf, rowsOf, argIds, freshIn, scalar1, setAll, AV.isData, AV.isYld, Nat.reduceAdd, Nat.reduceMul, Nat.reduceSub, Nat.reduceEqDiff, Nat.reduceLeDiff, Nat.reduceLT, Int.reduceNeg, ↓reduceIte, reduceCtorEq, Int.reduceEq, Int.reduceLT, Int.reduceLE, Int.reduceBEq, Int.reduceBNe, Int.reduceToNat, IntKind.bits, Int.reduceAdd, Int.reduceSub, Int.reduceMul, Int.reduceTDiv, Int.reduceTMod, DB, e50, e87])
    | (refine Gj_cases (fun h => ?_) (fun h => ?_) <;> simp only [h, RB, pickV, eqbV, notV, negV, convV, faddrV, fldV, idxV, eqaggV, iaddrV, isnilV, nilckV, cloV, extrV, slenV, minV, sidxV, abin, cmpInt, params, growLists, fillCells, newAt, rdPtr, wrPtr, AV.cells, asVal, lenOf, boundOf, rowsOf, argIds, freshIn, scalar1, setAll, AV.isData, AV.isYld, Nat.reduceAdd, Nat.reduceMul, Nat.reduceSub, Nat.reduceEqDiff, Nat.reduceLeDiff, Nat.reduceLT, Int.reduceNeg, ↓reduceIte, reduceCtorEq, Int.reduceEq, Int.reduceLT, Int.reduceLE, Int.reduceBEq, Int.reduceBNe, Int.reduceToNat, IntKind.bits, Int.reduceAdd, Int.reduceSub, Int.reduceMul, Int.reduceTDiv, Int.reduceTMod, DB, e50, e87])))
  all_goals simp_all [AddrOk]
theorem e87' (b : B16) {n : Int} (h : 0 ≤ n) : LV E 87 [.agg (bav b), .int .i64 n] = some (.bool (decide (Clr b n.toNat))) := by
  rw [show n = (n.toNat : Int) by omega, e87]; rfl
theorem e67 (p : Pfx) : LV E 67 [.agg (pav p)] = some (.int .i64 (if PfxOk p then 0 else 151)) := by
  rw [LV_R (fn := f67) rfl rfl rfl]
  simp only [f67, RB, pickV, eqbV, notV, negV, convV, faddrV, fldV, idxV, eqaggV, iaddrV, isnilV, nilckV, cloV, extrV, slenV, minV, sidxV, abin, cmpInt, params, growLists, fillCells, newAt, rdPtr, wrPtr, AV.cells, asVal, lenOf, boundOf, rowsOf, argIds, freshIn, scalar1, setAll, AV.isData, AV.isYld, Nat.reduceAdd, Nat.reduceMul, Nat.reduceSub, Nat.reduceEqDiff, Nat.reduceLeDiff, Nat.reduceLT, Int.reduceNeg, ↓reduceIte, reduceCtorEq, Int.reduceEq, Int.reduceLT, Int.reduceLE, Int.reduceBEq, Int.reduceBNe, Int.reduceToNat, IntKind.bits, Int.reduceAdd, Int.reduceSub, Int.reduceMul, Int.reduceTDiv, Int.reduceTMod, DB, e61]
  by_cases h1 : AddrOk p.adr
  · by_cases h2 : p.bits < 0
    · simp only [RB, pickV, eqbV, notV, negV, convV, faddrV, fldV, idxV, eqaggV, iaddrV, isnilV, nilckV, cloV, extrV, slenV, minV, sidxV, abin, cmpInt, params, growLists, fillCells, newAt, rdPtr, wrPtr, AV.cells, asVal, lenOf, boundOf, rowsOf, argIds, freshIn, scalar1, setAll, AV.isData, AV.isYld, Nat.reduceAdd, Nat.reduceMul, Nat.reduceSub, Nat.reduceEqDiff, Nat.reduceLeDiff, Nat.reduceLT, Int.reduceNeg, ↓reduceIte, reduceCtorEq, Int.reduceEq, Int.reduceLT, Int.reduceLE, Int.reduceBEq, Int.reduceBNe, Int.reduceToNat, IntKind.bits, Int.reduceAdd, Int.reduceSub, Int.reduceMul, Int.reduceTDiv, Int.reduceTMod, DB, e61, e50, h1, h2]
      simp [PfxOk, h1, show ¬ 0 ≤ p.bits by omega]
    · by_cases h3 : (width p.adr.ver : Int) < p.bits
      · simp only [RB, pickV, eqbV, notV, negV, convV, faddrV, fldV, idxV, eqaggV, iaddrV, isnilV, nilckV, cloV, extrV, slenV, minV, sidxV, abin, cmpInt, params, growLists, fillCells, newAt, rdPtr, wrPtr, AV.cells, asVal, lenOf, boundOf, rowsOf, argIds, freshIn, scalar1, setAll, AV.isData, AV.isYld, Nat.reduceAdd, Nat.reduceMul, Nat.reduceSub, Nat.reduceEqDiff, Nat.reduceLeDiff, Nat.reduceLT, Int.reduceNeg, ↓reduceIte, reduceCtorEq, Int.reduceEq, Int.reduceLT, Int.reduceLE, Int.reduceBEq, Int.reduceBNe, Int.reduceToNat, IntKind.bits, Int.reduceAdd, Int.reduceSub, Int.reduceMul, Int.reduceTDiv, Int.reduceTMod, DB, e61, e50, h1, h2, h3]
        simp [PfxOk, h1, show ¬ p.bits ≤ width p.adr.ver by omega]
      · simp only [RB, pickV, eqbV, notV, negV, convV, faddrV, fldV, idxV, eqaggV, iaddrV, isnilV, nilckV, cloV, extrV, slenV, minV, sidxV, abin, cmpInt, params, growLists, fillCells, newAt, rdPtr, wrPtr, AV.cells, asVal, lenOf, boundOf, rowsOf, argIds, freshIn, scalar1, setAll, AV.isData, AV.isYld, Nat.reduceAdd, Nat.reduceMul, Nat.reduceSub, Nat.reduceEqDiff, Nat.reduceLeDiff, Nat.reduceLT, Int.reduceNeg, ↓reduceIte, reduceCtorEq, Int.reduceEq, Int.reduceLT, Int.reduceLE, Int.reduceBEq, Int.reduceBNe, Int.reduceToNat, IntKind.bits, Int.reduceAdd, Int.reduceSub, Int.reduceMul, Int.reduceTDiv, Int.reduceTMod, DB, e61, e50, h1, h2, h3, e87' _ (Int.not_lt.1 h2)]
        by_cases h4 : Clr p.adr.b p.bits.toNat
        · simp only [RB, pickV, eqbV, notV, negV, convV, faddrV, fldV, idxV, eqaggV, iaddrV, isnilV, nilckV, cloV, extrV, slenV, minV, sidxV, abin, cmpInt, params, growLists, fillCells, newAt, rdPtr, wrPtr, AV.cells, asVal, lenOf, boundOf, rowsOf, argIds, freshIn, scalar1, setAll, AV.isData, AV.isYld, Nat.reduceAdd, Nat.reduceMul, Nat.reduceSub, Nat.reduceEqDiff, Nat.reduceLeDiff, Nat.reduceLT, Int.reduceNeg, ↓reduceIte, reduceCtorEq, Int.reduceEq, Int.reduceLT, Int.reduceLE, Int.reduceBEq, Int.reduceBNe, Int.reduceToNat, IntKind.bits, Int.reduceAdd, Int.reduceSub, Int.reduceMul, Int.reduceTDiv, Int.reduceTMod, h4]
          simp [PfxOk, h1, h4, Int.not_lt.1 h2, Int.not_lt.1 h3]
        · simp only [RB, pickV, eqbV, notV, negV, convV, faddrV, fldV, idxV, eqaggV, iaddrV, isnilV, nilckV, cloV, extrV, slenV, minV, sidxV, abin, cmpInt, params, growLists, fillCells, newAt, rdPtr, wrPtr, AV.cells, asVal, lenOf, boundOf, rowsOf, argIds, freshIn, scalar1, setAll, AV.isData, AV.isYld, Nat.reduceAdd, Nat.reduceMul, Nat.reduceSub, Nat.reduceEqDiff, Nat.reduceLeDiff, Nat.reduceLT, Int.reduceNeg, ↓reduceIte, reduceCtorEq, Int.reduceEq, Int.reduceLT, Int.reduceLE, Int.reduceBEq, Int.reduceBNe, Int.reduceToNat, IntKind.bits, Int.reduceAdd, Int.reduceSub, Int.reduceMul, Int.reduceTDiv, Int.reduceTMod, h4]
          simp [PfxOk, h1, h4]
  · simp only [RB, pickV, eqbV, notV, negV, convV, faddrV, fldV, idxV, eqaggV, iaddrV, isnilV, nilckV, cloV, extrV, slenV, minV, sidxV, abin, cmpInt, params, growLists, fillCells, newAt, rdPtr, wrPtr, AV.cells, asVal, lenOf, boundOf, rowsOf, argIds, freshIn, scalar1, setAll, AV.isData, AV.isYld, Nat.reduceAdd, Nat.reduceMul, Nat.reduceSub, Nat.reduceEqDiff, Nat.reduceLeDiff, Nat.reduceLT, Int.reduceNeg, ↓reduceIte, reduceCtorEq, Int.reduceEq, Int.reduceLT, Int.reduceLE, Int.reduceBEq, Int.reduceBNe, Int.reduceToNat, IntKind.bits, Int.reduceAdd, Int.reduceSub, Int.reduceMul, Int.reduceTDiv, Int.reduceTMod, DB, e61, h1]
    simp [PfxOk, h1]
theorem e72 (b : B16) (n : Nat) (hn : n ≤ 9223372036854775807) : LV E 72 [.agg (bav b), .int .i64 (n : Int)] = some (.agg (bav (cut b n))) := by
  rw [LV_R (fn := f72) rfl rfl rfl]
  simp only [f72, RB, pickV, eqbV, notV, negV, convV, faddrV, fldV, idxV, eqaggV, iaddrV, isnilV, nilckV, cloV, extrV, slenV, minV, sidxV, abin, cmpInt, params, growLists, fillCells, newAt, rdPtr, wrPtr, AV.cells, asVal, lenOf, boundOf, rowsOf, argIds, freshIn, scalar1, setAll, AV.isData, AV.isYld, Nat.reduceAdd, Nat.reduceMul, Nat.reduceSub, Nat.reduceEqDiff, Nat.reduceLeDiff, Nat.reduceLT, Int.reduceNeg, ↓reduceIte, reduceCtorEq, Int.reduceEq, Int.reduceLT, Int.reduceLE, Int.reduceBEq, Int.reduceBNe, Int.reduceToNat, IntKind.bits, Int.reduceAdd, Int.reduceSub, Int.reduceMul, Int.reduceTDiv, Int.reduceTMod, DB]
  rw [← cutTo_0 b n]
  refine (W_rec (ι := {k : Nat // k ≤ 16}) (M := fun k => [(1, .int .i64 (n : Int)), (2, .ptr 0 0 0 0), (4, .ptr 1 0 0 0), (7, .int .i64 (k.1 : Int))])
    (H := fun k => ⟨[.box 0 28 (bav (cutTo b n k.1)), .box 0 28 [.int .u8 0, .int .u8 0, .int .u8 0, .int .u8 0, .int .u8 0, .int .u8 0, .int .u8 0, .int .u8 0, .int .u8 0, .int .u8 0, .int .u8 0, .int .u8 0, .int .u8 0, .int .u8 0, .int .u8 0, .int .u8 0]], []⟩)
    (r := fun _ => some (AV.agg (bav (cut b n)))) (μ := fun k => 16 - k.1) (fun i => ?_) (fun k ih => ?_) ⟨0, by omega⟩).trans (by rw [cutTo_0])
  · simp [LPB]
  obtain ⟨k, hk16⟩ := k
  by_cases hk : k < 16
  · have ih := ih ⟨k + 1, by omega⟩ (by simp only; omega)
    simp only at ih
    have f1 : (k : Int) < 16 := by omega
    have f2 : IntKind.i64.wrap (8 * (k : Int)) = ((8 * k : Nat) : Int) := by rw [IntWalk.i64_in _ (by omega)] <;> omega
    have f3 : IntKind.i64.wrap ((n : Int) - ((8 * k : Nat) : Int)) = (n : Int) - ((8 * k : Nat) : Int) := IntWalk.i64_in _ (by omega)
    have f4 : (0 : Int) ≤ (k : Int) := by omega
    have f6 : IntKind.i64.wrap ((k : Int) + 1) = ((k + 1 : Nat) : Int) := by rw [IntWalk.i64_in _ (by omega)] <;> omega
    have g := cutTo_get b n k hk
    rw [if_neg (Nat.lt_irrefl k)] at g
    by_cases h1 : n ≤ 8 * k
    · simp only [RB, pickV, eqbV, notV, negV, convV, faddrV, fldV, idxV, eqaggV, iaddrV, isnilV, nilckV, cloV, extrV, slenV, minV, sidxV, abin, cmpInt, params, growLists, fillCells, newAt, rdPtr, wrPtr, AV.cells, asVal, lenOf, boundOf, rowsOf, argIds, freshIn, scalar1, setAll, AV.isData, AV.isYld, Nat.reduceAdd, Nat.reduceMul, Nat.reduceSub, Nat.reduceEqDiff, Nat.reduceLeDiff, Nat.reduceLT, Int.reduceNeg, ↓reduceIte, reduceCtorEq, Int.reduceEq, Int.reduceLT, Int.reduceLE, Int.reduceBEq, Int.reduceBNe, Int.reduceToNat, IntKind.bits, Int.reduceAdd, Int.reduceSub, Int.reduceMul, Int.reduceTDiv, Int.reduceTMod, DB, f1, f2, f3, f4, f6, show (n : Int) - ((8 * k : Nat) : Int) ≤ 0 by omega, bav_put0 _ hk]
      rw [cutTo_put b n k hk (by unfold cutN; rw [show 8 - (n - 8 * k) = 8 by omega, Nat.div_eq_of_lt (b.get_lt k), Nat.zero_mul])]
      exact ih
    · by_cases h2 : n < 8 * k + 8
      · have f7 : IntKind.i64.wrap (8 - ((n : Int) - ((8 * k : Nat) : Int))) = ((8 - (n - 8 * k) : Nat) : Int) := by rw [IntWalk.i64_in _ (by omega)] <;> omega
        have f8 : (0 : Int) ≤ ((8 - (n - 8 * k) : Nat) : Int) := by omega
        have f9 : b.get k / 2 ^ (8 - (n - 8 * k)) * 2 ^ (8 - (n - 8 * k)) < 256 := Nat.lt_of_le_of_lt (cutN_le _ _) (b.get_lt k)
        simp only [RB, pickV, eqbV, notV, negV, convV, faddrV, fldV, idxV, eqaggV, iaddrV, isnilV, nilckV, cloV, extrV, slenV, minV, sidxV, abin, cmpInt, params, growLists, fillCells, newAt, rdPtr, wrPtr, AV.cells, asVal, lenOf, boundOf, rowsOf, argIds, freshIn, scalar1, setAll, AV.isData, AV.isYld, Nat.reduceAdd, Nat.reduceMul, Nat.reduceSub, Nat.reduceEqDiff, Nat.reduceLeDiff, Nat.reduceLT, Int.reduceNeg, ↓reduceIte, reduceCtorEq, Int.reduceEq, Int.reduceLT, Int.reduceLE, Int.reduceBEq, Int.reduceBNe, Int.reduceToNat, IntKind.bits, Int.reduceAdd, Int.reduceSub, Int.reduceMul, Int.reduceTDiv, Int.reduceTMod, DB, f1, f2, f3, f4, f6, f7, f8, show ¬ (n : Int) - ((8 * k : Nat) : Int) ≤ 0 by omega, show (n : Int) - ((8 * k : Nat) : Int) < 8 by omega, bav_i _ k hk, g, and255 _ (8 - (n - 8 * k)) (b.get_lt k) (by omega), bav_put _ hk f9]
        rw [cutTo_put b n k hk (show b.get k / 2 ^ (8 - (n - 8 * k)) * 2 ^ (8 - (n - 8 * k)) = cutN (b.get k) (n - 8 * k) from rfl)]
        exact ih
      · simp only [RB, pickV, eqbV, notV, negV, convV, faddrV, fldV, idxV, eqaggV, iaddrV, isnilV, nilckV, cloV, extrV, slenV, minV, sidxV, abin, cmpInt, params, growLists, fillCells, newAt, rdPtr, wrPtr, AV.cells, asVal, lenOf, boundOf, rowsOf, argIds, freshIn, scalar1, setAll, AV.isData, AV.isYld, Nat.reduceAdd, Nat.reduceMul, Nat.reduceSub, Nat.reduceEqDiff, Nat.reduceLeDiff, Nat.reduceLT, Int.reduceNeg, ↓reduceIte, reduceCtorEq, Int.reduceEq, Int.reduceLT, Int.reduceLE, Int.reduceBEq, Int.reduceBNe, Int.reduceToNat, IntKind.bits, Int.reduceAdd, Int.reduceSub, Int.reduceMul, Int.reduceTDiv, Int.reduceTMod, DB, f1, f2, f3, f4, f6, show ¬ (n : Int) - ((8 * k : Nat) : Int) ≤ 0 by omega, show ¬ (n : Int) - ((8 * k : Nat) : Int) < 8 by omega]
        rw [cutTo_same b n k (by unfold cutN; rw [show 8 - (n - 8 * k) = 0 by omega]; simp)]
        exact ih
  · have : k = 16 := by omega
    subst this
    simp only [RB, pickV, eqbV, notV, negV, convV, faddrV, fldV, idxV, eqaggV, iaddrV, isnilV, nilckV, cloV, extrV, slenV, minV, sidxV, abin, cmpInt, params, growLists, fillCells, newAt, rdPtr, wrPtr, AV.cells, asVal, lenOf, boundOf, rowsOf, argIds, freshIn, scalar1, setAll, AV.isData, AV.isYld, Nat.reduceAdd, Nat.reduceMul, Nat.reduceSub, Nat.reduceEqDiff, Nat.reduceLeDiff, Nat.reduceLT, Int.reduceNeg, ↓reduceIte, reduceCtorEq, Int.reduceEq, Int.reduceLT, Int.reduceLE, Int.reduceBEq, Int.reduceBNe, Int.reduceToNat, IntKind.bits, Int.reduceAdd, Int.reduceSub, Int.reduceMul, Int.reduceTDiv, Int.reduceTMod, DB, show ¬ ((16 : Nat) : Int) < 16 by omega, cutTo_16]
theorem e72' (b : B16) {n : Int} (h : 0 ≤ n) (h' : n ≤ 128) : LV E 72 [.agg (bav b), .int .i64 n] = some (.agg (bav (cut b n.toNat))) := by
  rw [show n = (n.toNat : Int) by omega, e72 _ _ (by omega)]; rfl
theorem e39 (p : Pfx) (a : Adr) : LV E 39 [.agg (pav p), .agg (aav a)] = some (.bool (decide (Has p a))) := by
  rw [LV_R (fn := f39) rfl rfl rfl]
  simp only [f39, RB, pickV, eqbV, notV, negV, convV, faddrV, fldV, idxV, eqaggV, iaddrV, isnilV, nilckV, cloV, extrV, slenV, minV, sidxV, abin, cmpInt, params, growLists, fillCells, newAt, rdPtr, wrPtr, AV.cells, asVal, lenOf, boundOf, rowsOf, argIds, freshIn, scalar1, setAll, AV.isData, AV.isYld, Nat.reduceAdd, Nat.reduceMul, Nat.reduceSub, Nat.reduceEqDiff, Nat.reduceLeDiff, Nat.reduceLT, Int.reduceNeg, ↓reduceIte, reduceCtorEq, Int.reduceEq, Int.reduceLT, Int.reduceLE, Int.reduceBEq, Int.reduceBNe, Int.reduceToNat, IntKind.bits, Int.reduceAdd, Int.reduceSub, Int.reduceMul, Int.reduceTDiv, Int.reduceTMod, DB, e67]
  by_cases h1 : PfxOk p
  · by_cases h2 : AddrOk a
    · by_cases h3 : p.adr.ver = a.ver
      · have h4 : p.bits ≤ 128 := by have := h1.2.2.1; have := width_le p.adr.ver; omega
        simp only [RB, pickV, eqbV, notV, negV, convV, faddrV, fldV, idxV, eqaggV, iaddrV, isnilV, nilckV, cloV, extrV, slenV, minV, sidxV, abin, cmpInt, params, growLists, fillCells, newAt, rdPtr, wrPtr, AV.cells, asVal, lenOf, boundOf, rowsOf, argIds, freshIn, scalar1, setAll, AV.isData, AV.isYld, Nat.reduceAdd, Nat.reduceMul, Nat.reduceSub, Nat.reduceEqDiff, Nat.reduceLeDiff, Nat.reduceLT, Int.reduceNeg, ↓reduceIte, reduceCtorEq, Int.reduceEq, Int.reduceLT, Int.reduceLE, Int.reduceBEq, Int.reduceBNe, Int.reduceToNat, IntKind.bits, Int.reduceAdd, Int.reduceSub, Int.reduceMul, Int.reduceTDiv, Int.reduceTMod, DB, e67, e61, h1, h2, h3, bne_self_eq_false, e72' _ h1.2.1 h4]
        simp [Has, h1, h2, h3]
      · simp only [RB, pickV, eqbV, notV, negV, convV, faddrV, fldV, idxV, eqaggV, iaddrV, isnilV, nilckV, cloV, extrV, slenV, minV, sidxV, abin, cmpInt, params, growLists, fillCells, newAt, rdPtr, wrPtr, AV.cells, asVal, lenOf, boundOf, rowsOf, argIds, freshIn, scalar1, setAll, AV.isData, AV.isYld, Nat.reduceAdd, Nat.reduceMul, Nat.reduceSub, Nat.reduceEqDiff, Nat.reduceLeDiff, Nat.reduceLT, Int.reduceNeg, ↓reduceIte, reduceCtorEq, Int.reduceEq, Int.reduceLT, Int.reduceLE, Int.reduceBEq, Int.reduceBNe, Int.reduceToNat, IntKind.bits, Int.reduceAdd, Int.reduceSub, Int.reduceMul, Int.reduceTDiv, Int.reduceTMod, DB, e67, e61, h1, h2, bne_iff_ne.2 h3]
        simp [Has, h1, h2, h3]
    · simp only [RB, pickV, eqbV, notV, negV, convV, faddrV, fldV, idxV, eqaggV, iaddrV, isnilV, nilckV, cloV, extrV, slenV, minV, sidxV, abin, cmpInt, params, growLists, fillCells, newAt, rdPtr, wrPtr, AV.cells, asVal, lenOf, boundOf, rowsOf, argIds, freshIn, scalar1, setAll, AV.isData, AV.isYld, Nat.reduceAdd, Nat.reduceMul, Nat.reduceSub, Nat.reduceEqDiff, Nat.reduceLeDiff, Nat.reduceLT, Int.reduceNeg, ↓reduceIte, reduceCtorEq, Int.reduceEq, Int.reduceLT, Int.reduceLE, Int.reduceBEq, Int.reduceBNe, Int.reduceToNat, IntKind.bits, Int.reduceAdd, Int.reduceSub, Int.reduceMul, Int.reduceTDiv, Int.reduceTMod, DB, e67, e61, h1, h2]
      simp [Has, h1, h2]
  · simp only [RB, pickV, eqbV, notV, negV, convV, faddrV, fldV, idxV, eqaggV, iaddrV, isnilV, nilckV, cloV, extrV, slenV, minV, sidxV, abin, cmpInt, params, growLists, fillCells, newAt, rdPtr, wrPtr, AV.cells, asVal, lenOf, boundOf, rowsOf, argIds, freshIn, scalar1, setAll, AV.isData, AV.isYld, Nat.reduceAdd, Nat.reduceMul, Nat.reduceSub, Nat.reduceEqDiff, Nat.reduceLeDiff, Nat.reduceLT, Int.reduceNeg, ↓reduceIte, reduceCtorEq, Int.reduceEq, Int.reduceLT, Int.reduceLE, Int.reduceBEq, Int.reduceBNe, Int.reduceToNat, IntKind.bits, Int.reduceAdd, Int.reduceSub, Int.reduceMul, Int.reduceTDiv, Int.reduceTMod, DB, e67, h1]
    simp [Has, h1]
theorem e37 (p q : Pfx) : LV E 37 [.agg (pav p), .agg (pav q)] = some (.bool (decide (Holds p q))) := by
  rw [LV_R (fn := f37) rfl rfl rfl]
  simp only [f37, RB, pickV, eqbV, notV, negV, convV, faddrV, fldV, idxV, eqaggV, iaddrV, isnilV, nilckV, cloV, extrV, slenV, minV, sidxV, abin, cmpInt, params, growLists, fillCells, newAt, rdPtr, wrPtr, AV.cells, asVal, lenOf, boundOf, rowsOf, argIds, freshIn, scalar1, setAll, AV.isData, AV.isYld, Nat.reduceAdd, Nat.reduceMul, Nat.reduceSub, Nat.reduceEqDiff, Nat.reduceLeDiff, Nat.reduceLT, Int.reduceNeg, ↓reduceIte, reduceCtorEq, Int.reduceEq, Int.reduceLT, Int.reduceLE, Int.reduceBEq, Int.reduceBNe, Int.reduceToNat, IntKind.bits, Int.reduceAdd, Int.reduceSub, Int.reduceMul, Int.reduceTDiv, Int.reduceTMod, DB, e67]
  by_cases h1 : PfxOk q
  · by_cases h2 : p.bits ≤ q.bits
    · simp only [RB, pickV, eqbV, notV, negV, convV, faddrV, fldV, idxV, eqaggV, iaddrV, isnilV, nilckV, cloV, extrV, slenV, minV, sidxV, abin, cmpInt, params, growLists, fillCells, newAt, rdPtr, wrPtr, AV.cells, asVal, lenOf, boundOf, rowsOf, argIds, freshIn, scalar1, setAll, AV.isData, AV.isYld, Nat.reduceAdd, Nat.reduceMul, Nat.reduceSub, Nat.reduceEqDiff, Nat.reduceLeDiff, Nat.reduceLT, Int.reduceNeg, ↓reduceIte, reduceCtorEq, Int.reduceEq, Int.reduceLT, Int.reduceLE, Int.reduceBEq, Int.reduceBNe, Int.reduceToNat, IntKind.bits, Int.reduceAdd, Int.reduceSub, Int.reduceMul, Int.reduceTDiv, Int.reduceTMod, DB, e67, e39, h1, h2]
      simp [Holds, h1, h2]
    · simp only [RB, pickV, eqbV, notV, negV, convV, faddrV, fldV, idxV, eqaggV, iaddrV, isnilV, nilckV, cloV, extrV, slenV, minV, sidxV, abin, cmpInt, params, growLists, fillCells, newAt, rdPtr, wrPtr, AV.cells, asVal, lenOf, boundOf, rowsOf, argIds, freshIn, scalar1, setAll, AV.isData, AV.isYld, Nat.reduceAdd, Nat.reduceMul, Nat.reduceSub, Nat.reduceEqDiff, Nat.reduceLeDiff, Nat.reduceLT, Int.reduceNeg, ↓reduceIte, reduceCtorEq, Int.reduceEq, Int.reduceLT, Int.reduceLE, Int.reduceBEq, Int.reduceBNe, Int.reduceToNat, IntKind.bits, Int.reduceAdd, Int.reduceSub, Int.reduceMul, Int.reduceTDiv, Int.reduceTMod, DB, e67, h1, h2]
      simp [Holds, h1, h2]
  · simp only [RB, pickV, eqbV, notV, negV, convV, faddrV, fldV, idxV, eqaggV, iaddrV, isnilV, nilckV, cloV, extrV, slenV, minV, sidxV, abin, cmpInt, params, growLists, fillCells, newAt, rdPtr, wrPtr, AV.cells, asVal, lenOf, boundOf, rowsOf, argIds, freshIn, scalar1, setAll, AV.isData, AV.isYld, Nat.reduceAdd, Nat.reduceMul, Nat.reduceSub, Nat.reduceEqDiff, Nat.reduceLeDiff, Nat.reduceLT, Int.reduceNeg, ↓reduceIte, reduceCtorEq, Int.reduceEq, Int.reduceLT, Int.reduceLE, Int.reduceBEq, Int.reduceBNe, Int.reduceToNat, IntKind.bits, Int.reduceAdd, Int.reduceSub, Int.reduceMul, Int.reduceTDiv, Int.reduceTMod, DB, e67, h1]
    simp [Holds, h1]
end Go.Proofs.YtihbammfchnjgaaDoor.F

/- The order of prefixes: what the program tells. No condition. -/
set_option linter.unusedSimpArgs false
namespace Go.Proofs.YtihbammfchnjgaaDoor.D
open Go Go.Proofs.YtihbammfchnjgaaDoor.A
def lexL : List Int → List Int → Int
  | a :: l, b :: r => if a < b then -1 else if b < a then 1 else lexL l r
  | _, _ => 0
def ints (b : B16) : List Int := b.l.map fun x : Nat => (x : Int)
def key (p : Pfx) : List Int := p.adr.ver :: (ints p.adr.b ++ [p.bits])
def cmpP (p q : Pfx) : Int := lexL (key p) (key q)
theorem ints_len (b : B16) : (ints b).length = 16 := by simp [ints, b.len]
theorem key_len (p : Pfx) : (key p).length = 18 := by simp [key, ints_len]
theorem lex_bytes : ∀ (l r : List Nat), l.length = r.length → (∀ x ∈ l, x < 256) → (∀ x ∈ r, x < 256) → Lib.compareBytes (l.map Nat.toUInt8) (r.map Nat.toUInt8) = lexL (l.map fun x : Nat => (x : Int)) (r.map fun x : Nat => (x : Int))
  | [], [], _, _, _ => rfl
  | a :: l, b :: r, h, h1, h2 => by
    have ih := lex_bytes l r (by simpa using h) (fun x hx => h1 x (List.mem_cons_of_mem _ hx)) (fun x hx => h2 x (List.mem_cons_of_mem _ hx))
    have ha := h1 a List.mem_cons_self
    have hb := h2 b List.mem_cons_self
    simp only [List.map_cons, lexL, Lib.compareBytes, ih]
    have e : ∀ x y : Nat, x < 256 → y < 256 → (x.toUInt8 < y.toUInt8 ↔ (x : Int) < (y : Int)) := fun x y hx hy => by
      rw [UInt8.lt_iff_toNat_lt]
      simp only [Nat.toUInt8_eq, UInt8.toNat_ofNat', Nat.reducePow]
      rw [Nat.mod_eq_of_lt hx, Nat.mod_eq_of_lt hy]; omega
    simp only [e a b ha hb, e b a hb ha]
  | [], _ :: _, h, _, _ => by simp at h
  | _ :: _, [], h, _, _ => by simp at h
def brows (b : B16) : List (List AV) := (bav b).map fun c => [c]
theorem brows_bytes (b : B16) : (brows b).mapM A.byteOf = some (b.l.map Nat.toUInt8) := by
  unfold brows bav
  rw [List.map_map]
  have : ∀ l : List Nat, (l.map ((fun c => [c]) ∘ u8c)).mapM A.byteOf = some (l.map Nat.toUInt8) := fun l => by
    induction l with
    | nil => rfl
    | cons a l ih => rw [List.map_cons, mapO_cons, ih]; rfl
  exact this b.l
theorem cmp_b16 (a b : B16) : pCmp [.ro (brows a), .ro (brows b)] [] = some (.int .i64 (lexL (ints a) (ints b)), []) := by
  simp only [pCmp, rowsOf, brows_bytes]
  rw [Lib.cmp_eq]
  exact congrArg (fun x => some (AV.int .i64 x, [])) (lex_bytes a.l b.l (by rw [a.len, b.len]) a.rng b.rng)
theorem lex_range : ∀ l r, lexL l r = -1 ∨ lexL l r = 0 ∨ lexL l r = 1
  | a :: l, b :: r => by
    unfold lexL
    split
    · exact Or.inl rfl
    · split
      · exact Or.inr (Or.inr rfl)
      · exact lex_range l r
  | [], _ => Or.inr (Or.inl rfl)
  | _ :: _, [] => Or.inr (Or.inl rfl)
theorem lex_append : ∀ (a b c d : List Int), a.length = b.length → lexL (a ++ c) (b ++ d) = if lexL a b ≠ 0 then lexL a b else lexL c d
  | [], [], c, d, _ => by simp [lexL]
  | x :: a, y :: b, c, d, h => by
    simp only [List.cons_append, lexL, lex_append a b c d (by simpa using h)]
    by_cases h1 : x < y
    · simp [h1]
    · by_cases h2 : y < x
      · simp [h1, h2]
      · simp [h1, h2]
  | [], _ :: _, _, _, h => by simp at h
  | _ :: _, [], _, _, h => by simp at h
end Go.Proofs.YtihbammfchnjgaaDoor.D
namespace Go.Proofs.YtihbammfchnjgaaDoor.F
open Go Go.Proofs.YtihbammfchnjgaaDoor.A Go.Proofs.YtihbammfchnjgaaDoor.D
theorem lex1 (a b : Int) : lexL [a] [b] = cmpI a b := by simp only [lexL, cmpI]
theorem cmp_key (p q : Pfx) : cmpP p q = if cmpI p.adr.ver q.adr.ver ≠ 0 then cmpI p.adr.ver q.adr.ver else if lexL (ints p.adr.b) (ints q.adr.b) ≠ 0 then lexL (ints p.adr.b) (ints q.adr.b) else cmpI p.bits q.bits := by
  have := lex_append [p.adr.ver] [q.adr.ver] (ints p.adr.b ++ [p.bits]) (ints q.adr.b ++ [q.bits]) rfl
  rw [lex_append (ints p.adr.b) (ints q.adr.b) _ _ (by rw [ints_len, ints_len]), lex1, lex1] at this
  exact this
theorem e64 (a b : B16) : LV E 64 [.ro (brows a), .ro (brows b)] = some (.int .i64 (lexL (ints a) (ints b))) := by
  rw [LV_R (fn := f64) rfl rfl rfl]
  have h : LV E 88 [.ro (brows a), .ro (brows b)] = some (.int .i64 (lexL (ints a) (ints b))) := by
    rw [LV_prim (p := pCmp) rfl, cmp_b16]; rfl
  simp only [f64, RB, pickV, eqbV, notV, negV, convV, faddrV, fldV, idxV, eqaggV, iaddrV, isnilV, nilckV, cloV, extrV, slenV, minV, sidxV, abin, cmpInt, params, growLists, fillCells, newAt, rdPtr, wrPtr, AV.cells, asVal, lenOf, boundOf, rowsOf, argIds, freshIn, scalar1, setAll, AV.isData, AV.isYld, Nat.reduceAdd, Nat.reduceMul, Nat.reduceSub, Nat.reduceEqDiff, Nat.reduceLeDiff, Nat.reduceLT, Int.reduceNeg, ↓reduceIte, reduceCtorEq, Int.reduceEq, Int.reduceLT, Int.reduceLE, Int.reduceBEq, Int.reduceBNe, Int.reduceToNat, IntKind.bits, Int.reduceAdd, Int.reduceSub, Int.reduceMul, Int.reduceTDiv, Int.reduceTMod, h]
theorem e73 (a b c : Int) : LV E 73 [.clip [[.int .i64 a], [.int .i64 b], [.int .i64 c]]] = some (.int .i64 (if a ≠ 0 then a else if b ≠ 0 then b else c)) := by
  rw [LV_R (fn := f73) rfl rfl rfl]
  simp only [f73, RB, pickV, eqbV, notV, negV, convV, faddrV, fldV, idxV, eqaggV, iaddrV, isnilV, nilckV, cloV, extrV, slenV, minV, sidxV, abin, cmpInt, params, growLists, fillCells, newAt, rdPtr, wrPtr, AV.cells, asVal, lenOf, boundOf, rowsOf, argIds, freshIn, scalar1, setAll, AV.isData, AV.isYld, Nat.reduceAdd, Nat.reduceMul, Nat.reduceSub, Nat.reduceEqDiff, Nat.reduceLeDiff, Nat.reduceLT, Int.reduceNeg, ↓reduceIte, reduceCtorEq, Int.reduceEq, Int.reduceLT, Int.reduceLE, Int.reduceBEq, Int.reduceBNe, Int.reduceToNat, IntKind.bits, Int.reduceAdd, Int.reduceSub, Int.reduceMul, Int.reduceTDiv, Int.reduceTMod]
  by_cases ha : a = 0
  · subst ha
    by_cases hb : b = 0
    · subst hb
      by_cases hc : c = 0
      · subst hc
        simp only [RB, pickV, eqbV, notV, negV, convV, faddrV, fldV, idxV, eqaggV, iaddrV, isnilV, nilckV, cloV, extrV, slenV, minV, sidxV, abin, cmpInt, params, growLists, fillCells, newAt, rdPtr, wrPtr, AV.cells, asVal, lenOf, boundOf, rowsOf, argIds, freshIn, scalar1, setAll, AV.isData, AV.isYld, Nat.reduceAdd, Nat.reduceMul, Nat.reduceSub, Nat.reduceEqDiff, Nat.reduceLeDiff, Nat.reduceLT, Int.reduceNeg, ↓reduceIte, reduceCtorEq, Int.reduceEq, Int.reduceLT, Int.reduceLE, Int.reduceBEq, Int.reduceBNe, Int.reduceToNat, IntKind.bits, Int.reduceAdd, Int.reduceSub, Int.reduceMul, Int.reduceTDiv, Int.reduceTMod, W_go, LPB, bne_self_eq_false, Nat.le_refl, IntWalk.i64_in]
      · simp only [RB, pickV, eqbV, notV, negV, convV, faddrV, fldV, idxV, eqaggV, iaddrV, isnilV, nilckV, cloV, extrV, slenV, minV, sidxV, abin, cmpInt, params, growLists, fillCells, newAt, rdPtr, wrPtr, AV.cells, asVal, lenOf, boundOf, rowsOf, argIds, freshIn, scalar1, setAll, AV.isData, AV.isYld, Nat.reduceAdd, Nat.reduceMul, Nat.reduceSub, Nat.reduceEqDiff, Nat.reduceLeDiff, Nat.reduceLT, Int.reduceNeg, ↓reduceIte, reduceCtorEq, Int.reduceEq, Int.reduceLT, Int.reduceLE, Int.reduceBEq, Int.reduceBNe, Int.reduceToNat, IntKind.bits, Int.reduceAdd, Int.reduceSub, Int.reduceMul, Int.reduceTDiv, Int.reduceTMod, W_go, LPB, bne_self_eq_false, bne_iff_ne.2 hc, Nat.le_refl]
    · simp only [RB, pickV, eqbV, notV, negV, convV, faddrV, fldV, idxV, eqaggV, iaddrV, isnilV, nilckV, cloV, extrV, slenV, minV, sidxV, abin, cmpInt, params, growLists, fillCells, newAt, rdPtr, wrPtr, AV.cells, asVal, lenOf, boundOf, rowsOf, argIds, freshIn, scalar1, setAll, AV.isData, AV.isYld, Nat.reduceAdd, Nat.reduceMul, Nat.reduceSub, Nat.reduceEqDiff, Nat.reduceLeDiff, Nat.reduceLT, Int.reduceNeg, ↓reduceIte, reduceCtorEq, Int.reduceEq, Int.reduceLT, Int.reduceLE, Int.reduceBEq, Int.reduceBNe, Int.reduceToNat, IntKind.bits, Int.reduceAdd, Int.reduceSub, Int.reduceMul, Int.reduceTDiv, Int.reduceTMod, W_go, LPB, bne_self_eq_false, bne_iff_ne.2 hb, hb]
  · simp only [RB, pickV, eqbV, notV, negV, convV, faddrV, fldV, idxV, eqaggV, iaddrV, isnilV, nilckV, cloV, extrV, slenV, minV, sidxV, abin, cmpInt, params, growLists, fillCells, newAt, rdPtr, wrPtr, AV.cells, asVal, lenOf, boundOf, rowsOf, argIds, freshIn, scalar1, setAll, AV.isData, AV.isYld, Nat.reduceAdd, Nat.reduceMul, Nat.reduceSub, Nat.reduceEqDiff, Nat.reduceLeDiff, Nat.reduceLT, Int.reduceNeg, ↓reduceIte, reduceCtorEq, Int.reduceEq, Int.reduceLT, Int.reduceLE, Int.reduceBEq, Int.reduceBNe, Int.reduceToNat, IntKind.bits, Int.reduceAdd, Int.reduceSub, Int.reduceMul, Int.reduceTDiv, Int.reduceTMod, W_go, LPB, bne_self_eq_false, bne_iff_ne.2 ha, ha]
theorem e40 (p q : Pfx) : LV E 40 [.agg (pav p), .agg (pav q)] = some (.int .i64 (cmpP p q)) := by
  rw [LV_R (fn := f40) rfl rfl rfl]
  have hb : ∀ b : B16, (bav b).map (fun c => [c]) = brows b := fun _ => rfl
  simp only [f40, RB, pickV, eqbV, notV, negV, convV, faddrV, fldV, idxV, eqaggV, iaddrV, isnilV, nilckV, cloV, extrV, slenV, minV, sidxV, abin, cmpInt, params, growLists, fillCells, newAt, rdPtr, wrPtr, AV.cells, asVal, lenOf, boundOf, rowsOf, argIds, freshIn, scalar1, setAll, AV.isData, AV.isYld, Nat.reduceAdd, Nat.reduceMul, Nat.reduceSub, Nat.reduceEqDiff, Nat.reduceLeDiff, Nat.reduceLT, Int.reduceNeg, ↓reduceIte, reduceCtorEq, Int.reduceEq, Int.reduceLT, Int.reduceLE, Int.reduceBEq, Int.reduceBNe, Int.reduceToNat, IntKind.bits, Int.reduceAdd, Int.reduceSub, Int.reduceMul, Int.reduceTDiv, Int.reduceTMod, DB, e74, aop, O_buildSlq, quietOk, hb, e64, e73, fillRows, asData]
  rw [cmp_key]
end Go.Proofs.YtihbammfchnjgaaDoor.F

/- The document's answer for prefixes: what its functions tell. No condition. -/
set_option linter.unusedSimpArgs false
namespace Go.Proofs.YtihbammfchnjgaaDoor.F
open Go Go.Proofs.YtihbammfchnjgaaDoor.A Go.Proofs.YtihbammfchnjgaaDoor.D
theorem e21 (v : Int) : LV E 21 [.int .i64 v] = some (.int .i64 (width v)) := by
  rw [LV_R (fn := f21) rfl rfl rfl]
  simp only [f21, RB, pickV, eqbV, notV, negV, convV, faddrV, fldV, idxV, eqaggV, iaddrV, isnilV, nilckV, cloV, extrV, slenV, minV, sidxV, abin, cmpInt, params, growLists, fillCells, newAt, rdPtr, wrPtr, AV.cells, asVal, lenOf, boundOf, rowsOf, argIds, freshIn, scalar1, setAll, AV.isData, AV.isYld, Nat.reduceAdd, Nat.reduceMul, Nat.reduceSub, Nat.reduceEqDiff, Nat.reduceLeDiff, Nat.reduceLT, Int.reduceNeg, ↓reduceIte, reduceCtorEq, Int.reduceEq, Int.reduceLT, Int.reduceLE, Int.reduceBEq, Int.reduceBNe, Int.reduceToNat, IntKind.bits, Int.reduceAdd, Int.reduceSub, Int.reduceMul, Int.reduceTDiv, Int.reduceTMod]
  by_cases h1 : v = 4
  · subst h1; simp only [RB, pickV, eqbV, notV, negV, convV, faddrV, fldV, idxV, eqaggV, iaddrV, isnilV, nilckV, cloV, extrV, slenV, minV, sidxV, abin, cmpInt, params, growLists, fillCells, newAt, rdPtr, wrPtr, AV.cells, asVal, lenOf, boundOf, rowsOf, argIds, freshIn, scalar1, setAll, AV.isData, AV.isYld, Nat.reduceAdd, Nat.reduceMul, Nat.reduceSub, Nat.reduceEqDiff, Nat.reduceLeDiff, Nat.reduceLT, Int.reduceNeg, ↓reduceIte, reduceCtorEq, Int.reduceEq, Int.reduceLT, Int.reduceLE, Int.reduceBEq, Int.reduceBNe, Int.reduceToNat, IntKind.bits, Int.reduceAdd, Int.reduceSub, Int.reduceMul, Int.reduceTDiv, Int.reduceTMod]; rfl
  · by_cases h2 : v = 6
    · subst h2; simp only [RB, pickV, eqbV, notV, negV, convV, faddrV, fldV, idxV, eqaggV, iaddrV, isnilV, nilckV, cloV, extrV, slenV, minV, sidxV, abin, cmpInt, params, growLists, fillCells, newAt, rdPtr, wrPtr, AV.cells, asVal, lenOf, boundOf, rowsOf, argIds, freshIn, scalar1, setAll, AV.isData, AV.isYld, Nat.reduceAdd, Nat.reduceMul, Nat.reduceSub, Nat.reduceEqDiff, Nat.reduceLeDiff, Nat.reduceLT, Int.reduceNeg, ↓reduceIte, reduceCtorEq, Int.reduceEq, Int.reduceLT, Int.reduceLE, Int.reduceBEq, Int.reduceBNe, Int.reduceToNat, IntKind.bits, Int.reduceAdd, Int.reduceSub, Int.reduceMul, Int.reduceTDiv, Int.reduceTMod]; rfl
    · simp only [RB, pickV, eqbV, notV, negV, convV, faddrV, fldV, idxV, eqaggV, iaddrV, isnilV, nilckV, cloV, extrV, slenV, minV, sidxV, abin, cmpInt, params, growLists, fillCells, newAt, rdPtr, wrPtr, AV.cells, asVal, lenOf, boundOf, rowsOf, argIds, freshIn, scalar1, setAll, AV.isData, AV.isYld, Nat.reduceAdd, Nat.reduceMul, Nat.reduceSub, Nat.reduceEqDiff, Nat.reduceLeDiff, Nat.reduceLT, Int.reduceNeg, ↓reduceIte, reduceCtorEq, Int.reduceEq, Int.reduceLT, Int.reduceLE, Int.reduceBEq, Int.reduceBNe, Int.reduceToNat, IntKind.bits, Int.reduceAdd, Int.reduceSub, Int.reduceMul, Int.reduceTDiv, Int.reduceTMod, beq_eq_false_iff_ne.2 h1, beq_eq_false_iff_ne.2 h2]
      simp [width, h1, h2]
def b01 (b : Bool) : Int := if b then 1 else 0
theorem e65 (b : B16) (k : Nat) (hk : k < 128) : LV E 65 [.agg (bav b), .int .i64 (k : Int)] = some (.int .i64 (b01 (bit b k))) := by
  rw [LV_R (fn := f65) rfl rfl rfl]
  have f2 : k / 8 < 16 := by omega
  have f3 : ((k / 8 : Nat) : Int) < 16 := by omega
  have f4 : (0 : Int) ≤ ((k / 8 : Nat) : Int) := by omega
  have f5 : (0 : Int) ≤ ((7 - k % 8 : Nat) : Int) := by omega
  have f6 : IntKind.u64.wrap ((7 - k % 8 : Nat) : Int) = ((7 - k % 8 : Nat) : Int) := IntWalk.u64_in _ (by omega)
  have f7 : IntKind.i64.wrap (b.get (k / 8) : Int) = (b.get (k / 8) : Int) := IntWalk.i64_in _ (by have := b.get_lt (k / 8); omega)
  have f8 : ((b.get (k / 8) : Int).fdiv (2 ^ (Nat.min (7 - k % 8) 64))) = ((b.get (k / 8) / 2 ^ (7 - k % 8) : Nat) : Int) := by
    rw [show Nat.min (7 - k % 8) 64 = 7 - k % 8 from Nat.min_eq_left (by omega), Int.fdiv_eq_ediv_of_nonneg _ (Int.pow_nonneg (by decide))]
    simp
  have f9 : ((b.get (k / 8) / 2 ^ (7 - k % 8) : Nat) : Int).tmod 2 = b01 (bit b k) := by
    rw [Int.tmod_eq_emod_of_nonneg (Int.natCast_nonneg _)]
    exact bit_and b k
  simp only [f65, RB, pickV, eqbV, notV, negV, convV, faddrV, fldV, idxV, eqaggV, iaddrV, isnilV, nilckV, cloV, extrV, slenV, minV, sidxV, abin, cmpInt, params, growLists, fillCells, newAt, rdPtr, wrPtr, AV.cells, asVal, lenOf, boundOf, rowsOf, argIds, freshIn, scalar1, setAll, AV.isData, AV.isYld, Nat.reduceAdd, Nat.reduceMul, Nat.reduceSub, Nat.reduceEqDiff, Nat.reduceLeDiff, Nat.reduceLT, Int.reduceNeg, ↓reduceIte, reduceCtorEq, Int.reduceEq, Int.reduceLT, Int.reduceLE, Int.reduceBEq, Int.reduceBNe, Int.reduceToNat, IntKind.bits, Int.reduceAdd, Int.reduceSub, Int.reduceMul, Int.reduceTDiv, Int.reduceTMod, DB, f3, f4, f5, f6, f7, f8, f9, quo8 k (by omega), rem8, sub7, bav_i b (k / 8) f2]
theorem b01_eq (b : Bool) : (b01 b == 1) = b := by cases b <;> rfl
theorem b01_ne (a b : Bool) : (b01 a != b01 b) = (a != b) := by cases a <;> cases b <;> rfl
theorem e33 (a : Adr) : LV E 33 [.agg (aav a)] = some (.bool (decide (AddrOk a))) := by
  rw [LV_R (fn := f33) rfl rfl rfl]
  simp only [f33, RB, pickV, eqbV, notV, negV, convV, faddrV, fldV, idxV, eqaggV, iaddrV, isnilV, nilckV, cloV, extrV, slenV, minV, sidxV, abin, cmpInt, params, growLists, fillCells, newAt, rdPtr, wrPtr, AV.cells, asVal, lenOf, boundOf, rowsOf, argIds, freshIn, scalar1, setAll, AV.isData, AV.isYld, Nat.reduceAdd, Nat.reduceMul, Nat.reduceSub, Nat.reduceEqDiff, Nat.reduceLeDiff, Nat.reduceLT, Int.reduceNeg, ↓reduceIte, reduceCtorEq, Int.reduceEq, Int.reduceLT, Int.reduceLE, Int.reduceBEq, Int.reduceBNe, Int.reduceToNat, IntKind.bits, Int.reduceAdd, Int.reduceSub, Int.reduceMul, Int.reduceTDiv, Int.reduceTMod, DB, e21]
  refine (W_rec (β := AV) (ι := Nat) (M := fun k => [(1, .ptr 0 0 0 0), (3, .int .i64 (width a.ver : Int)), (4, .int .i64 (k : Int))]) (H := fun _ => ⟨[.box 0 30 (aav a)], []⟩) (r := fun k => some (AV.bool (decide (width a.ver ≠ 0 ∧ Clr a.b k)))) (μ := fun k => 128 - k) (fun i => ?_) (fun k ih => ?_) (width a.ver)).trans ?_
  · simp [LPB]
  · by_cases hk : k < 128
    · have f1 : (k : Int) < 128 := by omega
      have f6 : IntKind.i64.wrap ((k : Int) + 1) = ((k + 1 : Nat) : Int) := by rw [IntWalk.i64_in _ (by omega)] <;> omega
      have ih := ih (k + 1) (by omega)
      cases hb : bit a.b k with
      | true =>
        simp only [RB, pickV, eqbV, notV, negV, convV, faddrV, fldV, idxV, eqaggV, iaddrV, isnilV, nilckV, cloV, extrV, slenV, minV, sidxV, abin, cmpInt, params, growLists, fillCells, newAt, rdPtr, wrPtr, AV.cells, asVal, lenOf, boundOf, rowsOf, argIds, freshIn, scalar1, setAll, AV.isData, AV.isYld, Nat.reduceAdd, Nat.reduceMul, Nat.reduceSub, Nat.reduceEqDiff, Nat.reduceLeDiff, Nat.reduceLT, Int.reduceNeg, ↓reduceIte, reduceCtorEq, Int.reduceEq, Int.reduceLT, Int.reduceLE, Int.reduceBEq, Int.reduceBNe, Int.reduceToNat, IntKind.bits, Int.reduceAdd, Int.reduceSub, Int.reduceMul, Int.reduceTDiv, Int.reduceTMod, DB, f1, e65 _ k hk, b01_eq, hb]
        rw [decide_eq_false fun hc => by rw [hc.2 k (Nat.le_refl _) hk] at hb; cases hb]
      | false =>
        simp only [RB, pickV, eqbV, notV, negV, convV, faddrV, fldV, idxV, eqaggV, iaddrV, isnilV, nilckV, cloV, extrV, slenV, minV, sidxV, abin, cmpInt, params, growLists, fillCells, newAt, rdPtr, wrPtr, AV.cells, asVal, lenOf, boundOf, rowsOf, argIds, freshIn, scalar1, setAll, AV.isData, AV.isYld, Nat.reduceAdd, Nat.reduceMul, Nat.reduceSub, Nat.reduceEqDiff, Nat.reduceLeDiff, Nat.reduceLT, Int.reduceNeg, ↓reduceIte, reduceCtorEq, Int.reduceEq, Int.reduceLT, Int.reduceLE, Int.reduceBEq, Int.reduceBNe, Int.reduceToNat, IntKind.bits, Int.reduceAdd, Int.reduceSub, Int.reduceMul, Int.reduceTDiv, Int.reduceTMod, DB, f1, e65 _ k hk, b01_eq, hb, f6]
        rw [ih]
        congr 2
        refine decide_eq_decide.2 (and_congr_right fun _ => ⟨fun h j h1 h2 => ?_, fun h j h1 h2 => h j (by omega) h2⟩)
        rcases Nat.lt_or_eq_of_le h1 with h3 | rfl
        · exact h j h3 h2
        · exact hb
    · simp only [RB, pickV, eqbV, notV, negV, convV, faddrV, fldV, idxV, eqaggV, iaddrV, isnilV, nilckV, cloV, extrV, slenV, minV, sidxV, abin, cmpInt, params, growLists, fillCells, newAt, rdPtr, wrPtr, AV.cells, asVal, lenOf, boundOf, rowsOf, argIds, freshIn, scalar1, setAll, AV.isData, AV.isYld, Nat.reduceAdd, Nat.reduceMul, Nat.reduceSub, Nat.reduceEqDiff, Nat.reduceLeDiff, Nat.reduceLT, Int.reduceNeg, ↓reduceIte, reduceCtorEq, Int.reduceEq, Int.reduceLT, Int.reduceLE, Int.reduceBEq, Int.reduceBNe, Int.reduceToNat, IntKind.bits, Int.reduceAdd, Int.reduceSub, Int.reduceMul, Int.reduceTDiv, Int.reduceTMod, DB, show ¬ (k : Int) < 128 by omega]
      congr 2
      refine decide_eq_decide.2 ⟨fun h => ⟨by omega, fun j h1 h2 => absurd h2 (by omega)⟩, fun h => by have := h.1; omega⟩
  · exact congrArg (fun b => some (AV.bool b)) (decide_eq_decide.2 Iff.rfl)
theorem e48 (p : Pfx) : LV E 48 [.agg (pav p)] = some (.bool (decide (PfxOk p))) := by
  rw [LV_R (fn := f48) rfl rfl rfl]
  simp only [f48, RB, pickV, eqbV, notV, negV, convV, faddrV, fldV, idxV, eqaggV, iaddrV, isnilV, nilckV, cloV, extrV, slenV, minV, sidxV, abin, cmpInt, params, growLists, fillCells, newAt, rdPtr, wrPtr, AV.cells, asVal, lenOf, boundOf, rowsOf, argIds, freshIn, scalar1, setAll, AV.isData, AV.isYld, Nat.reduceAdd, Nat.reduceMul, Nat.reduceSub, Nat.reduceEqDiff, Nat.reduceLeDiff, Nat.reduceLT, Int.reduceNeg, ↓reduceIte, reduceCtorEq, Int.reduceEq, Int.reduceLT, Int.reduceLE, Int.reduceBEq, Int.reduceBNe, Int.reduceToNat, IntKind.bits, Int.reduceAdd, Int.reduceSub, Int.reduceMul, Int.reduceTDiv, Int.reduceTMod, DB, e33]
  by_cases h1 : AddrOk p.adr
  · by_cases h2 : p.bits < 0
    · simp only [RB, pickV, eqbV, notV, negV, convV, faddrV, fldV, idxV, eqaggV, iaddrV, isnilV, nilckV, cloV, extrV, slenV, minV, sidxV, abin, cmpInt, params, growLists, fillCells, newAt, rdPtr, wrPtr, AV.cells, asVal, lenOf, boundOf, rowsOf, argIds, freshIn, scalar1, setAll, AV.isData, AV.isYld, Nat.reduceAdd, Nat.reduceMul, Nat.reduceSub, Nat.reduceEqDiff, Nat.reduceLeDiff, Nat.reduceLT, Int.reduceNeg, ↓reduceIte, reduceCtorEq, Int.reduceEq, Int.reduceLT, Int.reduceLE, Int.reduceBEq, Int.reduceBNe, Int.reduceToNat, IntKind.bits, Int.reduceAdd, Int.reduceSub, Int.reduceMul, Int.reduceTDiv, Int.reduceTMod, DB, e21, h1, h2]
      simp [PfxOk, h1, show ¬ 0 ≤ p.bits by omega]
    · by_cases h3 : (width p.adr.ver : Int) < p.bits
      · simp only [RB, pickV, eqbV, notV, negV, convV, faddrV, fldV, idxV, eqaggV, iaddrV, isnilV, nilckV, cloV, extrV, slenV, minV, sidxV, abin, cmpInt, params, growLists, fillCells, newAt, rdPtr, wrPtr, AV.cells, asVal, lenOf, boundOf, rowsOf, argIds, freshIn, scalar1, setAll, AV.isData, AV.isYld, Nat.reduceAdd, Nat.reduceMul, Nat.reduceSub, Nat.reduceEqDiff, Nat.reduceLeDiff, Nat.reduceLT, Int.reduceNeg, ↓reduceIte, reduceCtorEq, Int.reduceEq, Int.reduceLT, Int.reduceLE, Int.reduceBEq, Int.reduceBNe, Int.reduceToNat, IntKind.bits, Int.reduceAdd, Int.reduceSub, Int.reduceMul, Int.reduceTDiv, Int.reduceTMod, DB, e21, h1, h2, h3]
        simp [PfxOk, h1, show ¬ p.bits ≤ width p.adr.ver by omega]
      · simp only [RB, pickV, eqbV, notV, negV, convV, faddrV, fldV, idxV, eqaggV, iaddrV, isnilV, nilckV, cloV, extrV, slenV, minV, sidxV, abin, cmpInt, params, growLists, fillCells, newAt, rdPtr, wrPtr, AV.cells, asVal, lenOf, boundOf, rowsOf, argIds, freshIn, scalar1, setAll, AV.isData, AV.isYld, Nat.reduceAdd, Nat.reduceMul, Nat.reduceSub, Nat.reduceEqDiff, Nat.reduceLeDiff, Nat.reduceLT, Int.reduceNeg, ↓reduceIte, reduceCtorEq, Int.reduceEq, Int.reduceLT, Int.reduceLE, Int.reduceBEq, Int.reduceBNe, Int.reduceToNat, IntKind.bits, Int.reduceAdd, Int.reduceSub, Int.reduceMul, Int.reduceTDiv, Int.reduceTMod, DB, e21, h1, h2, h3]
        obtain ⟨ad, n⟩ := p
        simp only at *
        obtain ⟨n, rfl⟩ : ∃ m : Nat, n = (m : Int) := ⟨n.toNat, by omega⟩
        refine (W_rec (β := AV) (ι := Nat) (M := fun k => [(1, .ptr 0 0 0 0), (3, .int .i64 (k : Int))]) (H := fun _ => ⟨[.box 0 32 (pav ⟨ad, n⟩)], []⟩) (r := fun k => some (AV.bool (decide (Clr ad.b k)))) (μ := fun k => 128 - k) (fun i => ?_) (fun k ih => ?_) n).trans ?_
        · simp [LPB]
        · by_cases hk : k < 128
          · have f1 : (k : Int) < 128 := by omega
            have f6 : IntKind.i64.wrap ((k : Int) + 1) = ((k + 1 : Nat) : Int) := by rw [IntWalk.i64_in _ (by omega)] <;> omega
            have ih := ih (k + 1) (by omega)
            cases hb : bit ad.b k with
            | true =>
              simp only [RB, pickV, eqbV, notV, negV, convV, faddrV, fldV, idxV, eqaggV, iaddrV, isnilV, nilckV, cloV, extrV, slenV, minV, sidxV, abin, cmpInt, params, growLists, fillCells, newAt, rdPtr, wrPtr, AV.cells, asVal, lenOf, boundOf, rowsOf, argIds, freshIn, scalar1, setAll, AV.isData, AV.isYld, Nat.reduceAdd, Nat.reduceMul, Nat.reduceSub, Nat.reduceEqDiff, Nat.reduceLeDiff, Nat.reduceLT, Int.reduceNeg, ↓reduceIte, reduceCtorEq, Int.reduceEq, Int.reduceLT, Int.reduceLE, Int.reduceBEq, Int.reduceBNe, Int.reduceToNat, IntKind.bits, Int.reduceAdd, Int.reduceSub, Int.reduceMul, Int.reduceTDiv, Int.reduceTMod, DB, f1, e65 _ k hk, b01_eq, hb]
              rw [decide_eq_false fun hc => by rw [hc k (Nat.le_refl _) hk] at hb; cases hb]
            | false =>
              simp only [RB, pickV, eqbV, notV, negV, convV, faddrV, fldV, idxV, eqaggV, iaddrV, isnilV, nilckV, cloV, extrV, slenV, minV, sidxV, abin, cmpInt, params, growLists, fillCells, newAt, rdPtr, wrPtr, AV.cells, asVal, lenOf, boundOf, rowsOf, argIds, freshIn, scalar1, setAll, AV.isData, AV.isYld, Nat.reduceAdd, Nat.reduceMul, Nat.reduceSub, Nat.reduceEqDiff, Nat.reduceLeDiff, Nat.reduceLT, Int.reduceNeg, ↓reduceIte, reduceCtorEq, Int.reduceEq, Int.reduceLT, Int.reduceLE, Int.reduceBEq, Int.reduceBNe, Int.reduceToNat, IntKind.bits, Int.reduceAdd, Int.reduceSub, Int.reduceMul, Int.reduceTDiv, Int.reduceTMod, DB, f1, e65 _ k hk, b01_eq, hb, f6]
              rw [ih]
              congr 2
              refine decide_eq_decide.2 ⟨fun h j h1 h2 => ?_, fun h j h1 h2 => h j (by omega) h2⟩
              rcases Nat.lt_or_eq_of_le h1 with h3 | rfl
              · exact h j h3 h2
              · exact hb
          · simp only [RB, pickV, eqbV, notV, negV, convV, faddrV, fldV, idxV, eqaggV, iaddrV, isnilV, nilckV, cloV, extrV, slenV, minV, sidxV, abin, cmpInt, params, growLists, fillCells, newAt, rdPtr, wrPtr, AV.cells, asVal, lenOf, boundOf, rowsOf, argIds, freshIn, scalar1, setAll, AV.isData, AV.isYld, Nat.reduceAdd, Nat.reduceMul, Nat.reduceSub, Nat.reduceEqDiff, Nat.reduceLeDiff, Nat.reduceLT, Int.reduceNeg, ↓reduceIte, reduceCtorEq, Int.reduceEq, Int.reduceLT, Int.reduceLE, Int.reduceBEq, Int.reduceBNe, Int.reduceToNat, IntKind.bits, Int.reduceAdd, Int.reduceSub, Int.reduceMul, Int.reduceTDiv, Int.reduceTMod, DB, show ¬ (k : Int) < 128 by omega]
            rw [decide_eq_true (show Clr ad.b k from fun j h1 h2 => absurd h2 (by omega))]
        · congr 2
          refine decide_eq_decide.2 ⟨fun h => ⟨h1, by simp, by simpa using h3, by simpa using h⟩, fun h => by simpa using h.2.2.2⟩
  · simp only [RB, pickV, eqbV, notV, negV, convV, faddrV, fldV, idxV, eqaggV, iaddrV, isnilV, nilckV, cloV, extrV, slenV, minV, sidxV, abin, cmpInt, params, growLists, fillCells, newAt, rdPtr, wrPtr, AV.cells, asVal, lenOf, boundOf, rowsOf, argIds, freshIn, scalar1, setAll, AV.isData, AV.isYld, Nat.reduceAdd, Nat.reduceMul, Nat.reduceSub, Nat.reduceEqDiff, Nat.reduceLeDiff, Nat.reduceLT, Int.reduceNeg, ↓reduceIte, reduceCtorEq, Int.reduceEq, Int.reduceLT, Int.reduceLE, Int.reduceBEq, Int.reduceBNe, Int.reduceToNat, IntKind.bits, Int.reduceAdd, Int.reduceSub, Int.reduceMul, Int.reduceTDiv, Int.reduceTMod, DB, h1]
    simp [PfxOk, h1]
def Agree (b c : B16) (k n : Nat) : Prop := ∀ i, k ≤ i → i < n → bit b i = bit c i
noncomputable instance {b c : B16} {k n : Nat} : Decidable (Agree b c k n) := Classical.propDecidable _
theorem e66 (p : Pfx) (a : Adr) : LV E 66 [.agg (pav p), .agg (aav a)] = some (.bool (decide (Has p a))) := by
  rw [LV_R (fn := f66) rfl rfl rfl]
  simp only [f66, RB, pickV, eqbV, notV, negV, convV, faddrV, fldV, idxV, eqaggV, iaddrV, isnilV, nilckV, cloV, extrV, slenV, minV, sidxV, abin, cmpInt, params, growLists, fillCells, newAt, rdPtr, wrPtr, AV.cells, asVal, lenOf, boundOf, rowsOf, argIds, freshIn, scalar1, setAll, AV.isData, AV.isYld, Nat.reduceAdd, Nat.reduceMul, Nat.reduceSub, Nat.reduceEqDiff, Nat.reduceLeDiff, Nat.reduceLT, Int.reduceNeg, ↓reduceIte, reduceCtorEq, Int.reduceEq, Int.reduceLT, Int.reduceLE, Int.reduceBEq, Int.reduceBNe, Int.reduceToNat, IntKind.bits, Int.reduceAdd, Int.reduceSub, Int.reduceMul, Int.reduceTDiv, Int.reduceTMod, DB, e48]
  by_cases h1 : PfxOk p
  · by_cases h2 : AddrOk a
    · by_cases h3 : p.adr.ver = a.ver
      · simp only [RB, pickV, eqbV, notV, negV, convV, faddrV, fldV, idxV, eqaggV, iaddrV, isnilV, nilckV, cloV, extrV, slenV, minV, sidxV, abin, cmpInt, params, growLists, fillCells, newAt, rdPtr, wrPtr, AV.cells, asVal, lenOf, boundOf, rowsOf, argIds, freshIn, scalar1, setAll, AV.isData, AV.isYld, Nat.reduceAdd, Nat.reduceMul, Nat.reduceSub, Nat.reduceEqDiff, Nat.reduceLeDiff, Nat.reduceLT, Int.reduceNeg, ↓reduceIte, reduceCtorEq, Int.reduceEq, Int.reduceLT, Int.reduceLE, Int.reduceBEq, Int.reduceBNe, Int.reduceToNat, IntKind.bits, Int.reduceAdd, Int.reduceSub, Int.reduceMul, Int.reduceTDiv, Int.reduceTMod, DB, e33, h1, h2, h3, bne_self_eq_false]
        have h4 : p.bits ≤ 128 := by have := h1.2.2.1; have := width_le p.adr.ver; omega
        have h0 := h1.2.1
        have hc := h1.2.2.2
        have e : decide (Has p a) = decide (Agree p.adr.b a.b 0 p.bits.toNat) := by
          refine decide_eq_decide.2 ⟨fun h i _ hi => (has_bits hc).1 h.2.2.2 i hi (by omega), fun h => ⟨h1, h2, h3, (has_bits hc).2 fun i hi _ => h i (Nat.zero_le _) hi⟩⟩
        rw [e]
        refine (W_rec (β := AV) (ι := Nat) (M := fun k => [(2, .ptr 0 0 0 0), (3, .ptr 1 0 0 0), (5, .int .i64 (k : Int))]) (H := fun _ => ⟨[.box 0 32 (pav p), .box 0 30 (aav a)], []⟩) (r := fun k => some (AV.bool (decide (Agree p.adr.b a.b k p.bits.toNat)))) (μ := fun k => 128 - k) (fun i => ?_) (fun k ih => ?_) 0).trans ?_
        · simp [LPB]
        · by_cases hk : (k : Int) < p.bits
          · have f6 : IntKind.i64.wrap ((k : Int) + 1) = ((k + 1 : Nat) : Int) := by rw [IntWalk.i64_in _ (by omega)] <;> omega
            have ih := ih (k + 1) (by omega)
            by_cases hb : bit p.adr.b k = bit a.b k
            · simp only [RB, pickV, eqbV, notV, negV, convV, faddrV, fldV, idxV, eqaggV, iaddrV, isnilV, nilckV, cloV, extrV, slenV, minV, sidxV, abin, cmpInt, params, growLists, fillCells, newAt, rdPtr, wrPtr, AV.cells, asVal, lenOf, boundOf, rowsOf, argIds, freshIn, scalar1, setAll, AV.isData, AV.isYld, Nat.reduceAdd, Nat.reduceMul, Nat.reduceSub, Nat.reduceEqDiff, Nat.reduceLeDiff, Nat.reduceLT, Int.reduceNeg, ↓reduceIte, reduceCtorEq, Int.reduceEq, Int.reduceLT, Int.reduceLE, Int.reduceBEq, Int.reduceBNe, Int.reduceToNat, IntKind.bits, Int.reduceAdd, Int.reduceSub, Int.reduceMul, Int.reduceTDiv, Int.reduceTMod, DB, e65 _ k (show k < 128 by omega), hk, b01_ne, hb, bne_self_eq_false, f6]
              rw [ih]
              congr 2
              refine decide_eq_decide.2 ⟨fun h j h1 h2 => ?_, fun h j h1 h2 => h j (by omega) h2⟩
              rcases Nat.lt_or_eq_of_le h1 with h3 | rfl
              · exact h j h3 h2
              · exact hb
            · simp only [RB, pickV, eqbV, notV, negV, convV, faddrV, fldV, idxV, eqaggV, iaddrV, isnilV, nilckV, cloV, extrV, slenV, minV, sidxV, abin, cmpInt, params, growLists, fillCells, newAt, rdPtr, wrPtr, AV.cells, asVal, lenOf, boundOf, rowsOf, argIds, freshIn, scalar1, setAll, AV.isData, AV.isYld, Nat.reduceAdd, Nat.reduceMul, Nat.reduceSub, Nat.reduceEqDiff, Nat.reduceLeDiff, Nat.reduceLT, Int.reduceNeg, ↓reduceIte, reduceCtorEq, Int.reduceEq, Int.reduceLT, Int.reduceLE, Int.reduceBEq, Int.reduceBNe, Int.reduceToNat, IntKind.bits, Int.reduceAdd, Int.reduceSub, Int.reduceMul, Int.reduceTDiv, Int.reduceTMod, DB, e65 _ k (show k < 128 by omega), hk, b01_ne, bne_iff_ne.2 hb]
              rw [decide_eq_false fun hc => hb (hc k (Nat.le_refl _) (by omega))]
          · simp only [RB, pickV, eqbV, notV, negV, convV, faddrV, fldV, idxV, eqaggV, iaddrV, isnilV, nilckV, cloV, extrV, slenV, minV, sidxV, abin, cmpInt, params, growLists, fillCells, newAt, rdPtr, wrPtr, AV.cells, asVal, lenOf, boundOf, rowsOf, argIds, freshIn, scalar1, setAll, AV.isData, AV.isYld, Nat.reduceAdd, Nat.reduceMul, Nat.reduceSub, Nat.reduceEqDiff, Nat.reduceLeDiff, Nat.reduceLT, Int.reduceNeg, ↓reduceIte, reduceCtorEq, Int.reduceEq, Int.reduceLT, Int.reduceLE, Int.reduceBEq, Int.reduceBNe, Int.reduceToNat, IntKind.bits, Int.reduceAdd, Int.reduceSub, Int.reduceMul, Int.reduceTDiv, Int.reduceTMod, DB, hk]
            rw [decide_eq_true (show Agree p.adr.b a.b k p.bits.toNat from fun j h1 h2 => absurd h2 (by omega))]
        · rfl
      · simp only [RB, pickV, eqbV, notV, negV, convV, faddrV, fldV, idxV, eqaggV, iaddrV, isnilV, nilckV, cloV, extrV, slenV, minV, sidxV, abin, cmpInt, params, growLists, fillCells, newAt, rdPtr, wrPtr, AV.cells, asVal, lenOf, boundOf, rowsOf, argIds, freshIn, scalar1, setAll, AV.isData, AV.isYld, Nat.reduceAdd, Nat.reduceMul, Nat.reduceSub, Nat.reduceEqDiff, Nat.reduceLeDiff, Nat.reduceLT, Int.reduceNeg, ↓reduceIte, reduceCtorEq, Int.reduceEq, Int.reduceLT, Int.reduceLE, Int.reduceBEq, Int.reduceBNe, Int.reduceToNat, IntKind.bits, Int.reduceAdd, Int.reduceSub, Int.reduceMul, Int.reduceTDiv, Int.reduceTMod, DB, e33, h1, h2, bne_iff_ne.2 h3]
        simp [Has, h1, h2, h3]
    · simp only [RB, pickV, eqbV, notV, negV, convV, faddrV, fldV, idxV, eqaggV, iaddrV, isnilV, nilckV, cloV, extrV, slenV, minV, sidxV, abin, cmpInt, params, growLists, fillCells, newAt, rdPtr, wrPtr, AV.cells, asVal, lenOf, boundOf, rowsOf, argIds, freshIn, scalar1, setAll, AV.isData, AV.isYld, Nat.reduceAdd, Nat.reduceMul, Nat.reduceSub, Nat.reduceEqDiff, Nat.reduceLeDiff, Nat.reduceLT, Int.reduceNeg, ↓reduceIte, reduceCtorEq, Int.reduceEq, Int.reduceLT, Int.reduceLE, Int.reduceBEq, Int.reduceBNe, Int.reduceToNat, IntKind.bits, Int.reduceAdd, Int.reduceSub, Int.reduceMul, Int.reduceTDiv, Int.reduceTMod, DB, e33, h1, h2]
      simp [Has, h1, h2]
  · simp only [RB, pickV, eqbV, notV, negV, convV, faddrV, fldV, idxV, eqaggV, iaddrV, isnilV, nilckV, cloV, extrV, slenV, minV, sidxV, abin, cmpInt, params, growLists, fillCells, newAt, rdPtr, wrPtr, AV.cells, asVal, lenOf, boundOf, rowsOf, argIds, freshIn, scalar1, setAll, AV.isData, AV.isYld, Nat.reduceAdd, Nat.reduceMul, Nat.reduceSub, Nat.reduceEqDiff, Nat.reduceLeDiff, Nat.reduceLT, Int.reduceNeg, ↓reduceIte, reduceCtorEq, Int.reduceEq, Int.reduceLT, Int.reduceLE, Int.reduceBEq, Int.reduceBNe, Int.reduceToNat, IntKind.bits, Int.reduceAdd, Int.reduceSub, Int.reduceMul, Int.reduceTDiv, Int.reduceTMod, DB, h1]
    simp [Has, h1]
theorem e59 (p q : Pfx) : LV E 59 [.agg (pav p), .agg (pav q)] = some (.bool (decide (Holds p q))) := by
  rw [LV_R (fn := f59) rfl rfl rfl]
  simp only [f59, RB, pickV, eqbV, notV, negV, convV, faddrV, fldV, idxV, eqaggV, iaddrV, isnilV, nilckV, cloV, extrV, slenV, minV, sidxV, abin, cmpInt, params, growLists, fillCells, newAt, rdPtr, wrPtr, AV.cells, asVal, lenOf, boundOf, rowsOf, argIds, freshIn, scalar1, setAll, AV.isData, AV.isYld, Nat.reduceAdd, Nat.reduceMul, Nat.reduceSub, Nat.reduceEqDiff, Nat.reduceLeDiff, Nat.reduceLT, Int.reduceNeg, ↓reduceIte, reduceCtorEq, Int.reduceEq, Int.reduceLT, Int.reduceLE, Int.reduceBEq, Int.reduceBNe, Int.reduceToNat, IntKind.bits, Int.reduceAdd, Int.reduceSub, Int.reduceMul, Int.reduceTDiv, Int.reduceTMod, DB, e48]
  by_cases h1 : PfxOk q
  · by_cases h2 : p.bits ≤ q.bits
    · simp only [RB, pickV, eqbV, notV, negV, convV, faddrV, fldV, idxV, eqaggV, iaddrV, isnilV, nilckV, cloV, extrV, slenV, minV, sidxV, abin, cmpInt, params, growLists, fillCells, newAt, rdPtr, wrPtr, AV.cells, asVal, lenOf, boundOf, rowsOf, argIds, freshIn, scalar1, setAll, AV.isData, AV.isYld, Nat.reduceAdd, Nat.reduceMul, Nat.reduceSub, Nat.reduceEqDiff, Nat.reduceLeDiff, Nat.reduceLT, Int.reduceNeg, ↓reduceIte, reduceCtorEq, Int.reduceEq, Int.reduceLT, Int.reduceLE, Int.reduceBEq, Int.reduceBNe, Int.reduceToNat, IntKind.bits, Int.reduceAdd, Int.reduceSub, Int.reduceMul, Int.reduceTDiv, Int.reduceTMod, DB, e66, h1, h2]
      simp [Holds, h1, h2]
    · simp only [RB, pickV, eqbV, notV, negV, convV, faddrV, fldV, idxV, eqaggV, iaddrV, isnilV, nilckV, cloV, extrV, slenV, minV, sidxV, abin, cmpInt, params, growLists, fillCells, newAt, rdPtr, wrPtr, AV.cells, asVal, lenOf, boundOf, rowsOf, argIds, freshIn, scalar1, setAll, AV.isData, AV.isYld, Nat.reduceAdd, Nat.reduceMul, Nat.reduceSub, Nat.reduceEqDiff, Nat.reduceLeDiff, Nat.reduceLT, Int.reduceNeg, ↓reduceIte, reduceCtorEq, Int.reduceEq, Int.reduceLT, Int.reduceLE, Int.reduceBEq, Int.reduceBNe, Int.reduceToNat, IntKind.bits, Int.reduceAdd, Int.reduceSub, Int.reduceMul, Int.reduceTDiv, Int.reduceTMod, DB, h1, h2]
      simp [Holds, h1, h2]
  · simp only [RB, pickV, eqbV, notV, negV, convV, faddrV, fldV, idxV, eqaggV, iaddrV, isnilV, nilckV, cloV, extrV, slenV, minV, sidxV, abin, cmpInt, params, growLists, fillCells, newAt, rdPtr, wrPtr, AV.cells, asVal, lenOf, boundOf, rowsOf, argIds, freshIn, scalar1, setAll, AV.isData, AV.isYld, Nat.reduceAdd, Nat.reduceMul, Nat.reduceSub, Nat.reduceEqDiff, Nat.reduceLeDiff, Nat.reduceLT, Int.reduceNeg, ↓reduceIte, reduceCtorEq, Int.reduceEq, Int.reduceLT, Int.reduceLE, Int.reduceBEq, Int.reduceBNe, Int.reduceToNat, IntKind.bits, Int.reduceAdd, Int.reduceSub, Int.reduceMul, Int.reduceTDiv, Int.reduceTMod, DB, h1]
    simp [Holds, h1]
end Go.Proofs.YtihbammfchnjgaaDoor.F
