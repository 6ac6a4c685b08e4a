/- Part 6 of the proofs of these statements. No condition. -/
import Derived.Test.YtdllnneeopbmdaaDoorM5
import Derived.IntWalk
import Derived.Lib.Bytealg
set_option linter.unusedVariables false
set_option linter.unusedSimpArgs false
/- Functions in the evaluator's form, 2. No condition. -/
namespace Go.Proofs.YtdllnneeopbmdaaDoor.F
open Go Go.Proofs.YtdllnneeopbmdaaDoor.A
/-- junctionbox/table.Longest -/
def f39 : AFunc :=
⟨2, [.cell 4 19 true, .t 5, .t 6], (.seq (.region 3 [⟨some 2, .box 30 1 (.t 0) [], none, 0⟩, ⟨some 3, .box 33 17 (.t 1) [], none, 1⟩, ⟨some 4, .alloc 85 [.int .i64 0, .int .u8 0, .int .u8 0, .int .u8 0, .int .u8 0, .int .u8 0, .int .u8 0, .int .u8 0, .int .u8 0, .int .u8 0, .int .u8 0, .int .u8 0, .int .u8 0, .int .u8 0, .int .u8 0, .int .u8 0, .int .u8 0, .int .i64 0, .int .i64 0] [], none, 2⟩, ⟨some 5, .mv (.c (.bool false)), none, 0⟩, ⟨some 6, .mv (.c (.int .i64 0)), none, 0⟩] false []) (.seq (.block 0 (.seq (.region 0 [⟨some 12, .load 1 true (.t 2), none, 0⟩, ⟨some 13, .callV 26 [.t 12] false, none, 0⟩, ⟨some 14, .bin .neq (.t 13) (.c (.int .i64 0)), none, 0⟩, ⟨some 11, .mv (.t 14), none, 0⟩] false []) (.cond (.t 11) (.seq (.region 0 [⟨some 15, .build [.int .i64 0, .int .u8 0, .int .u8 0, .int .u8 0, .int .u8 0, .int .u8 0, .int .u8 0, .int .u8 0, .int .u8 0, .int .u8 0, .int .u8 0, .int .u8 0, .int .u8 0, .int .u8 0, .int .u8 0, .int .u8 0, .int .u8 0, .int .i64 0, .int .i64 0] [] [], none, 0⟩, ⟨none, .store 19 (.t 4) (.t 15), none, 0⟩, ⟨some 5, .mv (.c (.bool false)), none, 0⟩, ⟨some 6, .mv (.c (.int .i64 190)), none, 0⟩] false []) .ret) (.seq (.region 0 [⟨some 17, .load 17 true (.t 3), none, 0⟩, ⟨some 18, .callV 76 [.t 17] false, none, 0⟩, ⟨some 19, .bin .neq (.t 18) (.c (.int .i64 0)), none, 0⟩, ⟨some 16, .mv (.t 19), none, 0⟩] false []) (.cond (.t 16) (.seq (.region 0 [⟨some 20, .build [.int .i64 0, .int .u8 0, .int .u8 0, .int .u8 0, .int .u8 0, .int .u8 0, .int .u8 0, .int .u8 0, .int .u8 0, .int .u8 0, .int .u8 0, .int .u8 0, .int .u8 0, .int .u8 0, .int .u8 0, .int .u8 0, .int .u8 0, .int .i64 0, .int .i64 0] [] [], none, 0⟩, ⟨none, .store 19 (.t 4) (.t 20), none, 0⟩, ⟨some 5, .mv (.c (.bool false)), none, 0⟩, ⟨some 6, .mv (.c (.int .i64 150)), none, 0⟩] false []) .ret) .skip))))) (.seq (.region 1 [⟨some 7, .alloc 85 [.int .i64 0, .int .u8 0, .int .u8 0, .int .u8 0, .int .u8 0, .int .u8 0, .int .u8 0, .int .u8 0, .int .u8 0, .int .u8 0, .int .u8 0, .int .u8 0, .int .u8 0, .int .u8 0, .int .u8 0, .int .u8 0, .int .u8 0, .int .i64 0, .int .i64 0] [], none, 0⟩] false []) (.seq (.region 0 [⟨some 8, .mv (.c (.bool false)), none, 0⟩] false []) (.seq (.seq (.region 0 [⟨some 21, .faddr 0 (.t 2), none, 0⟩, ⟨some 22, .load 1 false (.t 21), none, 0⟩, ⟨some 23, .len (.t 22), none, 0⟩, ⟨some 24, .mv (.c (.int .i64 0)), none, 0⟩] false []) (.block 1 (.loop [3, 4, 7, 8, 22, 23, 24] (.seq (.region 0 [⟨some 25, .bin .lss (.t 24) (.t 23), none, 0⟩] false []) (.seq (.cond (.t 25) .skip (.exit 1)) (.seq (.block 2 (.seq (.region 1 [⟨some 26, .iaddr 19 none (.t 22) (.t 24), none, 0⟩, ⟨some 27, .load 19 true (.t 26), none, 0⟩, ⟨some 10, .alloc 85 [.int .i64 0, .int .u8 0, .int .u8 0, .int .u8 0, .int .u8 0, .int .u8 0, .int .u8 0, .int .u8 0, .int .u8 0, .int .u8 0, .int .u8 0, .int .u8 0, .int .u8 0, .int .u8 0, .int .u8 0, .int .u8 0, .int .u8 0, .int .i64 0, .int .i64 0] [], none, 0⟩, ⟨none, .store 19 (.t 10) (.t 27), none, 0⟩] false []) (.seq (.region 0 [⟨some 28, .faddr 0 (.t 10), none, 0⟩, ⟨some 29, .load 18 true (.t 28), none, 0⟩, ⟨some 30, .load 17 true (.t 3), none, 0⟩, ⟨some 31, .callV 77 [.t 29, .t 30] false, none, 0⟩, ⟨some 32, .mv (.t 31), none, 0⟩, ⟨some 33, .mv (.t 8), some (32, true), 0⟩, ⟨some 34, .not (.t 33), some (32, true), 0⟩, ⟨some 35, .mv (.t 34), some (32, true), 0⟩, ⟨some 36, .faddr 0 (.t 10), some (35, false), 0⟩, ⟨some 37, .faddr 17 (.t 36), some (35, false), 0⟩, ⟨some 38, .load 1 false (.t 37), some (35, false), 0⟩, ⟨some 39, .faddr 0 (.t 7), some (35, false), 0⟩, ⟨some 40, .faddr 17 (.t 39), some (35, false), 0⟩, ⟨some 41, .load 1 false (.t 40), some (35, false), 0⟩, ⟨some 42, .bin .gtr (.t 38) (.t 41), some (35, false), 0⟩, ⟨some 43, .pick (.t 35) (.c (.bool true)) (.t 42), some (32, true), 0⟩, ⟨some 44, .pick (.t 32) (.t 43) (.c (.bool false)), none, 0⟩] false []) (.cond (.t 44) (.region 0 [⟨some 45, .load 19 true (.t 10), none, 0⟩, ⟨none, .store 19 (.t 7) (.t 45), none, 0⟩, ⟨some 8, .mv (.c (.bool true)), none, 0⟩] false []) .skip)))) (.region 0 [⟨some 46, .bin .add (.t 24) (.c (.int .i64 1)), none, 0⟩, ⟨some 24, .mv (.t 46), none, 0⟩] false []))))))) (.seq (.region 0 [⟨some 47, .load 19 true (.t 7), none, 0⟩, ⟨some 48, .mv (.t 8), none, 0⟩, ⟨none, .store 19 (.t 4) (.t 47), none, 0⟩, ⟨some 5, .mv (.t 48), none, 0⟩, ⟨some 6, .mv (.c (.int .i64 0)), none, 0⟩] false []) .ret)))))), false⟩
theorem c39 : cFunc Tryd.prog G f39 Tryd.f39 = some f39 := by kernel_rfl
/-- junctionbox/tally.give -/
def f41 : AFunc :=
⟨4, [], (.seq (.region 2 [⟨some 5, .box 58 18 (.t 1) [], none, 0⟩, ⟨some 7, .box 25 2 (.t 3) [], none, 1⟩] false []) (.seq (.region 0 [⟨some 11, .mv (.t 0), none, 0⟩, ⟨some 12, .nilck (.t 11), none, 0⟩, ⟨some 13, .faddr 1 (.t 12), none, 0⟩, ⟨some 8, .mv (.t 13), none, 0⟩] false []) (.seq (.seq (.region 0 [⟨some 14, .mv (.t 2), none, 0⟩] false []) (.cond (.t 14) (.seq (.region 0 [⟨some 16, .mv (.t 0), none, 0⟩, ⟨some 17, .nilck (.t 16), none, 0⟩, ⟨some 18, .faddr 0 (.t 17), none, 0⟩, ⟨some 19, .load 1 false (.t 18), none, 0⟩, ⟨some 20, .load 18 true (.t 5), none, 0⟩, ⟨some 21, .callR (.c (.clo 78 [])) [.t 19, .t 20, .c (.clo 79 [])] false, none, 0⟩, ⟨some 15, .mv (.t 21), none, 0⟩, ⟨some 22, .extr (.t 15) 0, none, 0⟩, ⟨some 23, .extr (.t 15) 1, none, 0⟩, ⟨some 9, .mv (.t 22), none, 0⟩, ⟨some 10, .mv (.t 23), none, 0⟩] true []) (.region 0 [⟨some 24, .mv (.t 0), none, 0⟩, ⟨some 25, .nilck (.t 24), none, 0⟩, ⟨some 26, .faddr 0 (.t 25), none, 0⟩, ⟨some 27, .load 1 false (.t 26), none, 0⟩, ⟨some 28, .mv (.t 9), none, 0⟩, ⟨some 29, .iaddr 20 none (.t 27) (.t 28), none, 0⟩, ⟨some 30, .faddr 18 (.t 29), none, 0⟩, ⟨some 8, .mv (.t 30), none, 0⟩] false [])) .skip)) (.region 0 [⟨some 31, .mv (.t 8), none, 0⟩, ⟨some 32, .mv (.t 8), none, 0⟩, ⟨some 33, .nilck (.t 32), none, 0⟩, ⟨some 34, .load 2 true (.t 33), none, 0⟩, ⟨some 35, .load 2 true (.t 7), none, 0⟩, ⟨some 36, .callV 51 [.t 34, .t 35] false, none, 0⟩, ⟨some 37, .nilck (.t 31), none, 0⟩, ⟨none, .store 2 (.t 37) (.t 36), none, 0⟩] true [])))), false⟩
theorem c41 : cFunc Tryd.prog G f41 Tryd.f41 = some f41 := by kernel_rfl
/-- junctionbox/junctionboxref31.Error -/
def f42 : AFunc :=
⟨3, [.t 6], (.seq (.region 3 [⟨some 3, .box 27 3 (.t 0) [], none, 0⟩, ⟨some 4, .box 30 1 (.t 1) [], none, 1⟩, ⟨some 5, .box 30 1 (.t 2) [], none, 2⟩, ⟨some 6, .mv (.c (.int .i64 0)), none, 0⟩] false []) (.seq (.seq (.region 0 [⟨some 7, .load 3 true (.t 3), none, 0⟩, ⟨some 8, .callV 25 [.t 7] false, none, 0⟩, ⟨some 9, .not (.t 8), none, 0⟩] false []) (.cond (.t 9) (.seq (.region 0 [⟨some 6, .mv (.c (.int .i64 410)), none, 0⟩] false []) .ret) .skip)) (.seq (.seq (.region 0 [⟨some 10, .load 1 true (.t 4), none, 0⟩, ⟨some 11, .callV 15 [.t 10] false, none, 0⟩, ⟨some 12, .not (.t 11), none, 0⟩, ⟨some 13, .mv (.t 12), none, 0⟩, ⟨some 14, .load 1 true (.t 5), some (13, false), 0⟩, ⟨some 15, .callV 15 [.t 14] false, some (13, false), 0⟩, ⟨some 16, .not (.t 15), some (13, false), 0⟩, ⟨some 17, .pick (.t 13) (.c (.bool true)) (.t 16), none, 0⟩] false []) (.cond (.t 17) (.seq (.region 0 [⟨some 6, .mv (.c (.int .i64 190)), none, 0⟩] false []) .ret) .skip)) (.seq (.seq (.region 0 [⟨some 18, .load 3 true (.t 3), none, 0⟩, ⟨some 19, .load 1 true (.t 4), none, 0⟩, ⟨some 20, .callV 80 [.t 18, .t 19] false, none, 0⟩, ⟨some 21, .not (.t 20), none, 0⟩] false []) (.cond (.t 21) (.seq (.region 0 [⟨some 6, .mv (.c (.int .i64 411)), none, 0⟩] false []) .ret) .skip)) (.seq (.region 0 [⟨some 6, .mv (.c (.int .i64 0)), none, 0⟩] false []) .ret))))), false⟩
theorem c42 : cFunc Tryd.prog G f42 Tryd.f42 = some f42 := by kernel_rfl
/-- junctionbox/junctionboxref05.RightAddr -/
def f43 : AFunc :=
⟨1, [.t 2], (.seq (.region 1 [⟨some 1, .box 33 17 (.t 0) [], none, 0⟩, ⟨some 2, .mv (.c (.bool false)), none, 0⟩] false []) (.seq (.region 0 [⟨some 5, .faddr 0 (.t 1), none, 0⟩, ⟨some 6, .load 1 false (.t 5), none, 0⟩, ⟨some 7, .callV 72 [.t 6] false, none, 0⟩, ⟨some 3, .mv (.t 7), none, 0⟩] false []) (.seq (.seq (.region 0 [⟨some 8, .mv (.t 3), none, 0⟩, ⟨some 4, .mv (.t 8), none, 0⟩] false []) (.block 0 (.loop [1, 3, 4] (.seq (.seq (.region 0 [⟨some 9, .mv (.t 4), none, 0⟩, ⟨some 10, .bin .lss (.t 9) (.c (.int .i64 128)), none, 0⟩] false []) (.cond (.t 10) .skip (.exit 0))) (.seq (.block 1 (.seq (.region 0 [⟨some 13, .faddr 1 (.t 1), none, 0⟩, ⟨some 14, .load 16 true (.t 13), none, 0⟩, ⟨some 15, .mv (.t 4), none, 0⟩, ⟨some 16, .callV 73 [.t 14, .t 15] false, none, 0⟩, ⟨some 17, .bin .eql (.t 16) (.c (.int .i64 1)), none, 0⟩] false []) (.cond (.t 17) (.seq (.region 0 [⟨some 2, .mv (.c (.bool false)), none, 0⟩] false []) .ret) .skip))) (.region 0 [⟨some 11, .mv (.t 4), none, 0⟩, ⟨some 12, .bin .add (.t 11) (.c (.int .i64 1)), none, 0⟩, ⟨some 4, .mv (.t 12), none, 0⟩] false [])))))) (.seq (.region 0 [⟨some 18, .mv (.t 3), none, 0⟩, ⟨some 19, .bin .gtr (.t 18) (.c (.int .i64 0)), none, 0⟩, ⟨some 2, .mv (.t 19), none, 0⟩] false []) .ret)))), false⟩
theorem c43 : cFunc Tryd.prog G f43 Tryd.f43 = some f43 := by kernel_rfl
/-- junctionbox/junctionboxref05.Has -/
def f44 : AFunc :=
⟨2, [.t 4], (.seq (.region 2 [⟨some 2, .box 58 18 (.t 0) [], none, 0⟩, ⟨some 3, .box 33 17 (.t 1) [], none, 1⟩, ⟨some 4, .mv (.c (.bool false)), none, 0⟩] false []) (.seq (.seq (.region 0 [⟨some 6, .load 18 true (.t 2), none, 0⟩, ⟨some 7, .callV 35 [.t 6] false, none, 0⟩, ⟨some 8, .not (.t 7), none, 0⟩, ⟨some 9, .mv (.t 8), none, 0⟩, ⟨some 10, .load 17 true (.t 3), some (9, false), 0⟩, ⟨some 11, .callV 43 [.t 10] false, some (9, false), 0⟩, ⟨some 12, .not (.t 11), some (9, false), 0⟩, ⟨some 13, .pick (.t 9) (.c (.bool true)) (.t 12), none, 0⟩, ⟨some 14, .mv (.t 13), none, 0⟩, ⟨some 15, .faddr 0 (.t 2), some (14, false), 0⟩, ⟨some 16, .faddr 0 (.t 15), some (14, false), 0⟩, ⟨some 17, .load 1 false (.t 16), some (14, false), 0⟩, ⟨some 18, .faddr 0 (.t 3), some (14, false), 0⟩, ⟨some 19, .load 1 false (.t 18), some (14, false), 0⟩, ⟨some 20, .bin .neq (.t 17) (.t 19), some (14, false), 0⟩, ⟨some 21, .pick (.t 14) (.c (.bool true)) (.t 20), none, 0⟩] false []) (.cond (.t 21) (.seq (.region 0 [⟨some 4, .mv (.c (.bool false)), none, 0⟩] false []) .ret) .skip)) (.seq (.seq (.region 0 [⟨some 5, .mv (.c (.int .i64 0)), none, 0⟩] false []) (.block 0 (.loop [2, 3, 5] (.seq (.seq (.region 0 [⟨some 22, .mv (.t 5), none, 0⟩, ⟨some 23, .faddr 17 (.t 2), none, 0⟩, ⟨some 24, .load 1 false (.t 23), none, 0⟩, ⟨some 25, .bin .lss (.t 22) (.t 24), none, 0⟩] false []) (.cond (.t 25) .skip (.exit 0))) (.seq (.block 1 (.seq (.region 0 [⟨some 28, .faddr 0 (.t 2), none, 0⟩, ⟨some 29, .faddr 1 (.t 28), none, 0⟩, ⟨some 30, .load 16 true (.t 29), none, 0⟩, ⟨some 31, .mv (.t 5), none, 0⟩, ⟨some 32, .callV 73 [.t 30, .t 31] false, none, 0⟩, ⟨some 33, .faddr 1 (.t 3), none, 0⟩, ⟨some 34, .load 16 true (.t 33), none, 0⟩, ⟨some 35, .mv (.t 5), none, 0⟩, ⟨some 36, .callV 73 [.t 34, .t 35] false, none, 0⟩, ⟨some 37, .bin .neq (.t 32) (.t 36), none, 0⟩] true []) (.cond (.t 37) (.seq (.region 0 [⟨some 4, .mv (.c (.bool false)), none, 0⟩] false []) .ret) .skip))) (.region 0 [⟨some 26, .mv (.t 5), none, 0⟩, ⟨some 27, .bin .add (.t 26) (.c (.int .i64 1)), none, 0⟩, ⟨some 5, .mv (.t 27), none, 0⟩] false [])))))) (.seq (.region 0 [⟨some 4, .mv (.c (.bool true)), none, 0⟩] false []) .ret)))), false⟩
theorem c44 : cFunc Tryd.prog G f44 Tryd.f44 = some f44 := by kernel_rfl
/-- junctionbox/junctionboxref31.Give -/
def f45 : AFunc :=
⟨3, [.cell 6 3 true], (.seq (.region 4 [⟨some 3, .box 27 3 (.t 0) [], none, 0⟩, ⟨some 5, .box 25 2 (.t 2) [], none, 1⟩, ⟨some 6, .alloc 27 [.clip [], .int .u64 0, .int .u64 0] [(0, 60, 20)], none, 2⟩] false []) (.seq (.region 3 [⟨some 10, .faddr 1 (.t 3), none, 0⟩, ⟨some 11, .load 2 true (.t 10), none, 0⟩, ⟨some 12, .build [.clip [], .int .u64 0, .int .u64 0] [(1, 2, .t 11)] [(0, 60, 20)], none, 0⟩, ⟨some 7, .alloc 27 [.clip [], .int .u64 0, .int .u64 0] [(0, 60, 20)], none, 1⟩, ⟨none, .store 3 (.t 7) (.t 12), none, 0⟩] false []) (.seq (.seq (.region 0 [⟨some 8, .mv (.c (.int .i64 0)), none, 0⟩] false []) (.block 0 (.loop [1, 3, 5, 6, 7, 8] (.seq (.seq (.region 0 [⟨some 13, .mv (.t 8), none, 0⟩, ⟨some 14, .faddr 0 (.t 3), none, 0⟩, ⟨some 15, .load 1 false (.t 14), none, 0⟩, ⟨some 16, .len (.t 15), none, 0⟩, ⟨some 17, .bin .lss (.t 13) (.t 16), none, 0⟩] false []) (.cond (.t 17) .skip (.exit 0))) (.seq (.block 1 (.seq (.region 1 [⟨some 20, .faddr 0 (.t 3), none, 0⟩, ⟨some 21, .load 1 false (.t 20), none, 0⟩, ⟨some 22, .mv (.t 8), none, 0⟩, ⟨some 23, .iaddr 20 none (.t 21) (.t 22), none, 0⟩, ⟨some 24, .load 20 true (.t 23), none, 0⟩, ⟨some 9, .alloc 60 [.int .i64 0, .int .u8 0, .int .u8 0, .int .u8 0, .int .u8 0, .int .u8 0, .int .u8 0, .int .u8 0, .int .u8 0, .int .u8 0, .int .u8 0, .int .u8 0, .int .u8 0, .int .u8 0, .int .u8 0, .int .u8 0, .int .u8 0, .int .i64 0, .int .u64 0, .int .u64 0] [], none, 0⟩, ⟨none, .store 20 (.t 9) (.t 24), none, 0⟩] false []) (.seq (.seq (.region 0 [⟨some 25, .mv (.t 8), none, 0⟩, ⟨some 26, .mv (.t 1), none, 0⟩, ⟨some 27, .bin .eql (.t 25) (.t 26), none, 0⟩] false []) (.cond (.t 27) (.region 0 [⟨some 28, .faddr 18 (.t 9), none, 0⟩, ⟨some 29, .load 2 true (.t 28), none, 0⟩, ⟨some 30, .load 2 true (.t 5), none, 0⟩, ⟨some 31, .callV 22 [.t 29, .t 30] false, none, 0⟩, ⟨some 32, .faddr 18 (.t 9), none, 0⟩, ⟨none, .store 2 (.t 32) (.t 31), none, 0⟩] false []) .skip)) (.region 2 [⟨some 33, .faddr 0 (.t 7), none, 0⟩, ⟨some 34, .load 1 false (.t 33), none, 0⟩, ⟨some 35, .load 20 true (.t 9), none, 0⟩, ⟨some 36, .buildSl 60 20 [.int .i64 0, .int .u8 0, .int .u8 0, .int .u8 0, .int .u8 0, .int .u8 0, .int .u8 0, .int .u8 0, .int .u8 0, .int .u8 0, .int .u8 0, .int .u8 0, .int .u8 0, .int .u8 0, .int .u8 0, .int .u8 0, .int .u8 0, .int .i64 0, .int .u64 0, .int .u64 0] 1 [(0, .t 35)] false, none, 0⟩, ⟨some 37, .append 60 20 48 (.t 34) (.t 36), none, 1⟩, ⟨some 38, .faddr 0 (.t 7), none, 0⟩, ⟨none, .store 1 (.t 38) (.t 37), none, 0⟩] false [])))) (.region 0 [⟨some 18, .mv (.t 8), none, 0⟩, ⟨some 19, .bin .add (.t 18) (.c (.int .i64 1)), none, 0⟩, ⟨some 8, .mv (.t 19), none, 0⟩] false [])))))) (.seq (.seq (.region 0 [⟨some 39, .mv (.t 1), none, 0⟩, ⟨some 40, .bin .lss (.t 39) (.c (.int .i64 0)), none, 0⟩] false []) (.cond (.t 40) (.region 0 [⟨some 41, .faddr 1 (.t 3), none, 0⟩, ⟨some 42, .load 2 true (.t 41), none, 0⟩, ⟨some 43, .load 2 true (.t 5), none, 0⟩, ⟨some 44, .callV 22 [.t 42, .t 43] false, none, 0⟩, ⟨some 45, .faddr 1 (.t 7), none, 0⟩, ⟨none, .store 2 (.t 45) (.t 44), none, 0⟩] false []) .skip)) (.seq (.region 0 [⟨some 46, .load 3 true (.t 7), none, 0⟩, ⟨none, .store 3 (.t 6) (.t 46), none, 0⟩] false []) .ret))))), false⟩
theorem c45 : cFunc Tryd.prog G f45 Tryd.f45 = some f45 := by kernel_rfl
/-- junctionbox/tally.zero -/
def f46 : AFunc :=
⟨1, [.cell 2 3 true], (.seq (.region 3 [⟨some 1, .box 30 1 (.t 0) [], none, 0⟩, ⟨some 2, .alloc 27 [.clip [], .int .u64 0, .int .u64 0] [(0, 60, 20)], none, 1⟩] false []) (.seq (.region 0 [⟨some 3, .faddr 0 (.t 1), none, 0⟩, ⟨some 4, .load 1 false (.t 3), none, 0⟩, ⟨some 5, .callR (.c (.clo 81 [])) [.t 4, .c (.clo 82 [])] true, none, 0⟩, ⟨some 6, .build [.clip [], .int .u64 0, .int .u64 0] [(0, 1, .t 5)] [], none, 0⟩, ⟨none, .store 3 (.t 2) (.t 6), none, 0⟩] false []) .ret)), true⟩
theorem c46 : cFunc Tryd.prog G f46 Tryd.f46 = some f46 := by kernel_rfl
/-- junctionbox/junctionboxref05.Compare -/
def f47 : AFunc :=
⟨2, [.t 4], (.seq (.region 2 [⟨some 2, .box 58 18 (.t 0) [], none, 0⟩, ⟨some 3, .box 58 18 (.t 1) [], none, 1⟩, ⟨some 4, .mv (.c (.int .i64 0)), none, 0⟩] false []) (.seq (.region 1 [⟨some 9, .faddr 0 (.t 2), none, 0⟩, ⟨some 10, .faddr 0 (.t 9), none, 0⟩, ⟨some 11, .load 1 false (.t 10), none, 0⟩, ⟨some 12, .buildSl 3 1 [.int .i64 0] 1 [(0, .t 11)] true, none, 0⟩, ⟨some 5, .mv (.t 12), none, 0⟩] false []) (.seq (.region 1 [⟨some 13, .faddr 0 (.t 3), none, 0⟩, ⟨some 14, .faddr 0 (.t 13), none, 0⟩, ⟨some 15, .load 1 false (.t 14), none, 0⟩, ⟨some 16, .buildSl 3 1 [.int .i64 0] 1 [(0, .t 15)] true, none, 0⟩, ⟨some 6, .mv (.t 16), none, 0⟩] false []) (.seq (.seq (.region 0 [⟨some 7, .mv (.c (.int .i64 0)), none, 0⟩] false []) (.block 0 (.loop [2, 3, 5, 6, 7] (.seq (.seq (.region 0 [⟨some 17, .mv (.t 7), none, 0⟩, ⟨some 18, .bin .lss (.t 17) (.c (.int .i64 16)), none, 0⟩] false []) (.cond (.t 18) .skip (.exit 0))) (.seq (.block 1 (.seq (.region 2 [⟨some 21, .mv (.t 5), none, 0⟩, ⟨some 22, .mv (.t 7), none, 0⟩, ⟨some 23, .faddr 0 (.t 2), none, 0⟩, ⟨some 24, .faddr 1 (.t 23), none, 0⟩, ⟨some 25, .iaddr 1 (some 16) (.t 24) (.t 22), none, 0⟩, ⟨some 26, .load 1 false (.t 25), none, 0⟩, ⟨some 27, .conv .i64 (.t 26), none, 0⟩, ⟨some 28, .buildSl 3 1 [.int .i64 0] 1 [(0, .t 27)] true, none, 0⟩, ⟨some 29, .append 3 1 8 (.t 21) (.t 28), none, 1⟩, ⟨some 5, .mv (.t 29), none, 0⟩] false []) (.region 2 [⟨some 30, .mv (.t 6), none, 0⟩, ⟨some 31, .mv (.t 7), none, 0⟩, ⟨some 32, .faddr 0 (.t 3), none, 0⟩, ⟨some 33, .faddr 1 (.t 32), none, 0⟩, ⟨some 34, .iaddr 1 (some 16) (.t 33) (.t 31), none, 0⟩, ⟨some 35, .load 1 false (.t 34), none, 0⟩, ⟨some 36, .conv .i64 (.t 35), none, 0⟩, ⟨some 37, .buildSl 3 1 [.int .i64 0] 1 [(0, .t 36)] true, none, 0⟩, ⟨some 38, .append 3 1 8 (.t 30) (.t 37), none, 1⟩, ⟨some 6, .mv (.t 38), none, 0⟩] false []))) (.region 0 [⟨some 19, .mv (.t 7), none, 0⟩, ⟨some 20, .bin .add (.t 19) (.c (.int .i64 1)), none, 0⟩, ⟨some 7, .mv (.t 20), none, 0⟩] false [])))))) (.seq (.region 2 [⟨some 39, .mv (.t 5), none, 0⟩, ⟨some 40, .faddr 17 (.t 2), none, 0⟩, ⟨some 41, .load 1 false (.t 40), none, 0⟩, ⟨some 42, .buildSl 3 1 [.int .i64 0] 1 [(0, .t 41)] true, none, 0⟩, ⟨some 43, .append 3 1 8 (.t 39) (.t 42), none, 1⟩, ⟨some 5, .mv (.t 43), none, 0⟩] false []) (.seq (.region 2 [⟨some 44, .mv (.t 6), none, 0⟩, ⟨some 45, .faddr 17 (.t 3), none, 0⟩, ⟨some 46, .load 1 false (.t 45), none, 0⟩, ⟨some 47, .buildSl 3 1 [.int .i64 0] 1 [(0, .t 46)] true, none, 0⟩, ⟨some 48, .append 3 1 8 (.t 44) (.t 47), none, 1⟩, ⟨some 6, .mv (.t 48), none, 0⟩] false []) (.seq (.seq (.region 0 [⟨some 8, .mv (.c (.int .i64 0)), none, 0⟩] false []) (.block 2 (.loop [5, 6, 8] (.seq (.seq (.region 0 [⟨some 49, .mv (.t 8), none, 0⟩, ⟨some 50, .mv (.t 5), none, 0⟩, ⟨some 51, .len (.t 50), none, 0⟩, ⟨some 52, .bin .lss (.t 49) (.t 51), none, 0⟩] false []) (.cond (.t 52) .skip (.exit 2))) (.seq (.block 3 (.seq (.seq (.region 0 [⟨some 55, .mv (.t 5), none, 0⟩, ⟨some 56, .mv (.t 8), none, 0⟩, ⟨some 57, .iaddr 1 none (.t 55) (.t 56), none, 0⟩, ⟨some 58, .load 1 false (.t 57), none, 0⟩, ⟨some 59, .mv (.t 6), none, 0⟩, ⟨some 60, .mv (.t 8), none, 0⟩, ⟨some 61, .iaddr 1 none (.t 59) (.t 60), none, 0⟩, ⟨some 62, .load 1 false (.t 61), none, 0⟩, ⟨some 63, .bin .lss (.t 58) (.t 62), none, 0⟩] true []) (.cond (.t 63) (.seq (.region 0 [⟨some 4, .mv (.c (.int .i64 (-1))), none, 0⟩] false []) .ret) .skip)) (.seq (.region 0 [⟨some 64, .mv (.t 5), none, 0⟩, ⟨some 65, .mv (.t 8), none, 0⟩, ⟨some 66, .iaddr 1 none (.t 64) (.t 65), none, 0⟩, ⟨some 67, .load 1 false (.t 66), none, 0⟩, ⟨some 68, .mv (.t 6), none, 0⟩, ⟨some 69, .mv (.t 8), none, 0⟩, ⟨some 70, .iaddr 1 none (.t 68) (.t 69), none, 0⟩, ⟨some 71, .load 1 false (.t 70), none, 0⟩, ⟨some 72, .bin .gtr (.t 67) (.t 71), none, 0⟩] true []) (.cond (.t 72) (.seq (.region 0 [⟨some 4, .mv (.c (.int .i64 1)), none, 0⟩] false []) .ret) .skip)))) (.region 0 [⟨some 53, .mv (.t 8), none, 0⟩, ⟨some 54, .bin .add (.t 53) (.c (.int .i64 1)), none, 0⟩, ⟨some 8, .mv (.t 54), none, 0⟩] false [])))))) (.seq (.region 0 [⟨some 4, .mv (.c (.int .i64 0)), none, 0⟩] false []) .ret)))))))), false⟩
theorem c47 : cFunc Tryd.prog G f47 Tryd.f47 = some f47 := by kernel_rfl
/-- junctionbox/tally.longest -/
def f48 : AFunc :=
⟨2, [.cell 4 18 true, .t 5], (.seq (.region 3 [⟨some 2, .box 30 1 (.t 0) [], none, 0⟩, ⟨some 3, .box 58 18 (.t 1) [], none, 1⟩, ⟨some 4, .alloc 58 [.int .i64 0, .int .u8 0, .int .u8 0, .int .u8 0, .int .u8 0, .int .u8 0, .int .u8 0, .int .u8 0, .int .u8 0, .int .u8 0, .int .u8 0, .int .u8 0, .int .u8 0, .int .u8 0, .int .u8 0, .int .u8 0, .int .u8 0, .int .i64 0] [], none, 2⟩, ⟨some 5, .mv (.c (.bool false)), none, 0⟩] false []) (.seq (.region 1 [⟨some 10, .build [.int .i64 0, .int .u8 0, .int .u8 0, .int .u8 0, .int .u8 0, .int .u8 0, .int .u8 0, .int .u8 0, .int .u8 0, .int .u8 0, .int .u8 0, .int .u8 0, .int .u8 0, .int .u8 0, .int .u8 0, .int .u8 0, .int .u8 0, .int .i64 0] [] [], none, 0⟩, ⟨some 6, .alloc 58 [.int .i64 0, .int .u8 0, .int .u8 0, .int .u8 0, .int .u8 0, .int .u8 0, .int .u8 0, .int .u8 0, .int .u8 0, .int .u8 0, .int .u8 0, .int .u8 0, .int .u8 0, .int .u8 0, .int .u8 0, .int .u8 0, .int .u8 0, .int .i64 0] [], none, 0⟩, ⟨none, .store 18 (.t 6) (.t 10), none, 0⟩, ⟨some 7, .mv (.c (.bool false)), none, 0⟩] false []) (.seq (.seq (.region 0 [⟨some 11, .faddr 0 (.t 2), none, 0⟩, ⟨some 12, .load 1 false (.t 11), none, 0⟩, ⟨some 13, .len (.t 12), none, 0⟩, ⟨some 14, .mv (.c (.int .i64 0)), none, 0⟩] false []) (.block 0 (.loop [3, 4, 6, 7, 12, 13, 14] (.seq (.region 0 [⟨some 15, .bin .lss (.t 14) (.t 13), none, 0⟩] false []) (.seq (.cond (.t 15) .skip (.exit 0)) (.seq (.block 1 (.seq (.region 1 [⟨some 16, .iaddr 19 none (.t 12) (.t 14), none, 0⟩, ⟨some 17, .load 19 true (.t 16), none, 0⟩, ⟨some 9, .alloc 85 [.int .i64 0, .int .u8 0, .int .u8 0, .int .u8 0, .int .u8 0, .int .u8 0, .int .u8 0, .int .u8 0, .int .u8 0, .int .u8 0, .int .u8 0, .int .u8 0, .int .u8 0, .int .u8 0, .int .u8 0, .int .u8 0, .int .u8 0, .int .i64 0, .int .i64 0] [], none, 0⟩, ⟨none, .store 19 (.t 9) (.t 17), none, 0⟩] false []) (.seq (.region 0 [⟨some 18, .faddr 0 (.t 9), none, 0⟩, ⟨some 19, .load 18 true (.t 18), none, 0⟩, ⟨some 20, .load 18 true (.t 3), none, 0⟩, ⟨some 21, .callV 71 [.t 19, .t 20] false, none, 0⟩, ⟨some 22, .mv (.t 21), none, 0⟩, ⟨some 23, .mv (.t 7), some (22, true), 0⟩, ⟨some 24, .not (.t 23), some (22, true), 0⟩, ⟨some 25, .mv (.t 24), some (22, true), 0⟩, ⟨some 26, .faddr 0 (.t 9), some (25, false), 0⟩, ⟨some 27, .faddr 17 (.t 26), some (25, false), 0⟩, ⟨some 28, .load 1 false (.t 27), some (25, false), 0⟩, ⟨some 29, .faddr 17 (.t 6), some (25, false), 0⟩, ⟨some 30, .load 1 false (.t 29), some (25, false), 0⟩, ⟨some 31, .bin .gtr (.t 28) (.t 30), some (25, false), 0⟩, ⟨some 32, .pick (.t 25) (.c (.bool true)) (.t 31), some (22, true), 0⟩, ⟨some 33, .pick (.t 22) (.t 32) (.c (.bool false)), none, 0⟩] false []) (.cond (.t 33) (.region 0 [⟨some 34, .faddr 0 (.t 9), none, 0⟩, ⟨some 35, .load 18 true (.t 34), none, 0⟩, ⟨none, .store 18 (.t 6) (.t 35), none, 0⟩, ⟨some 7, .mv (.c (.bool true)), none, 0⟩] false []) .skip)))) (.region 0 [⟨some 36, .bin .add (.t 14) (.c (.int .i64 1)), none, 0⟩, ⟨some 14, .mv (.t 36), none, 0⟩] false []))))))) (.seq (.region 0 [⟨some 37, .load 18 true (.t 6), none, 0⟩, ⟨some 38, .mv (.t 7), none, 0⟩, ⟨none, .store 18 (.t 4) (.t 37), none, 0⟩, ⟨some 5, .mv (.t 38), none, 0⟩] false []) .ret)))), false⟩
theorem c48 : cFunc Tryd.prog G f48 Tryd.f48 = some f48 := by kernel_rfl
/-- junctionbox/junctionboxref31.Longest -/
def f49 : AFunc :=
⟨2, [.t 4], (.seq (.region 2 [⟨some 2, .box 30 1 (.t 0) [], none, 0⟩, ⟨some 3, .box 58 18 (.t 1) [], none, 1⟩, ⟨some 4, .mv (.c (.int .i64 0)), none, 0⟩] false []) (.seq (.region 0 [⟨some 5, .mv (.c (.int .i64 (-1))), none, 0⟩] false []) (.seq (.seq (.region 0 [⟨some 6, .mv (.c (.int .i64 0)), none, 0⟩] false []) (.block 0 (.loop [2, 3, 5, 6] (.seq (.seq (.region 0 [⟨some 7, .mv (.t 6), none, 0⟩, ⟨some 8, .faddr 0 (.t 2), none, 0⟩, ⟨some 9, .load 1 false (.t 8), none, 0⟩, ⟨some 10, .len (.t 9), none, 0⟩, ⟨some 11, .bin .lss (.t 7) (.t 10), none, 0⟩] false []) (.cond (.t 11) .skip (.exit 0))) (.seq (.block 1 (.seq (.region 0 [⟨some 14, .faddr 0 (.t 2), none, 0⟩, ⟨some 15, .load 1 false (.t 14), none, 0⟩, ⟨some 16, .mv (.t 6), none, 0⟩, ⟨some 17, .iaddr 19 none (.t 15) (.t 16), none, 0⟩, ⟨some 18, .faddr 0 (.t 17), none, 0⟩, ⟨some 19, .load 18 true (.t 18), none, 0⟩, ⟨some 20, .load 18 true (.t 3), none, 0⟩, ⟨some 21, .callV 34 [.t 19, .t 20] false, none, 0⟩, ⟨some 22, .mv (.t 21), none, 0⟩, ⟨some 23, .mv (.t 5), some (22, true), 0⟩, ⟨some 24, .bin .lss (.t 23) (.c (.int .i64 0)), some (22, true), 0⟩, ⟨some 25, .mv (.t 24), some (22, true), 0⟩, ⟨some 26, .faddr 0 (.t 2), some (25, false), 0⟩, ⟨some 27, .load 1 false (.t 26), some (25, false), 0⟩, ⟨some 28, .mv (.t 6), some (25, false), 0⟩, ⟨some 29, .iaddr 19 none (.t 27) (.t 28), some (25, false), 0⟩, ⟨some 30, .faddr 0 (.t 29), some (25, false), 0⟩, ⟨some 31, .faddr 17 (.t 30), some (25, false), 0⟩, ⟨some 32, .load 1 false (.t 31), some (25, false), 0⟩, ⟨some 33, .faddr 0 (.t 2), some (25, false), 0⟩, ⟨some 34, .load 1 false (.t 33), some (25, false), 0⟩, ⟨some 35, .mv (.t 5), some (25, false), 0⟩, ⟨some 36, .iaddr 19 none (.t 34) (.t 35), some (25, false), 0⟩, ⟨some 37, .faddr 0 (.t 36), some (25, false), 0⟩, ⟨some 38, .faddr 17 (.t 37), some (25, false), 0⟩, ⟨some 39, .load 1 false (.t 38), some (25, false), 0⟩, ⟨some 40, .bin .gtr (.t 32) (.t 39), some (25, false), 0⟩, ⟨some 41, .pick (.t 25) (.c (.bool true)) (.t 40), some (22, true), 0⟩, ⟨some 42, .pick (.t 22) (.t 41) (.c (.bool false)), none, 0⟩] true []) (.cond (.t 42) (.region 0 [⟨some 43, .mv (.t 6), none, 0⟩, ⟨some 5, .mv (.t 43), none, 0⟩] false []) .skip))) (.region 0 [⟨some 12, .mv (.t 6), none, 0⟩, ⟨some 13, .bin .add (.t 12) (.c (.int .i64 1)), none, 0⟩, ⟨some 6, .mv (.t 13), none, 0⟩] false [])))))) (.seq (.region 0 [⟨some 44, .mv (.t 5), none, 0⟩, ⟨some 4, .mv (.t 44), none, 0⟩] false []) .ret)))), false⟩
theorem c49 : cFunc Tryd.prog G f49 Tryd.f49 = some f49 := by kernel_rfl
/-- (junctionbox/tally.count).right -/
def f50 : AFunc :=
⟨1, [.t 2], (.seq (.region 1 [⟨some 1, .box 100 2 (.t 0) [], none, 0⟩, ⟨some 2, .mv (.c (.bool false)), none, 0⟩] false []) (.seq (.region 0 [⟨some 3, .faddr 0 (.t 1), none, 0⟩, ⟨some 4, .load 1 false (.t 3), none, 0⟩, ⟨some 5, .bin .leq (.t 4) (.c (.int .u64 4611686018427387904)), none, 0⟩, ⟨some 6, .mv (.t 5), none, 0⟩, ⟨some 7, .faddr 1 (.t 1), some (6, true), 0⟩, ⟨some 8, .load 1 false (.t 7), some (6, true), 0⟩, ⟨some 9, .bin .leq (.t 8) (.c (.int .u64 4611686018427387904)), some (6, true), 0⟩, ⟨some 10, .pick (.t 6) (.t 9) (.c (.bool false)), none, 0⟩, ⟨some 2, .mv (.t 10), none, 0⟩] false []) .ret)), false⟩
theorem c50 : cFunc Tryd.prog G f50 Tryd.f50 = some f50 := by kernel_rfl
/-- (junctionbox/tally.count).plus -/
def f51 : AFunc :=
⟨2, [.cell 4 2 true], (.seq (.region 3 [⟨some 2, .box 100 2 (.t 0) [], none, 0⟩, ⟨some 3, .box 100 2 (.t 1) [], none, 1⟩, ⟨some 4, .alloc 100 [.int .u64 0, .int .u64 0] [], none, 2⟩] false []) (.seq (.region 0 [⟨some 5, .faddr 0 (.t 2), none, 0⟩, ⟨some 6, .load 1 false (.t 5), none, 0⟩, ⟨some 7, .faddr 0 (.t 3), none, 0⟩, ⟨some 8, .load 1 false (.t 7), none, 0⟩, ⟨some 9, .bin .add (.t 6) (.t 8), none, 0⟩, ⟨some 10, .min (.t 9) [.c (.int .u64 4611686018427387904)], none, 0⟩, ⟨some 11, .faddr 1 (.t 2), none, 0⟩, ⟨some 12, .load 1 false (.t 11), none, 0⟩, ⟨some 13, .faddr 1 (.t 3), none, 0⟩, ⟨some 14, .load 1 false (.t 13), none, 0⟩, ⟨some 15, .bin .add (.t 12) (.t 14), none, 0⟩, ⟨some 16, .min (.t 15) [.c (.int .u64 4611686018427387904)], none, 0⟩, ⟨some 17, .build [.int .u64 0, .int .u64 0] [(0, 1, .t 10), (1, 1, .t 16)] [], none, 0⟩, ⟨none, .store 2 (.t 4) (.t 17), none, 0⟩] false []) .ret)), false⟩
theorem c51 : cFunc Tryd.prog G f51 Tryd.f51 = some f51 := by kernel_rfl
/-- junctionbox/junctionboxref31.sum -/
def f52 : AFunc :=
⟨2, [.t 4], (.seq (.region 0 [⟨some 4, .mv (.c (.int .u64 0)), none, 0⟩] false []) (.seq (.seq (.region 0 [⟨some 5, .mv (.t 0), none, 0⟩, ⟨some 6, .mv (.t 1), none, 0⟩, ⟨some 7, .bin .add (.t 5) (.t 6), none, 0⟩, ⟨some 8, .bin .gtr (.t 7) (.c (.int .u64 4611686018427387904)), none, 0⟩] false []) (.cond (.t 8) (.seq (.region 0 [⟨some 4, .mv (.c (.int .u64 4611686018427387904)), none, 0⟩] false []) .ret) .skip)) (.seq (.region 0 [⟨some 9, .mv (.t 0), none, 0⟩, ⟨some 10, .mv (.t 1), none, 0⟩, ⟨some 11, .bin .add (.t 9) (.t 10), none, 0⟩, ⟨some 4, .mv (.t 11), none, 0⟩] false []) .ret))), false⟩
theorem c52 : cFunc Tryd.prog G f52 Tryd.f52 = some f52 := by kernel_rfl
/-- junctionbox/prefix.Check -/
def f57 : AFunc :=
⟨1, [.t 2], (.seq (.region 1 [⟨some 1, .box 58 18 (.t 0) [], none, 0⟩, ⟨some 2, .mv (.c (.int .i64 0)), none, 0⟩] false []) (.seq (.seq (.region 0 [⟨some 3, .faddr 0 (.t 1), none, 0⟩, ⟨some 4, .load 17 true (.t 3), none, 0⟩, ⟨some 5, .callV 76 [.t 4] false, none, 0⟩, ⟨some 6, .bin .neq (.t 5) (.c (.int .i64 0)), none, 0⟩, ⟨some 7, .mv (.t 6), none, 0⟩, ⟨some 8, .faddr 17 (.t 1), some (7, false), 0⟩, ⟨some 9, .load 1 false (.t 8), some (7, false), 0⟩, ⟨some 10, .bin .lss (.t 9) (.c (.int .i64 0)), some (7, false), 0⟩, ⟨some 11, .pick (.t 7) (.c (.bool true)) (.t 10), none, 0⟩, ⟨some 12, .mv (.t 11), none, 0⟩, ⟨some 13, .faddr 17 (.t 1), some (12, false), 0⟩, ⟨some 14, .load 1 false (.t 13), some (12, false), 0⟩, ⟨some 15, .faddr 0 (.t 1), some (12, false), 0⟩, ⟨some 16, .faddr 0 (.t 15), some (12, false), 0⟩, ⟨some 17, .load 1 false (.t 16), some (12, false), 0⟩, ⟨some 18, .callV 85 [.t 17] false, some (12, false), 0⟩, ⟨some 19, .bin .gtr (.t 14) (.t 18), some (12, false), 0⟩, ⟨some 20, .pick (.t 12) (.c (.bool true)) (.t 19), none, 0⟩, ⟨some 21, .mv (.t 20), none, 0⟩, ⟨some 22, .faddr 0 (.t 1), some (21, false), 0⟩, ⟨some 23, .faddr 1 (.t 22), some (21, false), 0⟩, ⟨some 24, .load 16 true (.t 23), some (21, false), 0⟩, ⟨some 25, .faddr 17 (.t 1), some (21, false), 0⟩, ⟨some 26, .load 1 false (.t 25), some (21, false), 0⟩, ⟨some 27, .callV 86 [.t 24, .t 26] false, some (21, false), 0⟩, ⟨some 28, .not (.t 27), some (21, false), 0⟩, ⟨some 29, .pick (.t 21) (.c (.bool true)) (.t 28), none, 0⟩] true []) (.cond (.t 29) (.seq (.region 0 [⟨some 2, .mv (.c (.int .i64 151)), none, 0⟩] false []) .ret) .skip)) (.seq (.region 0 [⟨some 2, .mv (.c (.int .i64 0)), none, 0⟩] false []) .ret))), false⟩
theorem c57 : cFunc Tryd.prog G f57 Tryd.f57 = some f57 := by kernel_rfl
/-- junctionbox/table.hop -/
def f58 : AFunc :=
⟨1, [.t 2], (.seq (.region 0 [⟨some 2, .mv (.c (.bool false)), none, 0⟩] false []) (.seq (.region 0 [⟨some 3, .mv (.t 0), none, 0⟩, ⟨some 4, .bin .geq (.t 3) (.c (.int .i64 1)), none, 0⟩, ⟨some 5, .mv (.t 4), none, 0⟩, ⟨some 6, .mv (.t 0), some (5, true), 0⟩, ⟨some 7, .bin .leq (.t 6) (.c (.int .i64 255)), some (5, true), 0⟩, ⟨some 8, .pick (.t 5) (.t 7) (.c (.bool false)), none, 0⟩, ⟨some 2, .mv (.t 8), none, 0⟩] false []) .ret)), false⟩
theorem c58 : cFunc Tryd.prog G f58 Tryd.f58 = some f58 := by kernel_rfl
/-- (junctionbox/table.row).against -/
def f59 : AFunc :=
⟨2, [.t 4], (.seq (.region 2 [⟨some 2, .box 108 19 (.t 0) [], none, 0⟩, ⟨some 3, .box 58 18 (.t 1) [], none, 1⟩, ⟨some 4, .mv (.c (.int .i64 0)), none, 0⟩] false []) (.seq (.region 0 [⟨some 5, .faddr 0 (.t 2), none, 0⟩, ⟨some 6, .load 18 true (.t 5), none, 0⟩, ⟨some 7, .load 18 true (.t 3), none, 0⟩, ⟨some 8, .callV 66 [.t 6, .t 7] false, none, 0⟩, ⟨some 4, .mv (.t 8), none, 0⟩] false []) .ret)), false⟩
theorem c59 : cFunc Tryd.prog G f59 Tryd.f59 = some f59 := by kernel_rfl
/-- junctionbox/table.place -/
def f61 : AFunc :=
⟨2, [.t 4, .t 5], (.seq (.region 2 [⟨some 2, .box 30 1 (.t 0) [], none, 0⟩, ⟨some 3, .box 58 18 (.t 1) [], none, 1⟩, ⟨some 4, .mv (.c (.int .i64 0)), none, 0⟩, ⟨some 5, .mv (.c (.bool false)), none, 0⟩] false []) (.seq (.region 0 [⟨some 6, .faddr 0 (.t 2), none, 0⟩, ⟨some 7, .load 1 false (.t 6), none, 0⟩, ⟨some 8, .load 18 true (.t 3), none, 0⟩, ⟨some 9, .callR (.c (.clo 87 [])) [.t 7, .t 8, .c (.clo 88 [])] false, none, 0⟩, ⟨some 10, .extr (.t 9) 0, none, 0⟩, ⟨some 11, .extr (.t 9) 1, none, 0⟩, ⟨some 4, .mv (.t 10), none, 0⟩, ⟨some 5, .mv (.t 11), none, 0⟩] false []) .ret)), false⟩
theorem c61 : cFunc Tryd.prog G f61 Tryd.f61 = some f61 := by kernel_rfl
/-- slices.Delete[[]junctionbox/api.Row,junctionbox/api.Row] -/
def f64 : AFunc :=
⟨3, [.t 6], (.seq (.region 1 [⟨some 6, .newl 85 19, none, 0⟩] false []) (.seq (.region 0 [⟨some 8, .mv (.t 0), none, 0⟩, ⟨some 9, .mv (.t 1), none, 0⟩, ⟨some 10, .mv (.t 2), none, 0⟩, ⟨some 11, .mv (.t 0), none, 0⟩, ⟨some 12, .len (.t 11), none, 0⟩, ⟨some 13, .sliceL 1 19 (.t 8) (some (.t 9)) (some (.t 10)) (some (.t 12)), none, 0⟩] false []) (.seq (.seq (.region 0 [⟨some 14, .mv (.t 1), none, 0⟩, ⟨some 15, .mv (.t 2), none, 0⟩, ⟨some 16, .bin .eql (.t 14) (.t 15), none, 0⟩] false []) (.cond (.t 16) (.seq (.region 0 [⟨some 17, .mv (.t 0), none, 0⟩, ⟨some 6, .mv (.t 17), none, 0⟩] false []) .ret) .skip)) (.seq (.region 0 [⟨some 18, .mv (.t 0), none, 0⟩, ⟨some 19, .len (.t 18), none, 0⟩, ⟨some 7, .mv (.t 19), none, 0⟩] false []) (.seq (.region 0 [⟨some 20, .mv (.t 0), none, 0⟩, ⟨some 21, .mv (.t 1), none, 0⟩, ⟨some 22, .slice 19 (.t 20) none (some (.t 21)) none, none, 0⟩, ⟨some 23, .mv (.t 0), none, 0⟩, ⟨some 24, .mv (.t 2), none, 0⟩, ⟨some 25, .slice 19 (.t 23) (some (.t 24)) none none, none, 0⟩, ⟨some 26, .appIn 85 19 (.t 22) (.t 25), none, 0⟩, ⟨some 0, .mv (.t 26), none, 0⟩] true []) (.seq (.region 0 [⟨some 27, .mv (.t 0), none, 0⟩, ⟨some 28, .mv (.t 0), none, 0⟩, ⟨some 29, .len (.t 28), none, 0⟩, ⟨some 30, .mv (.t 7), none, 0⟩, ⟨some 31, .sliceL 2 19 (.t 27) (some (.t 29)) (some (.t 30)) none, none, 0⟩, ⟨none, .clear [.int .i64 0, .int .u8 0, .int .u8 0, .int .u8 0, .int .u8 0, .int .u8 0, .int .u8 0, .int .u8 0, .int .u8 0, .int .u8 0, .int .u8 0, .int .u8 0, .int .u8 0, .int .u8 0, .int .u8 0, .int .u8 0, .int .u8 0, .int .i64 0, .int .i64 0] (.t 31), none, 0⟩] false []) (.seq (.region 0 [⟨some 32, .mv (.t 0), none, 0⟩, ⟨some 6, .mv (.t 32), none, 0⟩] false []) .ret))))))), false⟩
theorem c64 : cFunc Tryd.prog G f64 Tryd.f64 = some f64 := by kernel_rfl
/-- junctionbox/tally.all -/
def f65 : AFunc :=
⟨1, [.t 2], (.seq (.region 1 [⟨some 1, .box 27 3 (.t 0) [], none, 0⟩, ⟨some 2, .mv (.c (.nilf)), none, 0⟩] false []) (.seq (.region 0 [⟨some 3, .clo 91 [.t 1], none, 0⟩, ⟨some 2, .mv (.t 3), none, 0⟩] false []) .ret)), false⟩
theorem c65 : cFunc Tryd.prog G f65 Tryd.f65 = some f65 := by kernel_rfl
/-- junctionbox/prefix.Compare -/
def f66 : AFunc :=
⟨2, [.t 4], (.seq (.region 2 [⟨some 2, .box 58 18 (.t 0) [], none, 0⟩, ⟨some 3, .box 58 18 (.t 1) [], none, 1⟩, ⟨some 4, .mv (.c (.int .i64 0)), none, 0⟩] false []) (.seq (.region 1 [⟨some 5, .faddr 0 (.t 2), none, 0⟩, ⟨some 6, .faddr 0 (.t 5), none, 0⟩, ⟨some 7, .load 1 false (.t 6), none, 0⟩, ⟨some 8, .faddr 0 (.t 3), none, 0⟩, ⟨some 9, .faddr 0 (.t 8), none, 0⟩, ⟨some 10, .load 1 false (.t 9), none, 0⟩, ⟨some 11, .callV 92 [.t 7, .t 10] false, none, 0⟩, ⟨some 12, .faddr 0 (.t 2), none, 0⟩, ⟨some 13, .faddr 1 (.t 12), none, 0⟩, ⟨some 14, .slarr 1 16 (.t 13) none none, none, 0⟩, ⟨some 15, .faddr 0 (.t 3), none, 0⟩, ⟨some 16, .faddr 1 (.t 15), none, 0⟩, ⟨some 17, .slarr 1 16 (.t 16) none none, none, 0⟩, ⟨some 18, .callV 93 [.t 14, .t 17] false, none, 0⟩, ⟨some 19, .faddr 17 (.t 2), none, 0⟩, ⟨some 20, .load 1 false (.t 19), none, 0⟩, ⟨some 21, .faddr 17 (.t 3), none, 0⟩, ⟨some 22, .load 1 false (.t 21), none, 0⟩, ⟨some 23, .callV 92 [.t 20, .t 22] false, none, 0⟩, ⟨some 24, .buildSl 3 1 [.int .i64 0] 3 [(0, .t 11), (1, .t 18), (2, .t 23)] false, none, 0⟩, ⟨some 25, .callV 69 [.t 24] false, none, 0⟩, ⟨some 4, .mv (.t 25), none, 0⟩] true []) .ret)), false⟩
theorem c66 : cFunc Tryd.prog G f66 Tryd.f66 = some f66 := by kernel_rfl
/-- cmp.Or[int] -/
def f69 : AFunc :=
⟨1, [.t 2], (.seq (.region 0 [⟨some 2, .mv (.c (.int .i64 0)), none, 0⟩] false []) (.seq (.region 0 [⟨some 3, .mv (.c (.int .i64 0)), none, 0⟩] false []) (.seq (.seq (.region 0 [⟨some 6, .mv (.t 0), none, 0⟩, ⟨some 7, .len (.t 6), none, 0⟩, ⟨some 8, .mv (.c (.int .i64 0)), none, 0⟩] false []) (.block 0 (.loop [3, 6, 7, 8] (.seq (.region 0 [⟨some 9, .bin .lss (.t 8) (.t 7), none, 0⟩] false []) (.seq (.cond (.t 9) .skip (.exit 0)) (.seq (.block 1 (.seq (.region 0 [⟨some 10, .iaddr 1 none (.t 6) (.t 8), none, 0⟩, ⟨some 11, .load 1 false (.t 10), none, 0⟩, ⟨some 5, .mv (.t 11), none, 0⟩] false []) (.seq (.region 0 [⟨some 12, .mv (.t 5), none, 0⟩, ⟨some 13, .mv (.t 3), none, 0⟩, ⟨some 14, .bin .neq (.t 12) (.t 13), none, 0⟩] false []) (.cond (.t 14) (.seq (.region 0 [⟨some 15, .mv (.t 5), none, 0⟩, ⟨some 2, .mv (.t 15), none, 0⟩] false []) .ret) .skip)))) (.region 0 [⟨some 16, .bin .add (.t 8) (.c (.int .i64 1)), none, 0⟩, ⟨some 8, .mv (.t 16), none, 0⟩] false []))))))) (.seq (.region 0 [⟨some 17, .mv (.t 3), none, 0⟩, ⟨some 2, .mv (.t 17), none, 0⟩] false []) .ret)))), false⟩
theorem c69 : cFunc Tryd.prog G f69 Tryd.f69 = some f69 := by kernel_rfl
/-- junctionbox/prefix.Holds -/
def f71 : AFunc :=
⟨2, [.t 4], (.seq (.region 2 [⟨some 2, .box 58 18 (.t 0) [], none, 0⟩, ⟨some 3, .box 58 18 (.t 1) [], none, 1⟩, ⟨some 4, .mv (.c (.bool false)), none, 0⟩] false []) (.seq (.region 0 [⟨some 5, .load 18 true (.t 3), none, 0⟩, ⟨some 6, .callV 57 [.t 5] false, none, 0⟩, ⟨some 7, .bin .eql (.t 6) (.c (.int .i64 0)), none, 0⟩, ⟨some 8, .mv (.t 7), none, 0⟩, ⟨some 9, .faddr 17 (.t 3), some (8, true), 0⟩, ⟨some 10, .load 1 false (.t 9), some (8, true), 0⟩, ⟨some 11, .faddr 17 (.t 2), some (8, true), 0⟩, ⟨some 12, .load 1 false (.t 11), some (8, true), 0⟩, ⟨some 13, .bin .geq (.t 10) (.t 12), some (8, true), 0⟩, ⟨some 14, .pick (.t 8) (.t 13) (.c (.bool false)), none, 0⟩, ⟨some 15, .mv (.t 14), none, 0⟩, ⟨some 16, .load 18 true (.t 2), some (15, true), 0⟩, ⟨some 17, .faddr 0 (.t 3), some (15, true), 0⟩, ⟨some 18, .load 17 true (.t 17), some (15, true), 0⟩, ⟨some 19, .callV 77 [.t 16, .t 18] false, some (15, true), 0⟩, ⟨some 20, .pick (.t 15) (.t 19) (.c (.bool false)), none, 0⟩, ⟨some 4, .mv (.t 20), none, 0⟩] false []) .ret)), false⟩
theorem c71 : cFunc Tryd.prog G f71 Tryd.f71 = some f71 := by kernel_rfl
/-- junctionbox/junctionboxref05.Width -/
def f72 : AFunc :=
⟨1, [.t 2], (.seq (.region 0 [⟨some 2, .mv (.c (.int .i64 0)), none, 0⟩] false []) (.seq (.seq (.region 0 [⟨some 3, .mv (.t 0), none, 0⟩, ⟨some 4, .bin .eql (.t 3) (.c (.int .i64 4)), none, 0⟩] false []) (.cond (.t 4) (.seq (.region 0 [⟨some 2, .mv (.c (.int .i64 32)), none, 0⟩] false []) .ret) .skip)) (.seq (.seq (.region 0 [⟨some 5, .mv (.t 0), none, 0⟩, ⟨some 6, .bin .eql (.t 5) (.c (.int .i64 6)), none, 0⟩] false []) (.cond (.t 6) (.seq (.region 0 [⟨some 2, .mv (.c (.int .i64 128)), none, 0⟩] false []) .ret) .skip)) (.seq (.region 0 [⟨some 2, .mv (.c (.int .i64 0)), none, 0⟩] false []) .ret)))), false⟩
theorem c72 : cFunc Tryd.prog G f72 Tryd.f72 = some f72 := by kernel_rfl
/-- junctionbox/junctionboxref05.at -/
def f73 : AFunc :=
⟨2, [.t 4], (.seq (.region 1 [⟨some 2, .box 31 16 (.t 0) [], none, 0⟩, ⟨some 4, .mv (.c (.int .i64 0)), none, 0⟩] false []) (.seq (.region 0 [⟨some 5, .mv (.t 1), none, 0⟩, ⟨some 6, .bin .quo (.t 5) (.c (.int .i64 8)), none, 0⟩, ⟨some 7, .iaddr 1 (some 16) (.t 2) (.t 6), none, 0⟩, ⟨some 8, .load 1 false (.t 7), none, 0⟩, ⟨some 9, .conv .i64 (.t 8), none, 0⟩, ⟨some 10, .mv (.t 1), none, 0⟩, ⟨some 11, .bin .rem (.t 10) (.c (.int .i64 8)), none, 0⟩, ⟨some 12, .bin .sub (.c (.int .i64 7)) (.t 11), none, 0⟩, ⟨some 13, .conv .u64 (.t 12), none, 0⟩, ⟨some 14, .bin .shr (.t 9) (.t 13), none, 0⟩, ⟨some 15, .bin .rem (.t 14) (.c (.int .i64 2)), none, 0⟩, ⟨some 4, .mv (.t 15), none, 0⟩] false []) .ret)), false⟩
theorem c73 : cFunc Tryd.prog G f73 Tryd.f73 = some f73 := by kernel_rfl
/-- junctionbox/tally.of -/
def f75 : AFunc :=
⟨2, [.t 4], (.seq (.region 2 [⟨some 2, .box 27 3 (.t 0) [], none, 0⟩, ⟨some 3, .box 30 1 (.t 1) [], none, 1⟩, ⟨some 4, .mv (.c (.bool false)), none, 0⟩] false []) (.seq (.region 0 [⟨some 5, .faddr 0 (.t 2), none, 0⟩, ⟨some 6, .load 1 false (.t 5), none, 0⟩, ⟨some 7, .faddr 0 (.t 3), none, 0⟩, ⟨some 8, .load 1 false (.t 7), none, 0⟩, ⟨some 9, .callR (.c (.clo 97 [])) [.t 6, .t 8, .c (.clo 98 [])] false, none, 0⟩, ⟨some 4, .mv (.t 9), none, 0⟩] false []) .ret)), false⟩
theorem c75 : cFunc Tryd.prog G f75 Tryd.f75 = some f75 := by kernel_rfl
end Go.Proofs.YtdllnneeopbmdaaDoor.F

/- Functions in the evaluator's form, 3. No condition. -/
namespace Go.Proofs.YtdllnneeopbmdaaDoor.F
open Go Go.Proofs.YtdllnneeopbmdaaDoor.A
/-- junctionbox/prefix.CheckAddr -/
def f76 : AFunc :=
⟨1, [.t 2], (.seq (.region 1 [⟨some 1, .box 33 17 (.t 0) [], none, 0⟩, ⟨some 2, .mv (.c (.int .i64 0)), none, 0⟩] false []) (.seq (.seq (.region 0 [⟨some 4, .faddr 0 (.t 1), none, 0⟩, ⟨some 5, .load 1 false (.t 4), none, 0⟩, ⟨some 6, .callV 85 [.t 5] false, none, 0⟩, ⟨some 3, .mv (.t 6), none, 0⟩] false []) (.seq (.region 0 [⟨some 7, .mv (.t 3), none, 0⟩, ⟨some 8, .bin .eql (.t 7) (.c (.int .i64 0)), none, 0⟩, ⟨some 9, .mv (.t 8), none, 0⟩, ⟨some 10, .faddr 1 (.t 1), some (9, false), 0⟩, ⟨some 11, .load 16 true (.t 10), some (9, false), 0⟩, ⟨some 12, .mv (.t 3), some (9, false), 0⟩, ⟨some 13, .callV 86 [.t 11, .t 12] false, some (9, false), 0⟩, ⟨some 14, .not (.t 13), some (9, false), 0⟩, ⟨some 15, .pick (.t 9) (.c (.bool true)) (.t 14), none, 0⟩] false []) (.cond (.t 15) (.seq (.region 0 [⟨some 2, .mv (.c (.int .i64 150)), none, 0⟩] false []) .ret) .skip))) (.seq (.region 0 [⟨some 2, .mv (.c (.int .i64 0)), none, 0⟩] false []) .ret))), false⟩
theorem c76 : cFunc Tryd.prog G f76 Tryd.f76 = some f76 := by kernel_rfl
/-- junctionbox/prefix.Has -/
def f77 : AFunc :=
⟨2, [.t 4], (.seq (.region 2 [⟨some 2, .box 58 18 (.t 0) [], none, 0⟩, ⟨some 3, .box 33 17 (.t 1) [], none, 1⟩, ⟨some 4, .mv (.c (.bool false)), none, 0⟩] false []) (.seq (.seq (.region 0 [⟨some 5, .load 18 true (.t 2), none, 0⟩, ⟨some 6, .callV 57 [.t 5] false, none, 0⟩, ⟨some 7, .bin .neq (.t 6) (.c (.int .i64 0)), none, 0⟩, ⟨some 8, .mv (.t 7), none, 0⟩, ⟨some 9, .load 17 true (.t 3), some (8, false), 0⟩, ⟨some 10, .callV 76 [.t 9] false, some (8, false), 0⟩, ⟨some 11, .bin .neq (.t 10) (.c (.int .i64 0)), some (8, false), 0⟩, ⟨some 12, .pick (.t 8) (.c (.bool true)) (.t 11), none, 0⟩, ⟨some 13, .mv (.t 12), none, 0⟩, ⟨some 14, .faddr 0 (.t 2), some (13, false), 0⟩, ⟨some 15, .faddr 0 (.t 14), some (13, false), 0⟩, ⟨some 16, .load 1 false (.t 15), some (13, false), 0⟩, ⟨some 17, .faddr 0 (.t 3), some (13, false), 0⟩, ⟨some 18, .load 1 false (.t 17), some (13, false), 0⟩, ⟨some 19, .bin .neq (.t 16) (.t 18), some (13, false), 0⟩, ⟨some 20, .pick (.t 13) (.c (.bool true)) (.t 19), none, 0⟩] false []) (.cond (.t 20) (.seq (.region 0 [⟨some 4, .mv (.c (.bool false)), none, 0⟩] false []) .ret) .skip)) (.seq (.region 0 [⟨some 21, .faddr 1 (.t 3), none, 0⟩, ⟨some 22, .load 16 true (.t 21), none, 0⟩, ⟨some 23, .faddr 17 (.t 2), none, 0⟩, ⟨some 24, .load 1 false (.t 23), none, 0⟩, ⟨some 25, .callV 99 [.t 22, .t 24] false, none, 0⟩, ⟨some 26, .faddr 0 (.t 2), none, 0⟩, ⟨some 27, .faddr 1 (.t 26), none, 0⟩, ⟨some 28, .load 16 true (.t 27), none, 0⟩, ⟨some 29, .eqagg false [1, 1, 1, 1, 1, 1, 1, 1, 1, 1, 1, 1, 1, 1, 1, 1] (.t 25) (.t 28), none, 0⟩, ⟨some 4, .mv (.t 29), none, 0⟩] true []) .ret))), false⟩
theorem c77 : cFunc Tryd.prog G f77 Tryd.f77 = some f77 := by kernel_rfl
/-- slices.BinarySearchFunc[[]junctionbox/api.Counted,junctionbox/api.Counted,junctionbox/api.Prefix] -/
def f78 : AFunc :=
⟨3, [.t 6, .t 7], (.seq (.region 1 [⟨some 4, .box 58 18 (.t 1) [], none, 0⟩, ⟨some 6, .mv (.c (.int .i64 0)), none, 0⟩, ⟨some 7, .mv (.c (.bool false)), none, 0⟩] false []) (.seq (.region 0 [⟨some 12, .mv (.t 0), none, 0⟩, ⟨some 13, .len (.t 12), none, 0⟩, ⟨some 8, .mv (.t 13), none, 0⟩] false []) (.seq (.region 0 [⟨some 14, .mv (.t 8), none, 0⟩, ⟨some 9, .mv (.c (.int .i64 0)), none, 0⟩, ⟨some 10, .mv (.t 14), none, 0⟩] false []) (.seq (.block 0 (.loop [0, 2, 4, 8, 9, 10] (.seq (.seq (.region 0 [⟨some 15, .mv (.t 9), none, 0⟩, ⟨some 16, .mv (.t 10), none, 0⟩, ⟨some 17, .bin .lss (.t 15) (.t 16), none, 0⟩] false []) (.cond (.t 17) .skip (.exit 0))) (.block 1 (.seq (.region 0 [⟨some 18, .mv (.t 9), none, 0⟩, ⟨some 19, .mv (.t 10), none, 0⟩, ⟨some 20, .bin .add (.t 18) (.t 19), none, 0⟩, ⟨some 21, .conv .u64 (.t 20), none, 0⟩, ⟨some 22, .bin .shr (.t 21) (.c (.int .u64 1)), none, 0⟩, ⟨some 23, .conv .i64 (.t 22), none, 0⟩, ⟨some 11, .mv (.t 23), none, 0⟩] false []) (.seq (.region 0 [⟨some 24, .mv (.t 2), none, 0⟩, ⟨some 25, .mv (.t 0), none, 0⟩, ⟨some 26, .mv (.t 11), none, 0⟩, ⟨some 27, .iaddr 20 none (.t 25) (.t 26), none, 0⟩, ⟨some 28, .load 20 true (.t 27), none, 0⟩, ⟨some 29, .load 18 true (.t 4), none, 0⟩, ⟨some 30, .callR (.t 24) [.t 28, .t 29] false, none, 0⟩, ⟨some 31, .bin .lss (.t 30) (.c (.int .i64 0)), none, 0⟩] true []) (.cond (.t 31) (.region 0 [⟨some 32, .mv (.t 11), none, 0⟩, ⟨some 33, .bin .add (.t 32) (.c (.int .i64 1)), none, 0⟩, ⟨some 9, .mv (.t 33), none, 0⟩] false []) (.region 0 [⟨some 34, .mv (.t 11), none, 0⟩, ⟨some 10, .mv (.t 34), none, 0⟩] false [])))))))) (.seq (.region 0 [⟨some 35, .mv (.t 9), none, 0⟩, ⟨some 36, .mv (.t 9), none, 0⟩, ⟨some 37, .mv (.t 8), none, 0⟩, ⟨some 38, .bin .lss (.t 36) (.t 37), none, 0⟩, ⟨some 39, .mv (.t 38), none, 0⟩, ⟨some 40, .mv (.t 2), some (39, true), 0⟩, ⟨some 41, .mv (.t 0), some (39, true), 0⟩, ⟨some 42, .mv (.t 9), some (39, true), 0⟩, ⟨some 43, .iaddr 20 none (.t 41) (.t 42), some (39, true), 0⟩, ⟨some 44, .load 20 true (.t 43), some (39, true), 0⟩, ⟨some 45, .load 18 true (.t 4), some (39, true), 0⟩, ⟨some 46, .callR (.t 40) [.t 44, .t 45] false, some (39, true), 0⟩, ⟨some 47, .bin .eql (.t 46) (.c (.int .i64 0)), some (39, true), 0⟩, ⟨some 48, .pick (.t 39) (.t 47) (.c (.bool false)), none, 0⟩, ⟨some 6, .mv (.t 35), none, 0⟩, ⟨some 7, .mv (.t 48), none, 0⟩] true []) .ret))))), false⟩
theorem c78 : cFunc Tryd.prog G f78 Tryd.f78 = some f78 := by kernel_rfl
/-- junctionbox/tally.give$1 -/
def f79 : AFunc :=
⟨2, [.t 4], (.seq (.region 2 [⟨some 2, .box 60 20 (.t 0) [], none, 0⟩, ⟨some 3, .box 58 18 (.t 1) [], none, 1⟩, ⟨some 4, .mv (.c (.int .i64 0)), none, 0⟩] false []) (.seq (.region 0 [⟨some 5, .faddr 0 (.t 2), none, 0⟩, ⟨some 6, .load 18 true (.t 5), none, 0⟩, ⟨some 7, .load 18 true (.t 3), none, 0⟩, ⟨some 8, .callV 66 [.t 6, .t 7] false, none, 0⟩, ⟨some 4, .mv (.t 8), none, 0⟩] false []) .ret)), false⟩
theorem c79 : cFunc Tryd.prog G f79 Tryd.f79 = some f79 := by kernel_rfl
/-- junctionbox/junctionboxref31.Of -/
def f80 : AFunc :=
⟨2, [.t 4], (.seq (.region 2 [⟨some 2, .box 27 3 (.t 0) [], none, 0⟩, ⟨some 3, .box 30 1 (.t 1) [], none, 1⟩, ⟨some 4, .mv (.c (.bool false)), none, 0⟩] false []) (.seq (.seq (.region 0 [⟨some 6, .faddr 0 (.t 2), none, 0⟩, ⟨some 7, .load 1 false (.t 6), none, 0⟩, ⟨some 8, .len (.t 7), none, 0⟩, ⟨some 9, .faddr 0 (.t 3), none, 0⟩, ⟨some 10, .load 1 false (.t 9), none, 0⟩, ⟨some 11, .len (.t 10), none, 0⟩, ⟨some 12, .bin .neq (.t 8) (.t 11), none, 0⟩] false []) (.cond (.t 12) (.seq (.region 0 [⟨some 4, .mv (.c (.bool false)), none, 0⟩] false []) .ret) .skip)) (.seq (.seq (.region 0 [⟨some 5, .mv (.c (.int .i64 0)), none, 0⟩] false []) (.block 0 (.loop [2, 3, 5] (.seq (.seq (.region 0 [⟨some 13, .mv (.t 5), none, 0⟩, ⟨some 14, .faddr 0 (.t 2), none, 0⟩, ⟨some 15, .load 1 false (.t 14), none, 0⟩, ⟨some 16, .len (.t 15), none, 0⟩, ⟨some 17, .bin .lss (.t 13) (.t 16), none, 0⟩] false []) (.cond (.t 17) .skip (.exit 0))) (.seq (.block 1 (.seq (.region 0 [⟨some 20, .faddr 0 (.t 2), none, 0⟩, ⟨some 21, .load 1 false (.t 20), none, 0⟩, ⟨some 22, .mv (.t 5), none, 0⟩, ⟨some 23, .iaddr 20 none (.t 21) (.t 22), none, 0⟩, ⟨some 24, .faddr 0 (.t 23), none, 0⟩, ⟨some 25, .load 18 true (.t 24), none, 0⟩, ⟨some 26, .faddr 0 (.t 3), none, 0⟩, ⟨some 27, .load 1 false (.t 26), none, 0⟩, ⟨some 28, .mv (.t 5), none, 0⟩, ⟨some 29, .iaddr 19 none (.t 27) (.t 28), none, 0⟩, ⟨some 30, .faddr 0 (.t 29), none, 0⟩, ⟨some 31, .load 18 true (.t 30), none, 0⟩, ⟨some 32, .eqagg true [1, 1, 1, 1, 1, 1, 1, 1, 1, 1, 1, 1, 1, 1, 1, 1, 1, 1] (.t 25) (.t 31), none, 0⟩] true []) (.cond (.t 32) (.seq (.region 0 [⟨some 4, .mv (.c (.bool false)), none, 0⟩] false []) .ret) .skip))) (.region 0 [⟨some 18, .mv (.t 5), none, 0⟩, ⟨some 19, .bin .add (.t 18) (.c (.int .i64 1)), none, 0⟩, ⟨some 5, .mv (.t 19), none, 0⟩] false [])))))) (.seq (.region 0 [⟨some 4, .mv (.c (.bool true)), none, 0⟩] false []) .ret)))), false⟩
theorem c80 : cFunc Tryd.prog G f80 Tryd.f80 = some f80 := by kernel_rfl
/-- junctionbox/tally.rows[junctionbox/api.Row] -/
def f81 : AFunc :=
⟨2, [.t 4], (.seq (.region 1 [⟨some 4, .newl 60 20, none, 0⟩] false []) (.seq (.region 1 [⟨some 5, .newl 60 20, none, 0⟩] false []) (.seq (.seq (.region 0 [⟨some 8, .mv (.t 0), none, 0⟩, ⟨some 9, .len (.t 8), none, 0⟩, ⟨some 10, .mv (.c (.int .i64 0)), none, 0⟩] false []) (.block 0 (.loop [1, 5, 8, 9, 10] (.seq (.region 0 [⟨some 11, .bin .lss (.t 10) (.t 9), none, 0⟩] false []) (.seq (.cond (.t 11) .skip (.exit 0)) (.seq (.block 1 (.seq (.region 1 [⟨some 12, .iaddr 19 none (.t 8) (.t 10), none, 0⟩, ⟨some 13, .load 19 true (.t 12), none, 0⟩, ⟨some 7, .alloc 85 [.int .i64 0, .int .u8 0, .int .u8 0, .int .u8 0, .int .u8 0, .int .u8 0, .int .u8 0, .int .u8 0, .int .u8 0, .int .u8 0, .int .u8 0, .int .u8 0, .int .u8 0, .int .u8 0, .int .u8 0, .int .u8 0, .int .u8 0, .int .i64 0, .int .i64 0] [], none, 0⟩, ⟨none, .store 19 (.t 7) (.t 13), none, 0⟩] false []) (.region 2 [⟨some 14, .mv (.t 5), none, 0⟩, ⟨some 15, .mv (.t 1), none, 0⟩, ⟨some 16, .load 19 true (.t 7), none, 0⟩, ⟨some 17, .callR (.t 15) [.t 16] false, none, 0⟩, ⟨some 18, .buildSl 60 20 [.int .i64 0, .int .u8 0, .int .u8 0, .int .u8 0, .int .u8 0, .int .u8 0, .int .u8 0, .int .u8 0, .int .u8 0, .int .u8 0, .int .u8 0, .int .u8 0, .int .u8 0, .int .u8 0, .int .u8 0, .int .u8 0, .int .u8 0, .int .i64 0, .int .u64 0, .int .u64 0] 1 [(0, .t 17)] false, none, 0⟩, ⟨some 19, .append 60 20 48 (.t 14) (.t 18), none, 1⟩, ⟨some 5, .mv (.t 19), none, 0⟩] false []))) (.region 0 [⟨some 20, .bin .add (.t 10) (.c (.int .i64 1)), none, 0⟩, ⟨some 10, .mv (.t 20), none, 0⟩] false []))))))) (.seq (.region 0 [⟨some 21, .mv (.t 5), none, 0⟩, ⟨some 4, .mv (.t 21), none, 0⟩] false []) .ret)))), true⟩
theorem c81 : cFunc Tryd.prog G f81 Tryd.f81 = some f81 := by kernel_rfl
/-- junctionbox/tally.zero$1 -/
def f82 : AFunc :=
⟨1, [.cell 2 20 true], (.seq (.region 2 [⟨some 1, .box 85 19 (.t 0) [], none, 0⟩, ⟨some 2, .alloc 60 [.int .i64 0, .int .u8 0, .int .u8 0, .int .u8 0, .int .u8 0, .int .u8 0, .int .u8 0, .int .u8 0, .int .u8 0, .int .u8 0, .int .u8 0, .int .u8 0, .int .u8 0, .int .u8 0, .int .u8 0, .int .u8 0, .int .u8 0, .int .i64 0, .int .u64 0, .int .u64 0] [], none, 1⟩] false []) (.seq (.region 0 [⟨some 3, .faddr 0 (.t 1), none, 0⟩, ⟨some 4, .load 18 true (.t 3), none, 0⟩, ⟨some 5, .build [.int .i64 0, .int .u8 0, .int .u8 0, .int .u8 0, .int .u8 0, .int .u8 0, .int .u8 0, .int .u8 0, .int .u8 0, .int .u8 0, .int .u8 0, .int .u8 0, .int .u8 0, .int .u8 0, .int .u8 0, .int .u8 0, .int .u8 0, .int .i64 0, .int .u64 0, .int .u64 0] [(0, 18, .t 4)] [], none, 0⟩, ⟨none, .store 20 (.t 2) (.t 5), none, 0⟩] false []) .ret)), false⟩
theorem c82 : cFunc Tryd.prog G f82 Tryd.f82 = some f82 := by kernel_rfl
/-- junctionbox/prefix.Width -/
def f85 : AFunc :=
⟨1, [.t 2], (.seq (.region 0 [⟨some 2, .mv (.c (.int .i64 0)), none, 0⟩] false []) (.seq (.seq (.region 0 [⟨some 3, .mv (.t 0), none, 0⟩, ⟨some 4, .bin .lss (.t 3) (.c (.int .i64 0)), none, 0⟩, ⟨some 5, .mv (.t 4), none, 0⟩, ⟨some 6, .mv (.t 0), some (5, false), 0⟩, ⟨some 7, .bin .geq (.t 6) (.c (.int .i64 7)), some (5, false), 0⟩, ⟨some 8, .pick (.t 5) (.c (.bool true)) (.t 7), none, 0⟩] false []) (.cond (.t 8) (.seq (.region 0 [⟨some 2, .mv (.c (.int .i64 0)), none, 0⟩] false []) .ret) .skip)) (.seq (.region 0 [⟨some 9, .mv (.t 0), none, 0⟩, ⟨some 10, .iaddr 1 (some 7) (.c (.rp [.int .i64 0, .int .i64 0, .int .i64 0, .int .i64 0, .int .i64 32, .int .i64 0, .int .i64 128] 0)) (.t 9), none, 0⟩, ⟨some 11, .load 1 false (.t 10), none, 0⟩, ⟨some 2, .mv (.t 11), none, 0⟩] false []) .ret))), false⟩
theorem c85 : cFunc Tryd.prog G f85 Tryd.f85 = some f85 := by kernel_rfl
/-- junctionbox/prefix.clear -/
def f86 : AFunc :=
⟨2, [.t 4], (.seq (.region 1 [⟨some 2, .box 31 16 (.t 0) [], none, 0⟩, ⟨some 4, .mv (.c (.bool false)), none, 0⟩] false []) (.seq (.seq (.region 0 [⟨some 6, .mv (.t 1), none, 0⟩, ⟨some 5, .mv (.t 6), none, 0⟩] false []) (.block 0 (.loop [2, 5] (.seq (.seq (.region 0 [⟨some 7, .mv (.t 5), none, 0⟩, ⟨some 8, .bin .lss (.t 7) (.c (.int .i64 128)), none, 0⟩] false []) (.cond (.t 8) .skip (.exit 0))) (.seq (.block 1 (.seq (.region 0 [⟨some 11, .mv (.t 5), none, 0⟩, ⟨some 12, .bin .quo (.t 11) (.c (.int .i64 8)), none, 0⟩, ⟨some 13, .iaddr 1 (some 16) (.t 2) (.t 12), none, 0⟩, ⟨some 14, .load 1 false (.t 13), none, 0⟩, ⟨some 15, .mv (.t 5), none, 0⟩, ⟨some 16, .bin .rem (.t 15) (.c (.int .i64 8)), none, 0⟩, ⟨some 17, .bin .sub (.c (.int .i64 7)) (.t 16), none, 0⟩, ⟨some 18, .bin .shr (.t 14) (.t 17), none, 0⟩, ⟨some 19, .bin .and (.t 18) (.c (.int .u8 1)), none, 0⟩, ⟨some 20, .bin .eql (.t 19) (.c (.int .u8 1)), none, 0⟩] false []) (.cond (.t 20) (.seq (.region 0 [⟨some 4, .mv (.c (.bool false)), none, 0⟩] false []) .ret) .skip))) (.region 0 [⟨some 9, .mv (.t 5), none, 0⟩, ⟨some 10, .bin .add (.t 9) (.c (.int .i64 1)), none, 0⟩, ⟨some 5, .mv (.t 10), none, 0⟩] false [])))))) (.seq (.region 0 [⟨some 4, .mv (.c (.bool true)), none, 0⟩] false []) .ret))), false⟩
theorem c86 : cFunc Tryd.prog G f86 Tryd.f86 = some f86 := by kernel_rfl
/-- slices.BinarySearchFunc[[]junctionbox/api.Row,junctionbox/api.Row,junctionbox/api.Prefix] -/
def f87 : AFunc :=
⟨3, [.t 6, .t 7], (.seq (.region 1 [⟨some 4, .box 58 18 (.t 1) [], none, 0⟩, ⟨some 6, .mv (.c (.int .i64 0)), none, 0⟩, ⟨some 7, .mv (.c (.bool false)), none, 0⟩] false []) (.seq (.region 0 [⟨some 12, .mv (.t 0), none, 0⟩, ⟨some 13, .len (.t 12), none, 0⟩, ⟨some 8, .mv (.t 13), none, 0⟩] false []) (.seq (.region 0 [⟨some 14, .mv (.t 8), none, 0⟩, ⟨some 9, .mv (.c (.int .i64 0)), none, 0⟩, ⟨some 10, .mv (.t 14), none, 0⟩] false []) (.seq (.block 0 (.loop [0, 2, 4, 8, 9, 10] (.seq (.seq (.region 0 [⟨some 15, .mv (.t 9), none, 0⟩, ⟨some 16, .mv (.t 10), none, 0⟩, ⟨some 17, .bin .lss (.t 15) (.t 16), none, 0⟩] false []) (.cond (.t 17) .skip (.exit 0))) (.block 1 (.seq (.region 0 [⟨some 18, .mv (.t 9), none, 0⟩, ⟨some 19, .mv (.t 10), none, 0⟩, ⟨some 20, .bin .add (.t 18) (.t 19), none, 0⟩, ⟨some 21, .conv .u64 (.t 20), none, 0⟩, ⟨some 22, .bin .shr (.t 21) (.c (.int .u64 1)), none, 0⟩, ⟨some 23, .conv .i64 (.t 22), none, 0⟩, ⟨some 11, .mv (.t 23), none, 0⟩] false []) (.seq (.region 0 [⟨some 24, .mv (.t 2), none, 0⟩, ⟨some 25, .mv (.t 0), none, 0⟩, ⟨some 26, .mv (.t 11), none, 0⟩, ⟨some 27, .iaddr 19 none (.t 25) (.t 26), none, 0⟩, ⟨some 28, .load 19 true (.t 27), none, 0⟩, ⟨some 29, .load 18 true (.t 4), none, 0⟩, ⟨some 30, .callR (.t 24) [.t 28, .t 29] false, none, 0⟩, ⟨some 31, .bin .lss (.t 30) (.c (.int .i64 0)), none, 0⟩] true []) (.cond (.t 31) (.region 0 [⟨some 32, .mv (.t 11), none, 0⟩, ⟨some 33, .bin .add (.t 32) (.c (.int .i64 1)), none, 0⟩, ⟨some 9, .mv (.t 33), none, 0⟩] false []) (.region 0 [⟨some 34, .mv (.t 11), none, 0⟩, ⟨some 10, .mv (.t 34), none, 0⟩] false [])))))))) (.seq (.region 0 [⟨some 35, .mv (.t 9), none, 0⟩, ⟨some 36, .mv (.t 9), none, 0⟩, ⟨some 37, .mv (.t 8), none, 0⟩, ⟨some 38, .bin .lss (.t 36) (.t 37), none, 0⟩, ⟨some 39, .mv (.t 38), none, 0⟩, ⟨some 40, .mv (.t 2), some (39, true), 0⟩, ⟨some 41, .mv (.t 0), some (39, true), 0⟩, ⟨some 42, .mv (.t 9), some (39, true), 0⟩, ⟨some 43, .iaddr 19 none (.t 41) (.t 42), some (39, true), 0⟩, ⟨some 44, .load 19 true (.t 43), some (39, true), 0⟩, ⟨some 45, .load 18 true (.t 4), some (39, true), 0⟩, ⟨some 46, .callR (.t 40) [.t 44, .t 45] false, some (39, true), 0⟩, ⟨some 47, .bin .eql (.t 46) (.c (.int .i64 0)), some (39, true), 0⟩, ⟨some 48, .pick (.t 39) (.t 47) (.c (.bool false)), none, 0⟩, ⟨some 6, .mv (.t 35), none, 0⟩, ⟨some 7, .mv (.t 48), none, 0⟩] true []) .ret))))), false⟩
theorem c87 : cFunc Tryd.prog G f87 Tryd.f87 = some f87 := by kernel_rfl
/-- junctionbox/table.place$1 -/
def f88 : AFunc :=
⟨2, [.t 4], (.seq (.region 2 [⟨some 2, .box 85 19 (.t 0) [], none, 0⟩, ⟨some 3, .box 58 18 (.t 1) [], none, 1⟩, ⟨some 4, .mv (.c (.int .i64 0)), none, 0⟩] false []) (.seq (.region 0 [⟨some 5, .load 19 true (.t 2), none, 0⟩, ⟨some 6, .load 18 true (.t 3), none, 0⟩, ⟨some 7, .callV 59 [.t 5, .t 6] false, none, 0⟩, ⟨some 4, .mv (.t 7), none, 0⟩] false []) .ret)), false⟩
theorem c88 : cFunc Tryd.prog G f88 Tryd.f88 = some f88 := by kernel_rfl
/-- junctionbox/tally.all$1 -/
def f91 : AFunc :=
⟨2, [], (.seq (.region 0 [⟨some 5, .faddr 0 (.t 1), none, 0⟩, ⟨some 6, .load 1 false (.t 5), none, 0⟩, ⟨some 7, .len (.t 6), none, 0⟩, ⟨some 8, .mv (.c (.int .i64 0)), none, 0⟩] false []) (.block 0 (.loop [0, 6, 7, 8] (.seq (.region 0 [⟨some 9, .bin .lss (.t 8) (.t 7), none, 0⟩] false []) (.seq (.cond (.t 9) .skip (.exit 0)) (.seq (.block 1 (.seq (.region 1 [⟨some 10, .iaddr 20 none (.t 6) (.t 8), none, 0⟩, ⟨some 11, .load 20 true (.t 10), none, 0⟩, ⟨some 4, .alloc 60 [.int .i64 0, .int .u8 0, .int .u8 0, .int .u8 0, .int .u8 0, .int .u8 0, .int .u8 0, .int .u8 0, .int .u8 0, .int .u8 0, .int .u8 0, .int .u8 0, .int .u8 0, .int .u8 0, .int .u8 0, .int .u8 0, .int .u8 0, .int .i64 0, .int .u64 0, .int .u64 0] [], none, 0⟩, ⟨none, .store 20 (.t 4) (.t 11), none, 0⟩] false []) (.seq (.region 0 [⟨some 12, .mv (.t 0), none, 0⟩, ⟨some 13, .faddr 0 (.t 4), none, 0⟩, ⟨some 14, .load 18 true (.t 13), none, 0⟩, ⟨some 15, .faddr 18 (.t 4), none, 0⟩, ⟨some 16, .load 2 true (.t 15), none, 0⟩, ⟨some 17, .callR (.t 12) [.t 14, .t 16] false, none, 0⟩, ⟨some 18, .not (.t 17), none, 0⟩] false []) (.cond (.t 18) .ret .skip)))) (.region 0 [⟨some 19, .bin .add (.t 8) (.c (.int .i64 1)), none, 0⟩, ⟨some 8, .mv (.t 19), none, 0⟩] false []))))))), false⟩
theorem c91 : cFunc Tryd.prog G f91 Tryd.f91 = some f91 := by kernel_rfl
/-- cmp.Compare[int] -/
def f92 : AFunc :=
⟨2, [.t 4], (.seq (.region 0 [⟨some 4, .mv (.c (.int .i64 0)), none, 0⟩] false []) (.seq (.region 0 [⟨some 7, .mv (.t 0), none, 0⟩, ⟨some 8, .callV 101 [.t 7] false, none, 0⟩, ⟨some 5, .mv (.t 8), none, 0⟩] false []) (.seq (.region 0 [⟨some 9, .mv (.t 1), none, 0⟩, ⟨some 10, .callV 101 [.t 9] false, none, 0⟩, ⟨some 6, .mv (.t 10), none, 0⟩] false []) (.seq (.seq (.region 0 [⟨some 11, .mv (.t 5), none, 0⟩] false []) (.cond (.t 11) (.seq (.seq (.region 0 [⟨some 12, .mv (.t 6), none, 0⟩] false []) (.cond (.t 12) (.seq (.region 0 [⟨some 4, .mv (.c (.int .i64 0)), none, 0⟩] false []) .ret) .skip)) (.seq (.region 0 [⟨some 4, .mv (.c (.int .i64 (-1))), none, 0⟩] false []) .ret)) .skip)) (.seq (.seq (.region 0 [⟨some 13, .mv (.t 6), none, 0⟩] false []) (.cond (.t 13) (.seq (.region 0 [⟨some 4, .mv (.c (.int .i64 1)), none, 0⟩] false []) .ret) .skip)) (.seq (.seq (.region 0 [⟨some 14, .mv (.t 0), none, 0⟩, ⟨some 15, .mv (.t 1), none, 0⟩, ⟨some 16, .bin .lss (.t 14) (.t 15), none, 0⟩] false []) (.cond (.t 16) (.seq (.region 0 [⟨some 4, .mv (.c (.int .i64 (-1))), none, 0⟩] false []) .ret) .skip)) (.seq (.seq (.region 0 [⟨some 17, .mv (.t 0), none, 0⟩, ⟨some 18, .mv (.t 1), none, 0⟩, ⟨some 19, .bin .gtr (.t 17) (.t 18), none, 0⟩] false []) (.cond (.t 19) (.seq (.region 0 [⟨some 4, .mv (.c (.int .i64 1)), none, 0⟩] false []) .ret) .skip)) (.seq (.region 0 [⟨some 4, .mv (.c (.int .i64 0)), none, 0⟩] false []) .ret)))))))), false⟩
theorem c92 : cFunc Tryd.prog G f92 Tryd.f92 = some f92 := by kernel_rfl
/-- bytes.Compare -/
def f93 : AFunc :=
⟨2, [.t 4], (.seq (.region 0 [⟨some 4, .mv (.c (.int .i64 0)), none, 0⟩] false []) (.seq (.region 0 [⟨some 5, .mv (.t 0), none, 0⟩, ⟨some 6, .mv (.t 1), none, 0⟩, ⟨some 7, .callV 102 [.t 5, .t 6] false, none, 0⟩, ⟨some 4, .mv (.t 7), none, 0⟩] false []) .ret)), false⟩
theorem c93 : cFunc Tryd.prog G f93 Tryd.f93 = some f93 := by kernel_rfl
/-- slices.EqualFunc[[]junctionbox/api.Counted,[]junctionbox/api.Row,junctionbox/api.Counted,junctionbox/api.Row] -/
def f97 : AFunc :=
⟨3, [.t 6], (.seq (.region 0 [⟨some 6, .mv (.c (.bool false)), none, 0⟩] false []) (.seq (.seq (.region 0 [⟨some 10, .mv (.t 0), none, 0⟩, ⟨some 11, .len (.t 10), none, 0⟩, ⟨some 12, .mv (.t 1), none, 0⟩, ⟨some 13, .len (.t 12), none, 0⟩, ⟨some 14, .bin .neq (.t 11) (.t 13), none, 0⟩] false []) (.cond (.t 14) (.seq (.region 0 [⟨some 6, .mv (.c (.bool false)), none, 0⟩] false []) .ret) .skip)) (.seq (.seq (.region 0 [⟨some 15, .mv (.t 0), none, 0⟩, ⟨some 16, .len (.t 15), none, 0⟩, ⟨some 17, .mv (.c (.int .i64 0)), none, 0⟩] false []) (.block 0 (.loop [1, 2, 15, 16, 17] (.seq (.region 0 [⟨some 18, .bin .lss (.t 17) (.t 16), none, 0⟩] false []) (.seq (.cond (.t 18) .skip (.exit 0)) (.seq (.block 1 (.seq (.region 1 [⟨some 19, .mv (.t 17), none, 0⟩, ⟨some 20, .iaddr 20 none (.t 15) (.t 17), none, 0⟩, ⟨some 21, .load 20 true (.t 20), none, 0⟩, ⟨some 8, .alloc 60 [.int .i64 0, .int .u8 0, .int .u8 0, .int .u8 0, .int .u8 0, .int .u8 0, .int .u8 0, .int .u8 0, .int .u8 0, .int .u8 0, .int .u8 0, .int .u8 0, .int .u8 0, .int .u8 0, .int .u8 0, .int .u8 0, .int .u8 0, .int .i64 0, .int .u64 0, .int .u64 0] [], none, 0⟩, ⟨some 7, .mv (.t 19), none, 0⟩, ⟨none, .store 20 (.t 8) (.t 21), none, 0⟩] false []) (.seq (.region 1 [⟨some 22, .mv (.t 1), none, 0⟩, ⟨some 23, .mv (.t 7), none, 0⟩, ⟨some 24, .iaddr 19 none (.t 22) (.t 23), none, 0⟩, ⟨some 25, .load 19 true (.t 24), none, 0⟩, ⟨some 9, .alloc 85 [.int .i64 0, .int .u8 0, .int .u8 0, .int .u8 0, .int .u8 0, .int .u8 0, .int .u8 0, .int .u8 0, .int .u8 0, .int .u8 0, .int .u8 0, .int .u8 0, .int .u8 0, .int .u8 0, .int .u8 0, .int .u8 0, .int .u8 0, .int .i64 0, .int .i64 0] [], none, 0⟩, ⟨none, .store 19 (.t 9) (.t 25), none, 0⟩] false []) (.seq (.region 0 [⟨some 26, .mv (.t 2), none, 0⟩, ⟨some 27, .load 20 true (.t 8), none, 0⟩, ⟨some 28, .load 19 true (.t 9), none, 0⟩, ⟨some 29, .callR (.t 26) [.t 27, .t 28] false, none, 0⟩, ⟨some 30, .not (.t 29), none, 0⟩] false []) (.cond (.t 30) (.seq (.region 0 [⟨some 6, .mv (.c (.bool false)), none, 0⟩] false []) .ret) .skip))))) (.region 0 [⟨some 31, .bin .add (.t 17) (.c (.int .i64 1)), none, 0⟩, ⟨some 17, .mv (.t 31), none, 0⟩] false []))))))) (.seq (.region 0 [⟨some 6, .mv (.c (.bool true)), none, 0⟩] false []) .ret)))), false⟩
theorem c97 : cFunc Tryd.prog G f97 Tryd.f97 = some f97 := by kernel_rfl
/-- junctionbox/tally.of$1 -/
def f98 : AFunc :=
⟨2, [.t 4], (.seq (.region 2 [⟨some 2, .box 60 20 (.t 0) [], none, 0⟩, ⟨some 3, .box 85 19 (.t 1) [], none, 1⟩, ⟨some 4, .mv (.c (.bool false)), none, 0⟩] false []) (.seq (.region 0 [⟨some 5, .faddr 0 (.t 2), none, 0⟩, ⟨some 6, .load 18 true (.t 5), none, 0⟩, ⟨some 7, .faddr 0 (.t 3), none, 0⟩, ⟨some 8, .load 18 true (.t 7), none, 0⟩, ⟨some 9, .eqagg false [1, 1, 1, 1, 1, 1, 1, 1, 1, 1, 1, 1, 1, 1, 1, 1, 1, 1] (.t 6) (.t 8), none, 0⟩, ⟨some 4, .mv (.t 9), none, 0⟩] false []) .ret)), false⟩
theorem c98 : cFunc Tryd.prog G f98 Tryd.f98 = some f98 := by kernel_rfl
/-- junctionbox/prefix.cut -/
def f99 : AFunc :=
⟨2, [.cell 4 16 true], (.seq (.region 2 [⟨some 2, .box 31 16 (.t 0) [], none, 0⟩, ⟨some 4, .alloc 31 [.int .u8 0, .int .u8 0, .int .u8 0, .int .u8 0, .int .u8 0, .int .u8 0, .int .u8 0, .int .u8 0, .int .u8 0, .int .u8 0, .int .u8 0, .int .u8 0, .int .u8 0, .int .u8 0, .int .u8 0, .int .u8 0] [], none, 1⟩] false []) (.seq (.seq (.region 0 [⟨some 7, .mv (.c (.int .i64 0)), none, 0⟩] false []) (.block 0 (.loop [1, 2, 4, 7] (.seq (.region 0 [⟨some 8, .bin .lss (.t 7) (.c (.int .i64 16)), none, 0⟩] false []) (.seq (.cond (.t 8) .skip (.exit 0)) (.seq (.block 1 (.seq (.region 0 [⟨some 9, .mv (.t 7), none, 0⟩, ⟨some 5, .mv (.t 9), none, 0⟩] false []) (.seq (.region 0 [⟨some 10, .mv (.t 1), none, 0⟩, ⟨some 11, .mv (.t 5), none, 0⟩, ⟨some 12, .bin .mul (.c (.int .i64 8)) (.t 11), none, 0⟩, ⟨some 13, .bin .sub (.t 10) (.t 12), none, 0⟩, ⟨some 6, .mv (.t 13), none, 0⟩] false []) (.block 2 (.seq (.region 0 [⟨some 15, .mv (.t 6), none, 0⟩, ⟨some 16, .bin .leq (.t 15) (.c (.int .i64 0)), none, 0⟩, ⟨some 14, .mv (.t 16), none, 0⟩] false []) (.cond (.t 14) (.region 0 [⟨some 17, .mv (.t 5), none, 0⟩, ⟨some 18, .iaddr 1 (some 16) (.t 2) (.t 17), none, 0⟩, ⟨none, .store 1 (.t 18) (.c (.int .u8 0)), none, 0⟩] false []) (.seq (.region 0 [⟨some 20, .mv (.t 6), none, 0⟩, ⟨some 21, .bin .lss (.t 20) (.c (.int .i64 8)), none, 0⟩, ⟨some 19, .mv (.t 21), none, 0⟩] false []) (.cond (.t 19) (.region 0 [⟨some 22, .mv (.t 5), none, 0⟩, ⟨some 23, .iaddr 1 (some 16) (.t 2) (.t 22), none, 0⟩, ⟨some 24, .load 1 false (.t 23), none, 0⟩, ⟨some 25, .mv (.t 6), none, 0⟩, ⟨some 26, .bin .sub (.c (.int .i64 8)) (.t 25), none, 0⟩, ⟨some 27, .bin .shl (.c (.int .u8 255)) (.t 26), none, 0⟩, ⟨some 28, .bin .and (.t 24) (.t 27), none, 0⟩, ⟨some 29, .iaddr 1 (some 16) (.t 2) (.t 22), none, 0⟩, ⟨none, .store 1 (.t 29) (.t 28), none, 0⟩] true []) .skip)))))))) (.region 0 [⟨some 30, .bin .add (.t 7) (.c (.int .i64 1)), none, 0⟩, ⟨some 7, .mv (.t 30), none, 0⟩] false []))))))) (.seq (.region 0 [⟨some 31, .load 16 true (.t 2), none, 0⟩, ⟨none, .store 16 (.t 4) (.t 31), none, 0⟩] false []) .ret))), false⟩
theorem c99 : cFunc Tryd.prog G f99 Tryd.f99 = some f99 := by kernel_rfl
/-- cmp.isNaN[int] -/
def f101 : AFunc :=
⟨1, [.t 2], (.seq (.region 0 [⟨some 2, .mv (.c (.bool false)), none, 0⟩] false []) (.seq (.region 0 [⟨some 3, .mv (.t 0), none, 0⟩, ⟨some 4, .mv (.t 0), none, 0⟩, ⟨some 5, .bin .neq (.t 3) (.t 4), none, 0⟩, ⟨some 2, .mv (.t 5), none, 0⟩] false []) .ret)), false⟩
theorem c101 : cFunc Tryd.prog G f101 Tryd.f101 = some f101 := by kernel_rfl
end Go.Proofs.YtdllnneeopbmdaaDoor.F

/- slices.Clone of this program. No condition. -/
set_option linter.unusedVariables false
set_option linter.unusedSimpArgs false
namespace Go.Proofs.YtdllnneeopbmdaaDoor.F
open Go Go.RowKit Go.Proofs Go.Proofs.YtdllnneeopbmdaaDoor Go.Proofs.YtdllnneeopbmdaaDoor.J
theorem elemT_28 : ElemT Tryd.prog 28 85 19 (.agg #[.int .i64 0, .int .u8 0, .int .u8 0, .int .u8 0, .int .u8 0, .int .u8 0, .int .u8 0, .int .u8 0, .int .u8 0, .int .u8 0, .int .u8 0, .int .u8 0, .int .u8 0, .int .u8 0, .int .u8 0, .int .u8 0, .int .u8 0, .int .i64 0, .int .i64 0]) 40 := ⟨Tryd.underlying28, by kernel_rfl, rfl, by decide⟩
set_option maxHeartbeats 4000000 in
set_option maxRecDepth 100000 in
theorem ins_shift_f63 (g n c i vb voff vc : Nat) (cur curv : Array Value) (xs : List Value) (w : World) (hi : i < n) (hroom : n + 1 ≤ c) (hc63 : c ≤ 9223372036854775807) (hvb : vb ≠ g) (hh : w.heap[g]? = some (.cells cur 85 (0, 0))) (hcs : cur.size = c * 19)
    (hv : w.heap[vb]? = some (.cells curv 85 (0, 0))) (hxl : xs.length = 19) (hx : ∀ j u, xs[j]? = some u → w.cell? ⟨vb, voff + j, none⟩ = some u) (h1x : ∀ u ∈ xs, u.oneCell' = true) (h1c : ∀ u ∈ (cur.toList.take (n * 19)).drop (i * 19), u.oneCell' = true) (R1 : Array Value)
    (hA : R1 = (cur.toList.take ((i + 1) * 19) ++ (cur.toList.take (n * 19)).drop (i * 19) ++ cur.toList.drop ((i + 1) * 19 + (n - i) * 19)).toArray) :
    Calls Tryd.prog 63 #[.slice (some ⟨g, 0, none⟩) n c, .int .i64 i, .slice (some ⟨vb, voff, none⟩) 1 vc] w fun e w' =>
      e = .returned (.slice (some ⟨g, 0, none⟩) (n + 1) c) ∧ w' = (w.drew.setRow g R1).setRow g (R1.toList.take (i * 19) ++ xs ++ R1.toList.drop (i * 19 + xs.length)).toArray := by
  have hsz : (Tryd.prog.info? 85).map (·.size) = some 19 := by kernel_rfl
  have hdl : ((cur.toList.take (n * 19)).drop (i * 19)).length = (n - i) * 19 := by
    rw [List.length_drop, List.length_take, Array.length_toList]
    omega
  have hsA : w.shape? vb = some (85, curv.size) := by simp [World.shape?, hv]
  have hsB : w.shape? g = some (85, cur.size) := by simp [World.shape?, hh]
  have hfr : ∀ o, w.frozen? ⟨vb, o, none⟩ = false := fun o => by simp [World.frozen?, hv]
  have hov : ∀ lb cb, (callFunc 89 #[.slice (some ⟨vb, voff, none⟩) 1 vc, .slice (some ⟨g, (i + 1) * 19, none⟩) lb cb]).run Tryd.prog w = .ok (.value (.bool false)) w := fun lb cb => by
    rw [run_callFunc_extern Tryd.func89 (by kernel_rfl) (by kernel_rfl) (by kernel_rfl) (e := Extern.SlicesOverlaps.overlaps #[28, 28] #[4]) (by kernel_rfl),
      Lib.run_overlaps_apart w 28 4 85 Tryd.underlying28 19 (fun w => by kernel_rfl) ⟨vb, voff, none⟩ ⟨g, (i + 1) * 19, none⟩ 1 vc lb cb hvb 85 85 _ _ hsA hsB (by omega) (hfr _) (hfr _)]
    rfl
  have hAs : R1.size = cur.size := by
    rw [hA]; simp only [List.size_toArray, List.length_append, hdl, List.length_take, List.length_drop, Array.length_toList]
    omega
  have hcp1 : ∀ ty dc sc, (Builtin.copy_ #[28, 28] ty #[.slice (some ⟨g, (i + 1) * 19, none⟩) (n - i) dc, .slice (some ⟨g, i * 19, none⟩) (n + 1 - i) sc]).run Tryd.prog w.drew = .ok (goInt ((n - i : Nat) : Int)) (w.drew.setRow g R1) := fun ty dc sc => by
    have h := A.run_copy_row (P := Tryd.prog) w.drew 28 ty 85 19 Tryd.underlying28 hsz g ((i + 1) * 19) (n - i) dc ⟨g, i * 19, none⟩ (n + 1 - i) sc cur 85 hh _ (n - i) (by simp only [Nat.min_def]; split <;> omega) hdl (fun j v hj => by
      rw [Addr.add_lit]
      rw [List.getElem?_drop, List.getElem?_take] at hj
      split at hj
      · show w.cell? _ = _
        simp only [World.cell?, hh]
        rw [← Array.getElem?_toList]; exact hj
      · cases hj) (by rw [hdl]; omega) h1c
    rw [hdl] at h
    rw [hA]; exact h
  obtain ⟨W1, hW1⟩ : ∃ W1, W1 = w.drew.setRow g R1 := ⟨_, rfl⟩
  have hh1 : W1.heap[g]? = some (.cells R1 85 (0, 0)) := by rw [hW1]; exact setRow_heap w.drew g cur R1 85 (0, 0) hh
  have hx1 : ∀ j u, xs[j]? = some u → W1.cell? ⟨vb, voff + j, none⟩ = some u := fun j u hj => by
    rw [hW1, cell_setRow_other w.drew g R1 _ hvb]; exact hx j u hj
  have hcp2 : ∀ ty dc, (Builtin.copy_ #[28, 28] ty #[.slice (some ⟨g, i * 19, none⟩) (n + 1 - i) dc, .slice (some ⟨vb, voff, none⟩) 1 vc]).run Tryd.prog W1 = .ok (goInt 1) (W1.setRow g (R1.toList.take (i * 19) ++ xs ++ R1.toList.drop (i * 19 + xs.length)).toArray) := fun ty dc =>
    A.run_copy_row (P := Tryd.prog) W1 28 ty 85 19 Tryd.underlying28 hsz g (i * 19) (n + 1 - i) dc ⟨vb, voff, none⟩ 1 vc R1 85 hh1 xs 1 (by simp only [Nat.min_def]; split <;> omega) (by omega) (fun j v hj => by rw [Addr.add_lit]; exact hx1 j v hj) (by omega) h1x
  have hw1 : IntKind.i64.wrap ((i : Int) + 1) = (i : Int) + 1 := by rw [IntKind.wrap_i64]; omega
  have hw2 : IntKind.i64.wrap ((n : Int) + 1) = (n : Int) + 1 := by rw [IntKind.wrap_i64]; omega
  have hz2 : ¬ ((i : Int) = (n : Int)) := by omega
  have hb1 : (0 : Int) ≤ (i : Int) + 1 := by omega
  have hin : i ≤ n := by omega
  have htn : ((i : Int) + 1).toNat = i + 1 := by omega
  have htn2 : ((n : Int) + 1).toNat = n + 1 := by omega
  have hb2 : ¬ (c = i + 1) := by omega
  have hb3 : (i : Int) ≤ (n : Int) + 1 := by omega
  have hb4 : ¬ (c = i) := by omega
  rw [← hW1] at hcp1 ⊢
  clear hW1 hA hdl hAs
  go_enter Tryd.func63, Tryd.ntmps63
  go_wp2_with (simp only [hov])
  go_region_law (refine step_copy_runI rfl _ _ 28 28 rfl _ _ (by simp [Act.eval, Act.put]) (by simp [Act.eval, Act.put]) (hcp1 _ _ _) ?_)
  go_wp2_with (at_builtin; refine wpList_copy_runI _ rfl _ _ 28 28 rfl _ _ rfl rfl (hcp2 _ _) ?_)
  go_ret
  exact ⟨rfl, by simp [hxl]⟩
set_option maxHeartbeats 4000000 in
set_option maxRecDepth 100000 in
theorem ins_grow_f63 (g n c i vb voff vc : Nat) (cur curv : Array Value) (xs : List Value) (w : World) (hi : i < n) (hnc : n ≤ c) (hroom : c < n + 1) (hbig : (n + 1) * 40 ≤ 140737488355328) (hh : w.heap[g]? = some (.cells cur 85 (0, 0))) (hcs : cur.size = c * 19)
    (hv : w.heap[vb]? = some (.cells curv 85 (0, 0))) (hxl : xs.length = 19) (hx : ∀ j u, xs[j]? = some u → w.cell? ⟨vb, voff + j, none⟩ = some u) (h1x : ∀ u ∈ xs, u.oneCell' = true) (h1c : ∀ u ∈ (cur.toList.take (n * 19)).drop (i * 19), u.oneCell' = true) :
    Calls Tryd.prog 63 #[.slice (some ⟨g, 0, none⟩) n c, .int .i64 i, .slice (some ⟨vb, voff, none⟩) 1 vc] w fun e w' =>
      ∃ (G : Nat) (R1 R2 : Array Value), e = .returned (.slice (some ⟨w.heap.size, 0, none⟩) (n + 1) G) ∧ n + 1 ≤ G ∧ G ≤ maxLen ∧ R1.size = G * 19 ∧ R1.toList.take (i * 19) = cur.toList.take (i * 19) ∧
        R2 = (R1.toList.take (i * 19) ++ xs ++ R1.toList.drop (i * 19 + 19)).toArray ∧
        w'.heap = ((((w.alloc (.cells R1 85)).setRow w.heap.size R2).setRow w.heap.size (R2.toList.take ((i + 1) * 19) ++ (cur.toList.take (n * 19)).drop (i * 19) ++ R2.toList.drop ((i + 1) * 19 + (n - i) * 19)).toArray)).heap ∧
        w'.os = w.os ∧ w'.tape = w.tape ∧ w'.output = w.output := by
  obtain ⟨i0, z, hi0, hz0, hzs, hzb, hzc⟩ : ∃ i0 z, Tryd.prog.info? 85 = some i0 ∧ i0.zero = some z ∧ i0.size = 19 ∧ i0.bytes = 40 ∧ z.cells.size = 19 := by
    have h := elemT_28.info
    cases hq : Tryd.prog.info? 85 with
    | none => rw [hq] at h; cases h
    | some i0 => rw [hq] at h; simp at h; exact ⟨i0, _, rfl, h.1, h.2.1, h.2.2, elemT_28.zs⟩
  have hsz : (Tryd.prog.info? 85).map (·.size) = some 19 := by rw [hi0]; simp [hzs]
  have hdl : ((cur.toList.take (n * 19)).drop (i * 19)).length = (n - i) * 19 := by
    rw [List.length_drop, List.length_take, Array.length_toList]
    omega
  have hgw : g < w.heap.size := (Array.getElem?_eq_some_iff.1 hh).1
  have hvw : vb < w.heap.size := (Array.getElem?_eq_some_iff.1 hv).1
  have hkk : (n : Int) + 1 - (i : Int) = ((n + 1 - i : Nat) : Int) := by omega
  have hik : i + (n + 1 - i) = n + 1 := by omega
  have hold : (Builtin.firstCells i0.size i (.slice (some ⟨g, 0, none⟩) i c)).run Tryd.prog w.drew = .ok (cur.toList.take (i * 19)).toArray w.drew := by
    rw [hzs]
    exact run_firstCells_some w.drew 19 i ⟨g, 0, none⟩ i c (cur.toList.take (i * 19)) (by rw [List.length_take, Array.length_toList]; omega) (fun j v hj => by
      rw [Addr.add_lit]
      rw [List.getElem?_take] at hj
      split at hj
      · show w.cell? _ = _
        simp only [World.cell?, hh]
        rw [← Array.getElem?_toList, Nat.zero_add]; exact hj
      · cases hj)
  obtain ⟨G, hG⟩ : ∃ G, G = grownCap w (n + 1) c 85 := ⟨_, rfl⟩
  obtain ⟨R1, hR1⟩ : ∃ R1 : Array Value, R1 = (cur.toList.take (i * 19)).toArray ++ Builtin.zeroCells z.cells (n + 1 - i) ++ Builtin.zeroCells z.cells (G - (n + 1)) := ⟨_, rfl⟩
  have hrz : ∀ ty, (Builtin.append_ #[28, 3] ty #[.slice (some ⟨g, 0, none⟩) i c, .int .i64 ((n : Int) + 1 - (i : Int))]).run Tryd.prog w = .ok (.slice (some ⟨w.heap.size, 0, none⟩) (n + 1) G) (w.drew.alloc (.cells R1 85)) := fun ty => by
    have h := Lib.run_append_grow_zeros w 28 3 ty 85 i0 _ .i64 .i64 Tryd.underlying28 Tryd.underlying3 hi0 hz0 (some ⟨g, 0, none⟩) i c _ hold (n + 1 - i) (by omega) (by omega) (by omega) (by omega) (by rw [hzb]; omega) (by rw [hzb, hik]; exact growslice_fits hroom hbig)
    rw [hik, ← hG, ← hR1] at h
    rw [hkk]
    exact h
  have hGn : n + 1 ≤ G := by rw [hG]; exact grownCap_ge w _ _ _
  have hGm : G ≤ maxLen := by rw [hG]; exact grownCap_le_maxLen w (n + 1) c 85 (by unfold maxLen; omega)
  have hG63 : G ≤ 9223372036854775807 := by unfold maxLen at hGm; omega
  have hRs : R1.size = G * 19 := by
    rw [hR1]; simp only [Array.size_append, List.size_toArray, size_zeroCells, hzc, List.length_take, Array.length_toList]
    omega
  have hRt : R1.toList.take (i * 19) = cur.toList.take (i * 19) := by
    rw [hR1]
    have hl : (cur.toList.take (i * 19)).length = i * 19 := by rw [List.length_take, Array.length_toList]; omega
    simp only [Array.toList_append, List.append_assoc]
    exact List.take_left' hl
  obtain ⟨R2, hR2⟩ : ∃ R2 : Array Value, R2 = (R1.toList.take (i * 19) ++ xs ++ R1.toList.drop (i * 19 + 19)).toArray := ⟨_, rfl⟩
  obtain ⟨R3, hR3⟩ : ∃ R3 : Array Value, R3 = (R2.toList.take ((i + 1) * 19) ++ (cur.toList.take (n * 19)).drop (i * 19) ++ R2.toList.drop ((i + 1) * 19 + (n - i) * 19)).toArray := ⟨_, rfl⟩
  have hle : (i + 1) * 19 + (n - i) * 19 ≤ G * 19 := by omega
  have hR2s : R2.size = G * 19 := by
    rw [hR2]; simp only [List.size_toArray, List.length_append, List.length_take, List.length_drop, Array.length_toList, hxl, hRs]
    omega
  have hcpA : ∀ W : World, W.heap = (w.alloc (.cells R1 85)).heap → ∀ ty dc, (Builtin.copy_ #[28, 28] ty #[.slice (some ⟨w.heap.size, i * 19, none⟩) (n + 1 - i) dc, .slice (some ⟨vb, voff, none⟩) 1 vc]).run Tryd.prog W = .ok (goInt 1) (W.setRow w.heap.size R2) := fun W hW ty dc => by
    have h := A.run_copy_row (P := Tryd.prog) W 28 ty 85 19 Tryd.underlying28 hsz w.heap.size (i * 19) (n + 1 - i) dc ⟨vb, voff, none⟩ 1 vc R1 85 (by rw [hW]; exact World.alloc_heap_new w _) xs 1 (by simp only [Nat.min_def]; split <;> omega) (by omega) (fun j v hj => by
      rw [Addr.add_lit]
      have := hx j v hj
      unfold World.cell? at this ⊢
      rw [hW]
      rw [A.alloc_old w _ hvw]
      exact this) (by omega) h1x
    rw [hxl] at h
    rw [hR2]; exact h
  have hcpB : ∀ W : World, W.heap = ((w.alloc (.cells R1 85)).setRow w.heap.size R2).heap → ∀ ty dc sc, (Builtin.copy_ #[28, 28] ty #[.slice (some ⟨w.heap.size, (i + 1) * 19, none⟩) (n - i) dc, .slice (some ⟨g, i * 19, none⟩) (n - i) sc]).run Tryd.prog W = .ok (goInt ((n - i : Nat) : Int)) (W.setRow w.heap.size R3) := fun W hW ty dc sc => by
    have h := A.run_copy_row (P := Tryd.prog) W 28 ty 85 19 Tryd.underlying28 hsz w.heap.size ((i + 1) * 19) (n - i) dc ⟨g, i * 19, none⟩ (n - i) sc R2 85 (by rw [hW]; exact setRow_heap _ _ R1 R2 85 (0, 0) (World.alloc_heap_new w _)) _ (n - i) (by simp only [Nat.min_def]; split <;> omega) hdl (fun j v hj => by
      rw [Addr.add_lit]
      have hc : W.cell? ⟨g, i * 19 + j, none⟩ = ((w.alloc (.cells R1 85)).setRow w.heap.size R2).cell? ⟨g, i * 19 + j, none⟩ := by unfold World.cell?; rw [hW]
      rw [hc, cell_setRow_other _ _ _ _ (show g ≠ w.heap.size by omega)]
      rw [List.getElem?_drop, List.getElem?_take] at hj
      split at hj
      · unfold World.cell?
        rw [A.alloc_old w _ hgw, hh]
        simp only
        rw [← Array.getElem?_toList]; exact hj
      · cases hj) (by rw [hdl, hR2s]; omega) h1c
    rw [hdl] at h
    rw [hR3]; exact h
  have hw1 : IntKind.i64.wrap ((i : Int) + 1) = (i : Int) + 1 := by rw [IntKind.wrap_i64]; omega
  have hw2 : IntKind.i64.wrap ((n : Int) + 1) = (n : Int) + 1 := by rw [IntKind.wrap_i64]; omega
  have hz2 : ¬ ((i : Int) = (n : Int)) := by omega
  have hz3 : (c : Int) < (n : Int) + 1 := by omega
  have hb1 : (0 : Int) ≤ (i : Int) + 1 := by omega
  have hin : i ≤ n := by omega
  have htn : ((i : Int) + 1).toNat = i + 1 := by omega
  have hb3 : (i : Int) ≤ (n : Int) := by omega
  have hb4 : ¬ (c = i) := by omega
  have hGi : ¬ (G = i) := by omega
  have hGim : ¬ (G = i + 1) := by omega
  clear hkk hik hold hR1 hG hle hR2s hdl hsz
  refine Calls.mono (R := fun e w' => e = .returned (.slice (some ⟨w.heap.size, 0, none⟩) (n + 1) G) ∧ w'.heap = (((w.alloc (.cells R1 85)).setRow w.heap.size R2).setRow w.heap.size R3).heap ∧ w'.os = w.os ∧ w'.tape = w.tape ∧ w'.output = w.output) ?_ (fun e w' h => ⟨G, R1, R2, h.1, hGn, hGm, hRs, hRt, hR2, by rw [← hR3]; exact h.2.1, h.2.2⟩)
  have hA := hcpA (w.alloc (.cells R1 85)).drew rfl
  have hB := hcpB ((w.alloc (.cells R1 85)).drew.setRow w.heap.size R2).drew rfl
  clear hR2 hR3 hRt hcpA hcpB
  go_enter Tryd.func63, Tryd.ntmps63
  go_wp2_with (first
    | (at_builtin; refine Lib.wpList_append_run _ rfl _ _ _ _ rfl _ _ rfl rfl _ _ (hrz _) ?_)
    | (at_builtin; refine wpList_copy_runI _ rfl _ _ 28 28 rfl _ _ rfl rfl (hA _ _) ?_))
  go_region_law (refine step_copy_runI rfl _ _ 28 28 rfl _ _ (by simp [Act.eval, Act.put]) (by simp [Act.eval, Act.put]) (hB _ _ _) ?_)
  go_wp2
  go_ret
  exact ⟨rfl, rfl, rfl, rfl, rfl⟩
theorem ins_mid_f63 : A.InsMid Tryd.prog 63 85 19 40 := by
  intro g n c i vb voff vc cur curv xs w hi hnc hcm hbig hvb hh hcs hv hxl hx h1x h1c
  have h1d : ∀ u ∈ (cur.toList.take (n * 19)).drop (i * 19), u.oneCell' = true := fun u hu => h1c u (List.mem_of_mem_drop hu)
  have hdl : ((cur.toList.take (n * 19)).drop (i * 19)).length = (n - i) * 19 := by
    rw [List.length_drop, List.length_take, Array.length_toList]
    omega
  have hgw : g < w.heap.size := (Array.getElem?_eq_some_iff.1 hh).1
  have ea : (n + 1) * 19 = i * 19 + 19 + (n - i) * 19 := by omega
  have eb : (i + 1) * 19 = i * 19 + 19 := by omega
  by_cases hroom : n + 1 ≤ c
  · refine (ins_shift_f63 g n c i vb voff vc cur curv xs w hi hroom (by unfold maxLen at hcm; omega) hvb hh hcs hv hxl hx h1x h1d _ rfl).mono ?_
    rintro e' w' ⟨rfl, rfl⟩
    obtain ⟨q1, q2⟩ := A.ins_list1 (i * 19) 19 ((n - i) * 19) cur.toList xs _ hdl hxl (by rw [Array.length_toList, hcs]; omega) _ _ rfl rfl
    obtain ⟨c', rfl⟩ : ∃ c', c = c' + 1 := ⟨c - 1, by omega⟩
    refine ⟨g, c', _, rfl, setRow_heap _ g _ _ 85 (0, 0) (setRow_heap w.drew g cur _ 85 (0, 0) hh), hroom, hcm, ?_, ?_, .inl rfl, ?_⟩
    · rw [← Array.length_toList]
      rw [hxl, eb]; exact q2.trans (by rw [Array.length_toList]; exact hcs)
    · rw [hxl, ea, eb]; exact q1
    · refine ⟨rfl, rfl, rfl, by simp only [World.setRow, Array.size_modify]; exact Nat.le_refl _, fun b hb hne => ?_⟩
      rw [setRow_other _ _ _ _ (fun e => hne (by rw [e])), setRow_other _ _ _ _ (fun e => hne (by rw [e]))]; rfl
  · refine (ins_grow_f63 g n c i vb voff vc cur curv xs w hi hnc (by omega) hbig hh hcs hv hxl hx h1x h1d).mono ?_
    rintro e' w' ⟨G, R1, R2, rfl, hG1, hG2, hR1, hR1t, hR2, hheap, ho, ht, hout⟩
    obtain ⟨q1, q2⟩ := A.ins_list2 (i * 19) 19 ((n - i) * 19) cur.toList xs _ R1.toList hdl hxl (by rw [Array.length_toList, hR1]; omega) hR1t (by rw [Array.length_toList, hcs]; omega) R2.toList _ (by rw [hR2]) rfl
    obtain ⟨c', rfl⟩ : ∃ c', G = c' + 1 := ⟨G - 1, by omega⟩
    refine ⟨w.heap.size, c', (R2.toList.take ((i + 1) * 19) ++ (cur.toList.take (n * 19)).drop (i * 19) ++ R2.toList.drop ((i + 1) * 19 + (n - i) * 19)).toArray, rfl, ?_, hG1, hG2, ?_, ?_, .inr (Nat.le_refl _), ?_⟩
    rotate_left 3
    · refine ⟨ho, ht, hout, by rw [hheap]; simp only [World.setRow, Array.size_modify]; show _ ≤ (w.heap.push _).size; rw [Array.size_push]; exact Nat.le_succ _, fun b hb hne => ?_⟩
      rw [hheap, setRow_other _ _ _ _ (by omega), setRow_other _ _ _ _ (by omega)]; exact A.alloc_old w _ hb
    · rw [hheap]; exact setRow_heap _ _ _ _ 85 (0, 0) (setRow_heap _ _ R1 _ 85 (0, 0) (World.alloc_heap_new w _))
    · rw [← Array.length_toList]
      rw [eb]; exact q2.trans (by rw [Array.length_toList]; exact hR1)
    · rw [ea, eb]; exact q1
set_option maxHeartbeats 4000000 in
set_option maxRecDepth 100000 in
theorem ins_end_f63 : A.InsEnd Tryd.prog 63 28 := by
  intro base n c vb voff vc v' w w' hnc hn hrun
  have h1 : (0 : Int) ≤ (n : Int) := by omega
  cases base with
  | none =>
    have h0 := hn rfl
    subst h0
    go_enter Tryd.func63, Tryd.ntmps63
    go_wp2_with (at_builtin; refine Lib.wpList_append_run _ rfl _ _ _ _ rfl _ _ rfl rfl _ _ hrun ?_)
    go_ret
    exact ⟨rfl, rfl⟩
  | some a =>
    obtain ⟨ab, ao, asp⟩ := a
    go_enter Tryd.func63, Tryd.ntmps63
    go_wp2_with (at_builtin; refine Lib.wpList_append_run _ rfl _ _ _ _ rfl _ _ rfl rfl _ _ hrun ?_)
    all_goals (go_ret; exact ⟨rfl, rfl⟩)
theorem elemT_22 : ElemT Tryd.prog 22 60 20 (.agg #[.int .i64 0, .int .u8 0, .int .u8 0, .int .u8 0, .int .u8 0, .int .u8 0, .int .u8 0, .int .u8 0, .int .u8 0, .int .u8 0, .int .u8 0, .int .u8 0, .int .u8 0, .int .u8 0, .int .u8 0, .int .u8 0, .int .u8 0, .int .i64 0, .int .u64 0, .int .u64 0]) 48 := ⟨Tryd.underlying22, by kernel_rfl, rfl, by decide⟩
set_option maxHeartbeats 1000000 in
theorem clone_f40 (a : Option Addr) (c : Nat) (css : List (List Value)) (w : World) (hs : SlC w 20 a css) (h1 : ∀ cs ∈ css, ∀ u ∈ cs, u.oneCell' = true) (hb : css.length * 48 ≤ 140737488355328) :
    Calls Tryd.prog 40 #[.slice a css.length c] w fun e w' => ∃ v, e = .returned v ∧ OwnL w' w.heap.size 60 20 v css ∧ Ext w w' := by
  have keq := eql_slice_nil Tryd.underlying22
  cases a with
  | none =>
    have hnil : css = [] := by
      cases css with
      | nil => rfl
      | cons c r => obtain ⟨_, b, o, h2, _⟩ := hs 0 c rfl; cases h2
    subst hnil
    have kn := fun (w : World) (l c : Nat) => keq w none l c
    simp only [Option.isNone_none] at kn
    clear keq
    go_enter Tryd.func40, Tryd.ntmps40
    go_wp2
    go_ret
    exact ⟨_, rfl, OwnL.nil _ _ _ _, by repeat (first | exact Ext.refl _ | assumption | apply Ext.alloc | apply Ext.drewN | apply Ext.drew)⟩
  | some ad =>
    have kn := fun (w : World) (l c : Nat) => keq w (some ad) l c
    simp only [Option.isNone_some] at kn
    clear keq
    have ho : OwnL (w.alloc (.cells #[] 60)) w.heap.size 60 20 (.slice (some ⟨w.heap.size, 0, none⟩) 0 0) [] := ⟨World.ownsRow_lit w #[] 0 (Nat.le_refl _) (Nat.zero_le _) (by simp), fun c hc => by cases hc⟩
    go_enter Tryd.func40, Tryd.ntmps40
    go_wp2_with (at_builtin; refine wpl_append rfl _ _ 22 rfl elemT_22 w.heap.size rfl ho rfl rfl (hs.ext ((Ext.refl w).alloc _)) h1 (by simpa using hb) (by decide) (by simp) ?_; intro v' W' ho' hg'; have he' := ext_own ((Ext.refl w).alloc _) ho (Nat.le_refl _) hg'; clear hg')
    go_ret
    exact ⟨_, rfl, by simpa using ho', he'⟩
set_option maxHeartbeats 1000000 in
theorem clone_f62 (a : Option Addr) (c : Nat) (css : List (List Value)) (w : World) (hs : SlC w 19 a css) (h1 : ∀ cs ∈ css, ∀ u ∈ cs, u.oneCell' = true) (hb : css.length * 40 ≤ 140737488355328) :
    Calls Tryd.prog 62 #[.slice a css.length c] w fun e w' => ∃ v, e = .returned v ∧ OwnL w' w.heap.size 85 19 v css ∧ Ext w w' := by
  have keq := eql_slice_nil Tryd.underlying28
  cases a with
  | none =>
    have hnil : css = [] := by
      cases css with
      | nil => rfl
      | cons c r => obtain ⟨_, b, o, h2, _⟩ := hs 0 c rfl; cases h2
    subst hnil
    have kn := fun (w : World) (l c : Nat) => keq w none l c
    simp only [Option.isNone_none] at kn
    clear keq
    go_enter Tryd.func62, Tryd.ntmps62
    go_wp2
    go_ret
    exact ⟨_, rfl, OwnL.nil _ _ _ _, by repeat (first | exact Ext.refl _ | assumption | apply Ext.alloc | apply Ext.drewN | apply Ext.drew)⟩
  | some ad =>
    have kn := fun (w : World) (l c : Nat) => keq w (some ad) l c
    simp only [Option.isNone_some] at kn
    clear keq
    have ho : OwnL (w.alloc (.cells #[] 85)) w.heap.size 85 19 (.slice (some ⟨w.heap.size, 0, none⟩) 0 0) [] := ⟨World.ownsRow_lit w #[] 0 (Nat.le_refl _) (Nat.zero_le _) (by simp), fun c hc => by cases hc⟩
    go_enter Tryd.func62, Tryd.ntmps62
    go_wp2_with (at_builtin; refine wpl_append rfl _ _ 28 rfl elemT_28 w.heap.size rfl ho rfl rfl (hs.ext ((Ext.refl w).alloc _)) h1 (by simpa using hb) (by decide) (by simp) ?_; intro v' W' ho' hg'; have he' := ext_own ((Ext.refl w).alloc _) ho (Nat.le_refl _) hg'; clear hg')
    go_ret
    exact ⟨_, rfl, by simpa using ho', he'⟩
end Go.Proofs.YtdllnneeopbmdaaDoor.F

/- What the evaluator is told of the functions. No condition. -/
namespace Go.Proofs.YtdllnneeopbmdaaDoor.F
open Go Go.Proofs.YtdllnneeopbmdaaDoor.A
def fns : FuncId → Option AFunc
  | 3 => some f3
  | 4 => some f4
  | 7 => some f7
  | 10 => some f10
  | 11 => some f11
  | 12 => some f12
  | 13 => some f13
  | 14 => some f14
  | 15 => some f15
  | 16 => some f16
  | 17 => some f17
  | 18 => some f18
  | 19 => some f19
  | 21 => some f21
  | 22 => some f22
  | 25 => some f25
  | 26 => some f26
  | 28 => some f28
  | 29 => some f29
  | 30 => some f30
  | 31 => some f31
  | 34 => some f34
  | 35 => some f35
  | 36 => some f36
  | 38 => some f38
  | 39 => some f39
  | 41 => some f41
  | 42 => some f42
  | 43 => some f43
  | 44 => some f44
  | 45 => some f45
  | 46 => some f46
  | 47 => some f47
  | 48 => some f48
  | 49 => some f49
  | 50 => some f50
  | 51 => some f51
  | 52 => some f52
  | 57 => some f57
  | 58 => some f58
  | 59 => some f59
  | 61 => some f61
  | 64 => some f64
  | 65 => some f65
  | 66 => some f66
  | 69 => some f69
  | 71 => some f71
  | 72 => some f72
  | 73 => some f73
  | 75 => some f75
  | 76 => some f76
  | 77 => some f77
  | 78 => some f78
  | 79 => some f79
  | 80 => some f80
  | 81 => some f81
  | 82 => some f82
  | 85 => some f85
  | 86 => some f86
  | 87 => some f87
  | 88 => some f88
  | 91 => some f91
  | 92 => some f92
  | 93 => some f93
  | 97 => some f97
  | 98 => some f98
  | 99 => some f99
  | 101 => some f101
  | _ => none
def prims : FuncId → Option (List AV → List Blk → Option (AV × List Blk))
  | 40 => some (pClone 60 20 48)
  | 62 => some (pClone 85 19 40)
  | 63 => some (pInsert 85 19 40)
  | 102 => some (pCmp)
  | _ => none
def E : Env := ⟨fns, prims⟩
theorem envOk : EnvOk Tryd.prog G E := by
  refine ⟨fun f af _ h => ?_, fun f p h => ?_⟩
  · show ∃ fm g, _
    change fns f = some af at h
    unfold fns at h
    split at h
    · cases h; exact ⟨Tryd.f3, f3, Tryd.func3, by kernel_rfl, c3⟩
    · cases h; exact ⟨Tryd.f4, f4, Tryd.func4, by kernel_rfl, c4⟩
    · cases h; exact ⟨Tryd.f7, f7, Tryd.func7, by kernel_rfl, c7⟩
    · cases h; exact ⟨Tryd.f10, f10, Tryd.func10, by kernel_rfl, c10⟩
    · cases h; exact ⟨Tryd.f11, f11, Tryd.func11, by kernel_rfl, c11⟩
    · cases h; exact ⟨Tryd.f12, f12, Tryd.func12, by kernel_rfl, c12⟩
    · cases h; exact ⟨Tryd.f13, f13, Tryd.func13, by kernel_rfl, c13⟩
    · cases h; exact ⟨Tryd.f14, f14, Tryd.func14, by kernel_rfl, c14⟩
    · cases h; exact ⟨Tryd.f15, f15, Tryd.func15, by kernel_rfl, c15⟩
    · cases h; exact ⟨Tryd.f16, f16, Tryd.func16, by kernel_rfl, c16⟩
    · cases h; exact ⟨Tryd.f17, f17, Tryd.func17, by kernel_rfl, c17⟩
    · cases h; exact ⟨Tryd.f18, f18, Tryd.func18, by kernel_rfl, c18⟩
    · cases h; exact ⟨Tryd.f19, f19, Tryd.func19, by kernel_rfl, c19⟩
    · cases h; exact ⟨Tryd.f21, f21, Tryd.func21, by kernel_rfl, c21⟩
    · cases h; exact ⟨Tryd.f22, f22, Tryd.func22, by kernel_rfl, c22⟩
    · cases h; exact ⟨Tryd.f25, f25, Tryd.func25, by kernel_rfl, c25⟩
    · cases h; exact ⟨Tryd.f26, f26, Tryd.func26, by kernel_rfl, c26⟩
    · cases h; exact ⟨Tryd.f28, f28, Tryd.func28, by kernel_rfl, c28⟩
    · cases h; exact ⟨Tryd.f29, f29, Tryd.func29, by kernel_rfl, c29⟩
    · cases h; exact ⟨Tryd.f30, f30, Tryd.func30, by kernel_rfl, c30⟩
    · cases h; exact ⟨Tryd.f31, f31, Tryd.func31, by kernel_rfl, c31⟩
    · cases h; exact ⟨Tryd.f34, f34, Tryd.func34, by kernel_rfl, c34⟩
    · cases h; exact ⟨Tryd.f35, f35, Tryd.func35, by kernel_rfl, c35⟩
    · cases h; exact ⟨Tryd.f36, f36, Tryd.func36, by kernel_rfl, c36⟩
    · cases h; exact ⟨Tryd.f38, f38, Tryd.func38, by kernel_rfl, c38⟩
    · cases h; exact ⟨Tryd.f39, f39, Tryd.func39, by kernel_rfl, c39⟩
    · cases h; exact ⟨Tryd.f41, f41, Tryd.func41, by kernel_rfl, c41⟩
    · cases h; exact ⟨Tryd.f42, f42, Tryd.func42, by kernel_rfl, c42⟩
    · cases h; exact ⟨Tryd.f43, f43, Tryd.func43, by kernel_rfl, c43⟩
    · cases h; exact ⟨Tryd.f44, f44, Tryd.func44, by kernel_rfl, c44⟩
    · cases h; exact ⟨Tryd.f45, f45, Tryd.func45, by kernel_rfl, c45⟩
    · cases h; exact ⟨Tryd.f46, f46, Tryd.func46, by kernel_rfl, c46⟩
    · cases h; exact ⟨Tryd.f47, f47, Tryd.func47, by kernel_rfl, c47⟩
    · cases h; exact ⟨Tryd.f48, f48, Tryd.func48, by kernel_rfl, c48⟩
    · cases h; exact ⟨Tryd.f49, f49, Tryd.func49, by kernel_rfl, c49⟩
    · cases h; exact ⟨Tryd.f50, f50, Tryd.func50, by kernel_rfl, c50⟩
    · cases h; exact ⟨Tryd.f51, f51, Tryd.func51, by kernel_rfl, c51⟩
    · cases h; exact ⟨Tryd.f52, f52, Tryd.func52, by kernel_rfl, c52⟩
    · cases h; exact ⟨Tryd.f57, f57, Tryd.func57, by kernel_rfl, c57⟩
    · cases h; exact ⟨Tryd.f58, f58, Tryd.func58, by kernel_rfl, c58⟩
    · cases h; exact ⟨Tryd.f59, f59, Tryd.func59, by kernel_rfl, c59⟩
    · cases h; exact ⟨Tryd.f61, f61, Tryd.func61, by kernel_rfl, c61⟩
    · cases h; exact ⟨Tryd.f64, f64, Tryd.func64, by kernel_rfl, c64⟩
    · cases h; exact ⟨Tryd.f65, f65, Tryd.func65, by kernel_rfl, c65⟩
    · cases h; exact ⟨Tryd.f66, f66, Tryd.func66, by kernel_rfl, c66⟩
    · cases h; exact ⟨Tryd.f69, f69, Tryd.func69, by kernel_rfl, c69⟩
    · cases h; exact ⟨Tryd.f71, f71, Tryd.func71, by kernel_rfl, c71⟩
    · cases h; exact ⟨Tryd.f72, f72, Tryd.func72, by kernel_rfl, c72⟩
    · cases h; exact ⟨Tryd.f73, f73, Tryd.func73, by kernel_rfl, c73⟩
    · cases h; exact ⟨Tryd.f75, f75, Tryd.func75, by kernel_rfl, c75⟩
    · cases h; exact ⟨Tryd.f76, f76, Tryd.func76, by kernel_rfl, c76⟩
    · cases h; exact ⟨Tryd.f77, f77, Tryd.func77, by kernel_rfl, c77⟩
    · cases h; exact ⟨Tryd.f78, f78, Tryd.func78, by kernel_rfl, c78⟩
    · cases h; exact ⟨Tryd.f79, f79, Tryd.func79, by kernel_rfl, c79⟩
    · cases h; exact ⟨Tryd.f80, f80, Tryd.func80, by kernel_rfl, c80⟩
    · cases h; exact ⟨Tryd.f81, f81, Tryd.func81, by kernel_rfl, c81⟩
    · cases h; exact ⟨Tryd.f82, f82, Tryd.func82, by kernel_rfl, c82⟩
    · cases h; exact ⟨Tryd.f85, f85, Tryd.func85, by kernel_rfl, c85⟩
    · cases h; exact ⟨Tryd.f86, f86, Tryd.func86, by kernel_rfl, c86⟩
    · cases h; exact ⟨Tryd.f87, f87, Tryd.func87, by kernel_rfl, c87⟩
    · cases h; exact ⟨Tryd.f88, f88, Tryd.func88, by kernel_rfl, c88⟩
    · cases h; exact ⟨Tryd.f91, f91, Tryd.func91, by kernel_rfl, c91⟩
    · cases h; exact ⟨Tryd.f92, f92, Tryd.func92, by kernel_rfl, c92⟩
    · cases h; exact ⟨Tryd.f93, f93, Tryd.func93, by kernel_rfl, c93⟩
    · cases h; exact ⟨Tryd.f97, f97, Tryd.func97, by kernel_rfl, c97⟩
    · cases h; exact ⟨Tryd.f98, f98, Tryd.func98, by kernel_rfl, c98⟩
    · cases h; exact ⟨Tryd.f99, f99, Tryd.func99, by kernel_rfl, c99⟩
    · cases h; exact ⟨Tryd.f101, f101, Tryd.func101, by kernel_rfl, c101⟩
    · cases h
  · change prims f = some p at h
    unfold prims at h
    split at h
    · cases h; exact pClone_ok (ent_of Tryd.func40 (by kernel_rfl) (c := _) rfl) clone_f40
    · cases h; exact pClone_ok (ent_of Tryd.func62 (by kernel_rfl) (c := _) rfl) clone_f62
    · cases h; exact pInsert_ok' (ent_of Tryd.func63 (by kernel_rfl) (c := _) rfl) (by kernel_rfl) elemT_28 ins_mid_f63 ins_end_f63
    · cases h; exact pCmp_ok Tryd.func102 (by kernel_rfl) (by kernel_rfl) (by kernel_rfl) (by kernel_rfl)
    · cases h
end Go.Proofs.YtdllnneeopbmdaaDoor.F

/- Addresses, prefixes and rows as data, and their cells. No condition. -/
set_option linter.unusedSimpArgs false
namespace Go.Proofs.YtdllnneeopbmdaaDoor.D
open Go Go.Proofs.YtdllnneeopbmdaaDoor.A

structure B16 where
  l : List Nat
  len : l.length = 16
  rng : ∀ x ∈ l, x < 256
  deriving DecidableEq
structure Adr where
  ver : Int
  b : B16
  deriving DecidableEq
structure Pfx where
  adr : Adr
  bits : Int
  deriving DecidableEq
structure Rw where
  p : Pfx
  hop : Int
  deriving DecidableEq

def zerB : B16 := ⟨List.replicate 16 0, rfl, by decide⟩
def zerA : Adr := ⟨0, zerB⟩
def zerP : Pfx := ⟨zerA, 0⟩
def zerR : Rw := ⟨zerP, 0⟩

def u8c (x : Nat) : AV := .int .u8 (x : Int)
def bav (b : B16) : List AV := b.l.map u8c
def aav (a : Adr) : List AV := .int .i64 a.ver :: bav a.b
def pav (p : Pfx) : List AV := .int .i64 p.adr.ver :: (bav p.adr.b ++ [.int .i64 p.bits])
def rav (r : Rw) : List AV := .int .i64 r.p.adr.ver :: (bav r.p.adr.b ++ [.int .i64 r.p.bits, .int .i64 r.hop])

theorem bav_zer : bav zerB = [.int .u8 0, .int .u8 0, .int .u8 0, .int .u8 0, .int .u8 0, .int .u8 0, .int .u8 0, .int .u8 0, .int .u8 0, .int .u8 0, .int .u8 0, .int .u8 0, .int .u8 0, .int .u8 0, .int .u8 0, .int .u8 0] := rfl
theorem aav_zer : aav zerA = [.int .i64 0, .int .u8 0, .int .u8 0, .int .u8 0, .int .u8 0, .int .u8 0, .int .u8 0, .int .u8 0, .int .u8 0, .int .u8 0, .int .u8 0, .int .u8 0, .int .u8 0, .int .u8 0, .int .u8 0, .int .u8 0, .int .u8 0] := rfl
theorem pav_zer : pav zerP = [.int .i64 0, .int .u8 0, .int .u8 0, .int .u8 0, .int .u8 0, .int .u8 0, .int .u8 0, .int .u8 0, .int .u8 0, .int .u8 0, .int .u8 0, .int .u8 0, .int .u8 0, .int .u8 0, .int .u8 0, .int .u8 0, .int .u8 0, .int .i64 0] := rfl
theorem rav_zer : rav zerR = [.int .i64 0, .int .u8 0, .int .u8 0, .int .u8 0, .int .u8 0, .int .u8 0, .int .u8 0, .int .u8 0, .int .u8 0, .int .u8 0, .int .u8 0, .int .u8 0, .int .u8 0, .int .u8 0, .int .u8 0, .int .u8 0, .int .u8 0, .int .i64 0, .int .i64 0] := rfl

theorem bav_len (b : B16) : (bav b).length = 16 := by simp [bav, b.len]
theorem aav_len (a : Adr) : (aav a).length = 17 := by simp [aav, bav_len]
theorem pav_len (p : Pfx) : (pav p).length = 18 := by simp [pav, bav_len]
theorem rav_len (r : Rw) : (rav r).length = 19 := by simp [rav, bav_len]
theorem bav_data (b : B16) : dataL (bav b) = true := by
  simp only [dataL, bav, List.all_map, List.all_eq_true, Function.comp]
  intro x _; rfl
theorem all_data (l r : List AV) : dataL (l ++ r) = (dataL l && dataL r) := by simp [dataL]
theorem aav_data (a : Adr) : dataL (aav a) = true := by
  have := bav_data a.b; simp only [dataL, aav, List.all_cons, AV.isData, Bool.true_and] at *; exact this
theorem pav_data (p : Pfx) : dataL (pav p) = true := by
  have := bav_data p.adr.b
  simp only [dataL, pav, List.all_cons, AV.isData, Bool.true_and, List.all_append, List.all_nil, Bool.and_true] at *; exact this
theorem rav_data (r : Rw) : dataL (rav r) = true := by
  have := bav_data r.p.adr.b
  simp only [dataL, rav, List.all_cons, AV.isData, Bool.true_and, List.all_append, List.all_nil, Bool.and_true] at *; exact this
theorem below_append (m : Nat) : ∀ l r, belowL m (l ++ r) = (belowL m l && belowL m r)
  | [], r => by simp [belowL]
  | a :: l, r => by simp only [List.cons_append, belowL, below_append m l r, Bool.and_assoc]
theorem below_data (m : Nat) : ∀ {l : List AV}, dataL l = true → belowL m l = true
  | [], _ => rfl
  | a :: l, h => by
    simp only [dataL, List.all_cons, Bool.and_eq_true] at h
    simp only [belowL, below_data m (l := l) h.2, Bool.and_true]
    cases a <;> first | rfl | (have := h.1; cases this)
theorem bav_below (m : Nat) (b : B16) : belowL m (bav b) = true := below_data m (bav_data b)
theorem aav_below (m : Nat) (b : Adr) : belowL m (aav b) = true := below_data m (aav_data b)
theorem pav_below (m : Nat) (b : Pfx) : belowL m (pav b) = true := below_data m (pav_data b)
theorem rav_below (m : Nat) (b : Rw) : belowL m (rav b) = true := below_data m (rav_data b)

theorem pc_all (l : List AV) (n : Nat) (h : l.length = n) : piece l 0 n = some l := by
  unfold piece; rw [if_pos (by omega)]; subst h; simp
theorem bav_p (b : B16) : piece (bav b) 0 16 = some (bav b) := pc_all _ _ (bav_len b)
theorem aav_p (a : Adr) : piece (aav a) 0 17 = some (aav a) := pc_all _ _ (aav_len a)
theorem pav_p (p : Pfx) : piece (pav p) 0 18 = some (pav p) := pc_all _ _ (pav_len p)
theorem rav_p (r : Rw) : piece (rav r) 0 19 = some (rav r) := pc_all _ _ (rav_len r)
theorem aav_v (a : Adr) : piece (aav a) 0 1 = some [.int .i64 a.ver] := by
  unfold piece; rw [if_pos (by rw [aav_len]; omega)]; rfl
theorem pav_v (a : Pfx) : piece (pav a) 0 1 = some [.int .i64 a.adr.ver] := by
  unfold piece; rw [if_pos (by rw [pav_len]; omega)]; rfl
theorem rav_v (a : Rw) : piece (rav a) 0 1 = some [.int .i64 a.p.adr.ver] := by
  unfold piece; rw [if_pos (by rw [rav_len]; omega)]; rfl
theorem aav_b (a : Adr) : piece (aav a) 1 16 = some (bav a.b) := by
  unfold piece; rw [if_pos (by rw [aav_len]; omega)]
  have := bav_len a.b
  simp only [aav, List.drop_succ_cons, List.drop_zero]
  rw [← this, List.take_length]
theorem pav_b (a : Pfx) : piece (pav a) 1 16 = some (bav a.adr.b) := by
  unfold piece; rw [if_pos (by rw [pav_len]; omega)]
  have := bav_len a.adr.b
  simp only [pav, List.drop_succ_cons, List.drop_zero]
  rw [← this, List.take_left]
theorem rav_b (a : Rw) : piece (rav a) 1 16 = some (bav a.p.adr.b) := by
  unfold piece; rw [if_pos (by rw [rav_len]; omega)]
  have := bav_len a.p.adr.b
  simp only [rav, List.drop_succ_cons, List.drop_zero]
  rw [← this, List.take_left]
theorem pav_a (a : Pfx) : piece (pav a) 0 17 = some (aav a.adr) := by
  unfold piece; rw [if_pos (by rw [pav_len]; omega)]
  have := bav_len a.adr.b
  simp only [pav, aav, List.take_succ_cons, List.drop_zero]
  rw [← this, List.take_left]
theorem rav_a (a : Rw) : piece (rav a) 0 17 = some (aav a.p.adr) := by
  unfold piece; rw [if_pos (by rw [rav_len]; omega)]
  have := bav_len a.p.adr.b
  simp only [rav, aav, List.take_succ_cons, List.drop_zero]
  rw [← this, List.take_left]
theorem drop16 (b : B16) (r : List AV) (n : Nat) : (bav b ++ r).drop (16 + n) = r.drop n := by
  rw [← bav_len b, List.drop_append]; simp
theorem pav_n (a : Pfx) : piece (pav a) 17 1 = some [.int .i64 a.bits] := by
  unfold piece; rw [if_pos (by rw [pav_len]; omega)]
  simp only [pav, List.drop_succ_cons]
  rw [show (16 : Nat) = 16 + 0 from rfl, drop16]; rfl
theorem rav_n (a : Rw) : piece (rav a) 17 1 = some [.int .i64 a.p.bits] := by
  unfold piece; rw [if_pos (by rw [rav_len]; omega)]
  simp only [rav, List.drop_succ_cons]
  rw [show (16 : Nat) = 16 + 0 from rfl, drop16]; rfl
theorem rav_h (a : Rw) : piece (rav a) 18 1 = some [.int .i64 a.hop] := by
  unfold piece; rw [if_pos (by rw [rav_len]; omega)]
  simp only [rav, List.drop_succ_cons]
  rw [show (17 : Nat) = 16 + 1 from rfl, drop16]; rfl
theorem rav_pf (a : Rw) : piece (rav a) 0 18 = some (pav a.p) := by
  unfold piece; rw [if_pos (by rw [rav_len]; omega)]
  have := bav_len a.p.adr.b
  simp only [rav, pav, List.take_succ_cons, List.drop_zero]
  rw [show (17 : Nat) = (bav a.p.adr.b).length + 1 by rw [this], List.take_length_add_append]; rfl

def B16.get (b : B16) (n : Nat) : Nat := b.l.getD n 0
theorem B16.get_lt (b : B16) (n : Nat) : b.get n < 256 := by
  unfold B16.get
  rw [List.getD_eq_getElem?_getD]
  cases h : b.l[n]? with
  | none => simp
  | some x => simpa using b.rng x (List.mem_of_getElem? h)
theorem B16.get_some (b : B16) {n : Nat} (h : n < 16) : b.l[n]? = some (b.get n) := by
  have h' : n < b.l.length := by rw [b.len]; exact h
  simp [B16.get, List.getElem?_eq_getElem h']
theorem bav_i (b : B16) (n : Nat) (h : n < 16) : piece (bav b) n 1 = some [.int .u8 (b.get n : Int)] := by
  unfold piece; rw [if_pos (by rw [bav_len]; omega)]
  have h' : n < (bav b).length := by rw [bav_len]; exact h
  rw [List.drop_eq_getElem_cons h']
  have : (bav b)[n]? = some (u8c (b.get n)) := by simp [bav, b.get_some h]
  rw [List.getElem?_eq_getElem h'] at this
  rw [Option.some.inj this]
  rfl
theorem B16.ext' {a b : B16} (h : ∀ n < 16, a.get n = b.get n) : a = b := by
  have : a.l = b.l := List.ext_getElem? fun n => by
    by_cases hn : n < 16
    · rw [a.get_some hn, b.get_some hn, h n hn]
    · rw [List.getElem?_eq_none (by rw [a.len]; omega), List.getElem?_eq_none (by rw [b.len]; omega)]
  cases a; cases b; simp only [B16.mk.injEq]; exact this
def B16.put (b : B16) (n v : Nat) : B16 := if h : v < 256 then ⟨b.l.set n v, by simp [b.len], fun x hx => by
  rcases List.mem_or_eq_of_mem_set hx with h' | h'
  · exact b.rng x h'
  · omega⟩ else b
theorem B16.get_put (b : B16) {n v k : Nat} (hn : n < 16) (hv : v < 256) : (b.put n v).get k = if k = n then v else b.get k := by
  unfold B16.put; rw [dif_pos hv]
  simp only [B16.get, List.getD_eq_getElem?_getD, List.getElem?_set]
  by_cases h : n = k
  · subst h; simp [b.len, hn]
  · rw [if_neg h, if_neg (fun e => h e.symm)]
theorem bav_put (b : B16) {n v : Nat} (hn : n < 16) (hv : v < 256) : ovr (bav b) n [.int .u8 (v : Int)] = some (bav (b.put n v)) := by
  unfold ovr
  rw [if_pos (by simp [bav_len]; omega)]
  unfold B16.put; rw [dif_pos hv]
  have h' : n < (bav b).length := by rw [bav_len]; exact hn
  show some ((bav b).take n ++ [u8c v] ++ (bav b).drop (n + 1)) = _
  simp only [bav, List.map_set]
  rw [List.set_eq_take_append_cons_drop, if_pos (by simpa [bav] using h')]
  simp
def gen (f : Nat → Nat) : B16 := ⟨(List.range 16).map (fun i => f i % 256), by simp, fun x hx => by
  obtain ⟨i, _, rfl⟩ := List.mem_map.1 hx; exact Nat.mod_lt _ (by decide)⟩
theorem gen_get (f : Nat → Nat) {n : Nat} (h : n < 16) : (gen f).get n = f n % 256 := by
  simp [gen, B16.get, List.getD_eq_getElem?_getD, h]

/-! ### Bits -/
def bit (b : B16) (k : Nat) : Bool := (b.get (k / 8)).testBit (7 - k % 8)
theorem byte_ext {x y : Nat} (hx : x < 256) (hy : y < 256) (h : ∀ j < 8, x.testBit j = y.testBit j) : x = y := by
  apply Nat.eq_of_testBit_eq
  intro j
  by_cases hj : j < 8
  · exact h j hj
  · rw [Nat.testBit_lt_two_pow (Nat.lt_of_lt_of_le hx (Nat.pow_le_pow_right (n := 2) (by decide) (show 8 ≤ j by omega))), Nat.testBit_lt_two_pow (Nat.lt_of_lt_of_le hy (Nat.pow_le_pow_right (n := 2) (by decide) (show 8 ≤ j by omega)))]
theorem bits_ext {a b : B16} (h : ∀ k < 128, bit a k = bit b k) : a = b := by
  apply B16.ext'
  intro n hn
  apply byte_ext (a.get_lt n) (b.get_lt n)
  intro j hj
  have := h (8 * n + (7 - j)) (by omega)
  unfold bit at this
  rw [show (8 * n + (7 - j)) / 8 = n by omega, show 7 - (8 * n + (7 - j)) % 8 = j by omega] at this
  exact this
def Clr (b : B16) (n : Nat) : Prop := ∀ k, n ≤ k → k < 128 → bit b k = false
instance {b : B16} {n : Nat} : Decidable (Clr b n) := decidable_of_iff (∀ k, k < 128 → n ≤ k → bit b k = false) ⟨fun h k h1 h2 => h k h2 h1, fun h k h1 h2 => h k h2 h1⟩
def width (v : Int) : Nat := if v = 4 then 32 else if v = 6 then 128 else 0
theorem width_le (v : Int) : width v ≤ 128 := by unfold width; split <;> (try split) <;> omega
def AddrOk (a : Adr) : Prop := width a.ver ≠ 0 ∧ Clr a.b (width a.ver)
instance {a : Adr} : Decidable (AddrOk a) := by unfold AddrOk; infer_instance
def PfxOk (p : Pfx) : Prop := AddrOk p.adr ∧ 0 ≤ p.bits ∧ p.bits ≤ width p.adr.ver ∧ Clr p.adr.b p.bits.toNat
instance {p : Pfx} : Decidable (PfxOk p) := by unfold PfxOk; infer_instance
def cutN (x n : Nat) : Nat := x / 2 ^ (8 - n) * 2 ^ (8 - n)
def cut (b : B16) (n : Nat) : B16 := gen fun i => cutN (b.get i) (n - 8 * i)
def Has (p : Pfx) (a : Adr) : Prop := PfxOk p ∧ AddrOk a ∧ p.adr.ver = a.ver ∧ cut a.b p.bits.toNat = p.adr.b
instance {p : Pfx} {a : Adr} : Decidable (Has p a) := by unfold Has; infer_instance
def Holds (p q : Pfx) : Prop := PfxOk q ∧ p.bits ≤ q.bits ∧ Has p q.adr
instance {p q : Pfx} : Decidable (Holds p q) := by unfold Holds; infer_instance
theorem cutN_le (x n : Nat) : cutN x n ≤ x := Nat.div_mul_le_self _ _
theorem cutN_bit (x n j : Nat) : (cutN x n).testBit j = (decide (8 - n ≤ j) && x.testBit j) := by
  unfold cutN
  rw [← Nat.shiftLeft_eq, ← Nat.shiftRight_eq_div_pow, Nat.testBit_shiftLeft, Nat.testBit_shiftRight]
  by_cases h : 8 - n ≤ j
  · simp [h, show 8 - n + (j - (8 - n)) = j by omega]
  · simp [h]
theorem cut_get (b : B16) (n : Nat) {i : Nat} (h : i < 16) : (cut b n).get i = cutN (b.get i) (n - 8 * i) := by
  unfold cut
  rw [gen_get _ h, Nat.mod_eq_of_lt (Nat.lt_of_le_of_lt (cutN_le _ _) (b.get_lt i))]
theorem cut_bit (b : B16) (n : Nat) {k : Nat} (h : k < 128) : bit (cut b n) k = (decide (k < n) && bit b k) := by
  unfold bit
  rw [cut_get b n (by omega), cutN_bit]
  congr 1
  apply decide_eq_decide.2
  omega
theorem has_bits {p : Pfx} {a : B16} {n : Nat} (hc : Clr p.adr.b n) : cut a n = p.adr.b ↔ ∀ i < n, i < 128 → bit p.adr.b i = bit a i := by
  constructor
  · intro h i hi h2
    rw [← h, cut_bit a n h2]; simp [hi]
  · intro h
    apply bits_ext
    intro k hk
    rw [cut_bit a n hk]
    by_cases hn : k < n
    · simp [hn, h k hn hk]
    · simp [hn, hc k (by omega) hk]

/-! ### Whole numbers in the machine -/
theorem quo8 (k : Nat) (h : k ≤ 9223372036854775807) : IntKind.i64.wrap ((k : Int).tdiv 8) = ((k / 8 : Nat) : Int) := by
  rw [IntWalk.i64_quo _ _ (by omega)]; omega
theorem rem8 (k : Nat) : (k : Int).tmod 8 = ((k % 8 : Nat) : Int) := by
  rw [Int.tmod_eq_emod_of_nonneg (by omega)]; omega
theorem sub7 (k : Nat) : IntKind.i64.wrap (7 - ((k % 8 : Nat) : Int)) = ((7 - k % 8 : Nat) : Int) := by
  rw [IntWalk.i64_in _ (by omega)]; omega
theorem shrN (x j : Nat) (h : j ≤ 8) : ((x : Int).fdiv (2 ^ (Nat.min j 8))) = ((x / 2 ^ j : Nat) : Int) := by
  rw [show Nat.min j 8 = j from Nat.min_eq_left h, Int.fdiv_eq_ediv_of_nonneg _ (Int.pow_nonneg (by decide))]
  simp
theorem and1 (x : Nat) (h : x < 256) : bits2 .and .u8 (x : Int) 1 = some ((x % 2 : Nat) : Int) := by
  have : ∀ x < 256, bits2 .and .u8 ((x : Nat) : Int) 1 = some ((x % 2 : Nat) : Int) := by decide +kernel
  exact this x h
theorem bit_and (b : B16) (k : Nat) : (((b.get (k / 8) / 2 ^ (7 - k % 8)) % 2 : Nat) : Int) = if bit b k then 1 else 0 := by
  unfold bit
  rw [Nat.testBit_eq_decide_div_mod_eq]
  have := Nat.mod_two_eq_zero_or_one (b.get (k / 8) / 2 ^ (7 - k % 8))
  rcases this with h | h <;> rw [h] <;> simp

theorem eqInts (k : IntKind) : ∀ (l r : List Int), l.length = r.length → eqCells (List.replicate l.length 1) (l.map (.int k)) (r.map (.int k)) = some (decide (l = r))
  | [], [], _ => rfl
  | a :: l, b :: r, h => by
    simp only [List.length_cons, List.replicate_succ, List.map_cons, eqCells, A.kindOk, if_true, eqCell, eqInts k l r (by simpa using h), List.cons.injEq, Option.some.injEq]
    by_cases h1 : a = b <;> by_cases h2 : l = r <;> simp [h1, h2]
  | [], _ :: _, h => by simp at h
  | _ :: _, [], h => by simp at h
theorem eqCells_append : ∀ (k1 k2 : List Nat) (a b c d : List AV), k1.length = a.length → a.length = c.length → eqCells (k1 ++ k2) (a ++ b) (c ++ d) = match eqCells k1 a c, eqCells k2 b d with
    | some x, some y => some (x && y)
    | _, _ => none
  | [], k2, [], b, [], d, _, _ => by
    simp only [List.nil_append, eqCells]
    cases eqCells k2 b d <;> simp
  | n :: k1, k2, x :: a, b, y :: c, d, h1, h2 => by
    simp only [List.cons_append, eqCells]
    rw [eqCells_append k1 k2 a b c d (by simpa using h1) (by simpa using h2)]
    cases A.kindOk n x <;> simp only [Bool.false_eq_true, if_false, if_true]
    cases eqCell x y <;> cases eqCells k1 a c <;> cases eqCells k2 b d <;> simp [Bool.and_assoc]
  | [], _, _ :: _, _, _, _, h, _ => by simp at h
  | _ :: _, _, [], _, _, _, h, _ => by simp at h
  | _, _, [], _, _ :: _, _, _, h => by simp at h
  | _, _, _ :: _, _, [], _, _, h => by simp at h
theorem bav_ints (b : B16) : bav b = (b.l.map (fun x : Nat => (x : Int))).map (.int .u8) := by simp only [bav, List.map_map]; rfl
theorem eq_bav (a b : B16) : eqCells [1, 1, 1, 1, 1, 1, 1, 1, 1, 1, 1, 1, 1, 1, 1, 1] (bav a) (bav b) = some (decide (a = b)) := by
  have h := eqInts .u8 (a.l.map fun x : Nat => (x : Int)) (b.l.map fun x : Nat => (x : Int)) (by simp [a.len, b.len])
  rw [← bav_ints, ← bav_ints] at h
  simp only [List.length_map, a.len] at h
  refine h.trans (congrArg some (decide_eq_decide.2 ?_))
  constructor
  · intro h
    have : a.l = b.l := List.map_inj_right (fun x y h => Int.ofNat.inj h) |>.1 h
    cases a; cases b; simp only [B16.mk.injEq]; exact this
  · intro h; rw [h]
theorem eq1 (k : IntKind) (x y : Int) : eqCells [1] [.int k x] [.int k y] = some (decide (x = y)) := by
  simp only [eqCells, A.kindOk, if_true, eqCell, Bool.and_true, Option.some.injEq]
  by_cases h : x = y <;> simp [h]
theorem eq2 (k : IntKind) (x y z w : Int) : eqCells [1, 1] [.int k x, .int k z] [.int k y, .int k w] = some (decide (x = y) && decide (z = w)) := by
  simp only [eqCells, A.kindOk, if_true, eqCell, Bool.and_true, Option.some.injEq]
  by_cases h : x = y <;> by_cases h2 : z = w <;> simp [h, h2]
theorem eq_aav (a b : Adr) : eqCells [1, 1, 1, 1, 1, 1, 1, 1, 1, 1, 1, 1, 1, 1, 1, 1, 1] (aav a) (aav b) = some (decide (a = b)) := by
  have := eqCells_append [1] [1, 1, 1, 1, 1, 1, 1, 1, 1, 1, 1, 1, 1, 1, 1, 1] [.int .i64 a.ver] (bav a.b) [.int .i64 b.ver] (bav b.b) rfl rfl
  rw [eq1, eq_bav] at this
  refine this.trans (congrArg some ?_)
  obtain ⟨v, x⟩ := a; obtain ⟨w, y⟩ := b
  by_cases h1 : v = w <;> by_cases h2 : x = y <;> simp [h1, h2]
theorem eq_pav (a b : Pfx) : eqCells [1, 1, 1, 1, 1, 1, 1, 1, 1, 1, 1, 1, 1, 1, 1, 1, 1, 1] (pav a) (pav b) = some (decide (a = b)) := by
  have := eqCells_append [1, 1, 1, 1, 1, 1, 1, 1, 1, 1, 1, 1, 1, 1, 1, 1, 1] [1] (aav a.adr) [.int .i64 a.bits] (aav b.adr) [.int .i64 b.bits] (by rw [aav_len]; rfl) (by rw [aav_len, aav_len])
  rw [eq1, eq_aav] at this
  refine this.trans (congrArg some ?_)
  obtain ⟨v, x⟩ := a; obtain ⟨w, y⟩ := b
  by_cases h1 : v = w <;> by_cases h2 : x = y <;> simp [h1, h2]
theorem eq_rav (a b : Rw) : eqCells [1, 1, 1, 1, 1, 1, 1, 1, 1, 1, 1, 1, 1, 1, 1, 1, 1, 1, 1] (rav a) (rav b) = some (decide (a = b)) := by
  have := eqCells_append [1, 1, 1, 1, 1, 1, 1, 1, 1, 1, 1, 1, 1, 1, 1, 1, 1, 1] [1] (pav a.p) [.int .i64 a.hop] (pav b.p) [.int .i64 b.hop] (by rw [pav_len]; rfl) (by rw [pav_len, pav_len])
  have e : ∀ a : Rw, pav a.p ++ [.int .i64 a.hop] = rav a := fun a => by simp [pav, rav]
  rw [eq1, eq_pav, e, e] at this
  refine this.trans (congrArg some ?_)
  obtain ⟨v, x⟩ := a; obtain ⟨w, y⟩ := b
  by_cases h1 : v = w <;> by_cases h2 : x = y <;> simp [h1, h2]

theorem and255 (x d : Nat) (hx : x < 256) (hd : d ≤ 8) : bits2 .and .u8 (x : Int) (IntKind.u8.wrap (255 * 2 ^ (Nat.min d 8))) = some ((x / 2 ^ d * 2 ^ d : Nat) : Int) := by
  have : ∀ x < 256, ∀ d < 9, bits2 .and .u8 ((x : Nat) : Int) (IntKind.u8.wrap (255 * 2 ^ (Nat.min d 8))) = some ((x / 2 ^ d * 2 ^ d : Nat) : Int) := by decide +kernel
  exact this x hx d (by omega)
def cutTo (b : B16) (n k : Nat) : B16 := gen fun i => if i < k then cutN (b.get i) (n - 8 * i) else b.get i
theorem cutTo_get (b : B16) (n k : Nat) {i : Nat} (h : i < 16) : (cutTo b n k).get i = if i < k then cutN (b.get i) (n - 8 * i) else b.get i := by
  unfold cutTo
  rw [gen_get _ h, Nat.mod_eq_of_lt]
  split
  · exact Nat.lt_of_le_of_lt (cutN_le _ _) (b.get_lt i)
  · exact b.get_lt i
theorem cutTo_0 (b : B16) (n : Nat) : cutTo b n 0 = b := B16.ext' fun i hi => by rw [cutTo_get _ _ _ hi, if_neg (by omega)]
theorem cutTo_16 (b : B16) (n : Nat) : cutTo b n 16 = cut b n := B16.ext' fun i hi => by rw [cutTo_get _ _ _ hi, if_pos hi, cut_get _ _ hi]
theorem cutTo_put (b : B16) (n k : Nat) {v : Nat} (hk : k < 16) (hv : v = cutN (b.get k) (n - 8 * k)) : (cutTo b n k).put k v = cutTo b n (k + 1) := B16.ext' fun i hi => by
  rw [B16.get_put _ hk (by rw [hv]; exact Nat.lt_of_le_of_lt (cutN_le _ _) (b.get_lt k)), cutTo_get _ _ _ hi, cutTo_get _ _ _ hi]
  by_cases h : i = k
  · subst h; simp [hv]
  · rw [if_neg h]
    by_cases h2 : i < k
    · rw [if_pos h2, if_pos (by omega)]
    · rw [if_neg h2, if_neg (by omega)]
theorem cutTo_same (b : B16) (n k : Nat) (hv : b.get k = cutN (b.get k) (n - 8 * k)) : cutTo b n k = cutTo b n (k + 1) := B16.ext' fun i hi => by
  rw [cutTo_get _ _ _ hi, cutTo_get _ _ _ hi]
  by_cases h : i = k
  · subst h; simp [← hv]
  · by_cases h2 : i < k
    · rw [if_pos h2, if_pos (by omega)]
    · rw [if_neg h2, if_neg (by omega)]
theorem bav_put0 (b : B16) {n : Nat} (hn : n < 16) : ovr (bav b) n [.int .u8 0] = some (bav (b.put n 0)) := bav_put b hn (by decide)
theorem ovr_all (l r : List AV) (h : l.length = r.length) : ovr l 0 r = some r := by
  unfold ovr; rw [if_pos (by omega)]; simp [h]
theorem bav_o (l : List AV) (b : B16) (h : l.length = 16) : ovr l 0 (bav b) = some (bav b) := ovr_all _ _ (by rw [h, bav_len])
theorem aav_o (l : List AV) (b : Adr) (h : l.length = 17) : ovr l 0 (aav b) = some (aav b) := ovr_all _ _ (by rw [h, aav_len])
theorem pav_o (l : List AV) (b : Pfx) (h : l.length = 18) : ovr l 0 (pav b) = some (pav b) := ovr_all _ _ (by rw [h, pav_len])
theorem rav_o (l : List AV) (b : Rw) (h : l.length = 19) : ovr l 0 (rav b) = some (rav b) := ovr_all _ _ (by rw [h, rav_len])
theorem aav_ob (a : Adr) (b : B16) : ovr (aav a) 1 (bav b) = some (aav ⟨a.ver, b⟩) := by
  unfold ovr; rw [if_pos (by rw [aav_len, bav_len]; omega)]
  simp only [aav, bav_len, List.take_succ_cons, List.take_zero, List.cons_append, List.nil_append, List.drop_succ_cons]
  rw [List.drop_eq_nil_of_le (by rw [bav_len]; omega)]; simp
theorem pav_oa (p : Pfx) (a : Adr) : ovr (pav p) 0 (aav a) = some (pav ⟨a, p.bits⟩) := by
  unfold ovr; rw [if_pos (by rw [pav_len, aav_len]; omega)]
  simp only [aav_len, List.take_zero, List.nil_append, Nat.zero_add]
  simp only [pav, aav, List.drop_succ_cons]
  rw [show (16 : Nat) = 16 + 0 from rfl, drop16]; rfl
theorem pav_on (p : Pfx) (n : Int) : ovr (pav p) 17 [.int .i64 n] = some (pav ⟨p.adr, n⟩) := by
  unfold ovr; rw [if_pos (by rw [pav_len]; simp)]
  have h := bav_len p.adr.b
  simp only [pav, List.take_succ_cons, List.length_cons, List.length_nil, List.drop_succ_cons]
  rw [show (bav p.adr.b ++ [AV.int IntKind.i64 p.bits]).take 16 = bav p.adr.b by rw [← h, List.take_left], show (17 : Nat) = 16 + 1 from rfl, drop16]; simp
theorem DB : (((((type_of% (@bav_len) ∧ type_of% (@aav_len)) ∧ (type_of% (@pav_len) ∧ type_of% (@rav_len))) ∧ ((type_of% (@bav_data) ∧ type_of% (@aav_data)) ∧ (type_of% (@pav_data) ∧ type_of% (@rav_data)))) ∧ (((type_of% (@bav_p) ∧ type_of% (@aav_p)) ∧ (type_of% (@pav_p) ∧ type_of% (@rav_p))) ∧ ((type_of% (@aav_v) ∧ type_of% (@pav_v)) ∧ (type_of% (@rav_v) ∧ (type_of% (@aav_b) ∧ type_of% (@pav_b)))))) ∧ ((((type_of% (@rav_b) ∧ type_of% (@pav_a)) ∧ (type_of% (@rav_a) ∧ type_of% (@pav_n))) ∧ ((type_of% (@rav_n) ∧ type_of% (@rav_h)) ∧ (type_of% (@rav_pf) ∧ (type_of% (@bav_o) ∧ type_of% (@pav_o))))) ∧ (((type_of% (@aav_o) ∧ type_of% (@rav_o)) ∧ (type_of% (@aav_ob) ∧ type_of% (@pav_oa))) ∧ ((type_of% (@pav_on) ∧ type_of% (@eq_bav)) ∧ (type_of% (@eq_aav) ∧ (type_of% (@eq_pav) ∧ type_of% (@eq_rav))))))) := ⟨⟨⟨⟨⟨@bav_len, @aav_len⟩, ⟨@pav_len, @rav_len⟩⟩, ⟨⟨@bav_data, @aav_data⟩, ⟨@pav_data, @rav_data⟩⟩⟩, ⟨⟨⟨@bav_p, @aav_p⟩, ⟨@pav_p, @rav_p⟩⟩, ⟨⟨@aav_v, @pav_v⟩, ⟨@rav_v, ⟨@aav_b, @pav_b⟩⟩⟩⟩⟩, ⟨⟨⟨⟨@rav_b, @pav_a⟩, ⟨@rav_a, @pav_n⟩⟩, ⟨⟨@rav_n, @rav_h⟩, ⟨@rav_pf, ⟨@bav_o, @pav_o⟩⟩⟩⟩, ⟨⟨⟨@aav_o, @rav_o⟩, ⟨@aav_ob, @pav_oa⟩⟩, ⟨⟨@pav_on, @eq_bav⟩, ⟨@eq_aav, ⟨@eq_pav, @eq_rav⟩⟩⟩⟩⟩⟩
theorem LPB : ((((type_of% (@refs_int) ∧ (type_of% (@refs_bool) ∧ type_of% (@refs_str))) ∧ ((type_of% (@refs_ro) ∧ type_of% (@refs_clip)) ∧ (type_of% (@refs_nilf) ∧ type_of% (@refs_nilp)))) ∧ ((type_of% (@refs_rp) ∧ (type_of% (@refs_yld) ∧ type_of% (@refs_refs))) ∧ ((type_of% (@refs_rq) ∧ type_of% (@belowR_nil)) ∧ (type_of% (@belowR_cons) ∧ type_of% (@refs_ptr))))) ∧ (((type_of% (@refs_lis) ∧ (type_of% (@refs_clo) ∧ type_of% (@refs_agg))) ∧ ((type_of% (@refs_tup) ∧ type_of% (@below_nil)) ∧ (type_of% (@below_cons) ∧ type_of% (@bref_dead)))) ∧ (((type_of% (@bref_box) ∧ type_of% (@bref_lst)) ∧ (type_of% (@ball_nil) ∧ type_of% (@ball_cons))) ∧ ((type_of% (@bav_below) ∧ type_of% (@aav_below)) ∧ (type_of% (@pav_below) ∧ type_of% (@rav_below)))))) := ⟨⟨⟨⟨@refs_int, ⟨@refs_bool, @refs_str⟩⟩, ⟨⟨@refs_ro, @refs_clip⟩, ⟨@refs_nilf, @refs_nilp⟩⟩⟩, ⟨⟨@refs_rp, ⟨@refs_yld, @refs_refs⟩⟩, ⟨⟨@refs_rq, @belowR_nil⟩, ⟨@belowR_cons, @refs_ptr⟩⟩⟩⟩, ⟨⟨⟨@refs_lis, ⟨@refs_clo, @refs_agg⟩⟩, ⟨⟨@refs_tup, @below_nil⟩, ⟨@below_cons, @bref_dead⟩⟩⟩, ⟨⟨⟨@bref_box, @bref_lst⟩, ⟨@ball_nil, @ball_cons⟩⟩, ⟨⟨@bav_below, @aav_below⟩, ⟨@pav_below, @rav_below⟩⟩⟩⟩⟩
end Go.Proofs.YtdllnneeopbmdaaDoor.D

/- The program's prefixes: what its functions tell. No condition. -/
set_option linter.unusedSimpArgs false
namespace Go.Proofs.YtdllnneeopbmdaaDoor.F
open Go Go.Proofs.YtdllnneeopbmdaaDoor.A Go.Proofs.YtdllnneeopbmdaaDoor.D
theorem e_prefix_Width (v : Int) : LV E 85 [.int .i64 v] = some (.int .i64 (width v)) := by
  rw [LV_R (fn := f85) rfl rfl rfl]
  simp only [f85, RB, pickV, eqbV, notV, negV, convV, faddrV, fldV, idxV, eqaggV, iaddrV, isnilV, nilckV, cloV, extrV, slenV, minV, sidxV, abin, cmpInt, params, growLists, fillCells, newAt, rdPtr, wrPtr, AV.cells, asVal, lenOf, boundOf, rowsOf, argIds, freshIn, scalar1, setAll, AV.isData, AV.isYld, Nat.reduceAdd, Nat.reduceMul, Nat.reduceSub, Nat.reduceEqDiff, Nat.reduceLeDiff, Nat.reduceLT, Int.reduceNeg, ↓reduceIte, reduceCtorEq, Int.reduceEq, Int.reduceLT, Int.reduceLE, Int.reduceBEq, Int.reduceBNe, Int.reduceToNat, IntKind.bits, Int.reduceAdd, Int.reduceSub, Int.reduceMul, Int.reduceTDiv, Int.reduceTMod]
  (repeat' (first
    | (refine Ci_cases (fun h => ?_) (fun h => ?_) <;> simp only [h, RB, pickV, eqbV, notV, negV, convV, faddrV, fldV, idxV, eqaggV, iaddrV, isnilV, nilckV, cloV, extrV, slenV, minV, sidxV, abin, cmpInt, params, growLists, fillCells, newAt, rdPtr, wrPtr, AV.cells, asVal, lenOf, boundOf, rowsOf, argIds, freshIn, scalar1, setAll, AV.isData, AV.isYld, Nat.reduceAdd, Nat.reduceMul, Nat.reduceSub, Nat.reduceEqDiff, Nat.reduceLeDiff, Nat.reduceLT, Int.reduceNeg, ↓reduceIte, reduceCtorEq, Int.reduceEq, Int.reduceLT, Int.reduceLE, Int.reduceBEq, Int.reduceBNe, Int.reduceToNat, IntKind.bits, Int.reduceAdd, Int.reduceSub, Int.reduceMul, Int.reduceTDiv, Int.reduceTMod])
    | (refine Gi_cases (fun h => ?_) (fun h => ?_) <;> simp only [h, RB, pickV, eqbV, notV, negV, convV, faddrV, fldV, idxV, eqaggV, iaddrV, isnilV, nilckV, cloV, extrV, slenV, minV, sidxV, abin, cmpInt, params, growLists, fillCells, newAt, rdPtr, wrPtr, AV.cells, asVal, lenOf, boundOf, rowsOf, argIds, freshIn, scalar1, setAll, AV.isData, AV.isYld, Nat.reduceAdd, Nat.reduceMul, Nat.reduceSub, Nat.reduceEqDiff, Nat.reduceLeDiff, Nat.reduceLT, Int.reduceNeg, ↓reduceIte, reduceCtorEq, Int.reduceEq, Int.reduceLT, Int.reduceLE, Int.reduceBEq, Int.reduceBNe, Int.reduceToNat, IntKind.bits, Int.reduceAdd, Int.reduceSub, Int.reduceMul, Int.reduceTDiv, Int.reduceTMod])
    | (refine Gj_cases (fun h => ?_) (fun h => ?_) <;> simp only [h, RB, pickV, eqbV, notV, negV, convV, faddrV, fldV, idxV, eqaggV, iaddrV, isnilV, nilckV, cloV, extrV, slenV, minV, sidxV, abin, cmpInt, params, growLists, fillCells, newAt, rdPtr, wrPtr, AV.cells, asVal, lenOf, boundOf, rowsOf, argIds, freshIn, scalar1, setAll, AV.isData, AV.isYld, Nat.reduceAdd, Nat.reduceMul, Nat.reduceSub, Nat.reduceEqDiff, Nat.reduceLeDiff, Nat.reduceLT, Int.reduceNeg, ↓reduceIte, reduceCtorEq, Int.reduceEq, Int.reduceLT, Int.reduceLE, Int.reduceBEq, Int.reduceBNe, Int.reduceToNat, IntKind.bits, Int.reduceAdd, Int.reduceSub, Int.reduceMul, Int.reduceTDiv, Int.reduceTMod])))
  · simp only [decide_eq_true_eq] at h
    simp [width, show v ≠ 4 by omega, show v ≠ 6 by omega]
  · simp only [decide_eq_true_eq, decide_eq_false_iff_not] at *
    simp [width, show v ≠ 4 by omega, show v ≠ 6 by omega]
  · simp only [decide_eq_false_iff_not] at *
    have : v = 0 ∨ v = 1 ∨ v = 2 ∨ v = 3 ∨ v = 4 ∨ v = 5 ∨ v = 6 := by omega
    rcases this with rfl | rfl | rfl | rfl | rfl | rfl | rfl <;> simp [RB, pickV, eqbV, notV, negV, convV, faddrV, fldV, idxV, eqaggV, iaddrV, isnilV, nilckV, cloV, extrV, slenV, minV, sidxV, abin, cmpInt, params, growLists, fillCells, newAt, rdPtr, wrPtr, AV.cells, asVal, lenOf, boundOf, rowsOf, argIds, freshIn, scalar1, setAll, AV.isData, AV.isYld, Nat.reduceAdd, Nat.reduceMul, Nat.reduceSub, Nat.reduceEqDiff, Nat.reduceLeDiff, Nat.reduceLT, Int.reduceNeg, ↓reduceIte, reduceCtorEq, Int.reduceEq, Int.reduceLT, Int.reduceLE, Int.reduceBEq, Int.reduceBNe, Int.reduceToNat, IntKind.bits, Int.reduceAdd, Int.reduceSub, Int.reduceMul, Int.reduceTDiv, Int.reduceTMod, piece, width]
theorem e_cmp_isNaN_int (v : Int) : LV E 101 [.int .i64 v] = some (.bool false) := by
  rw [LV_R (fn := f101) rfl rfl rfl]
  simp only [f101, RB, pickV, eqbV, notV, negV, convV, faddrV, fldV, idxV, eqaggV, iaddrV, isnilV, nilckV, cloV, extrV, slenV, minV, sidxV, abin, cmpInt, params, growLists, fillCells, newAt, rdPtr, wrPtr, AV.cells, asVal, lenOf, boundOf, rowsOf, argIds, freshIn, scalar1, setAll, AV.isData, AV.isYld, Nat.reduceAdd, Nat.reduceMul, Nat.reduceSub, Nat.reduceEqDiff, Nat.reduceLeDiff, Nat.reduceLT, Int.reduceNeg, ↓reduceIte, reduceCtorEq, Int.reduceEq, Int.reduceLT, Int.reduceLE, Int.reduceBEq, Int.reduceBNe, Int.reduceToNat, IntKind.bits, Int.reduceAdd, Int.reduceSub, Int.reduceMul, Int.reduceTDiv, Int.reduceTMod, bne_self_eq_false]
def cmpI (a b : Int) : Int := if a < b then -1 else if b < a then 1 else 0
theorem e_cmp_Compare_int (a b : Int) : LV E 92 [.int .i64 a, .int .i64 b] = some (.int .i64 (cmpI a b)) := by
  rw [LV_R (fn := f92) rfl rfl rfl]
  simp only [f92, RB, pickV, eqbV, notV, negV, convV, faddrV, fldV, idxV, eqaggV, iaddrV, isnilV, nilckV, cloV, extrV, slenV, minV, sidxV, abin, cmpInt, params, growLists, fillCells, newAt, rdPtr, wrPtr, AV.cells, asVal, lenOf, boundOf, rowsOf, argIds, freshIn, scalar1, setAll, AV.isData, AV.isYld, Nat.reduceAdd, Nat.reduceMul, Nat.reduceSub, Nat.reduceEqDiff, Nat.reduceLeDiff, Nat.reduceLT, Int.reduceNeg, ↓reduceIte, reduceCtorEq, Int.reduceEq, Int.reduceLT, Int.reduceLE, Int.reduceBEq, Int.reduceBNe, Int.reduceToNat, IntKind.bits, Int.reduceAdd, Int.reduceSub, Int.reduceMul, Int.reduceTDiv, Int.reduceTMod, e_cmp_isNaN_int]
  (repeat' (first
    | (refine Ci_cases (fun h => ?_) (fun h => ?_) <;> simp only [h, RB, pickV, eqbV, notV, negV, convV, faddrV, fldV, idxV, eqaggV, iaddrV, isnilV, nilckV, cloV, extrV, slenV, minV, sidxV, abin, cmpInt, params, growLists, fillCells, newAt, rdPtr, wrPtr, AV.cells, asVal, lenOf, boundOf, rowsOf, argIds, freshIn, scalar1, setAll, AV.isData, AV.isYld, Nat.reduceAdd, Nat.reduceMul, Nat.reduceSub, Nat.reduceEqDiff, Nat.reduceLeDiff, Nat.reduceLT, Int.reduceNeg, ↓reduceIte, reduceCtorEq, Int.reduceEq, Int.reduceLT, Int.reduceLE, Int.reduceBEq, Int.reduceBNe, Int.reduceToNat, IntKind.bits, Int.reduceAdd, Int.reduceSub, Int.reduceMul, Int.reduceTDiv, Int.reduceTMod])
    | (refine Gi_cases (fun h => ?_) (fun h => ?_) <;> simp only [h, RB, pickV, eqbV, notV, negV, convV, faddrV, fldV, idxV, eqaggV, iaddrV, isnilV, nilckV, cloV, extrV, slenV, minV, sidxV, abin, cmpInt, params, growLists, fillCells, newAt, rdPtr, wrPtr, AV.cells, asVal, lenOf, boundOf, rowsOf, argIds, freshIn, scalar1, setAll, AV.isData, AV.isYld, Nat.reduceAdd, Nat.reduceMul, Nat.reduceSub, Nat.reduceEqDiff, Nat.reduceLeDiff, Nat.reduceLT, Int.reduceNeg, ↓reduceIte, reduceCtorEq, Int.reduceEq, Int.reduceLT, Int.reduceLE, Int.reduceBEq, Int.reduceBNe, Int.reduceToNat, IntKind.bits, Int.reduceAdd, Int.reduceSub, Int.reduceMul, Int.reduceTDiv, Int.reduceTMod])
    | (refine Gj_cases (fun h => ?_) (fun h => ?_) <;> simp only [h, RB, pickV, eqbV, notV, negV, convV, faddrV, fldV, idxV, eqaggV, iaddrV, isnilV, nilckV, cloV, extrV, slenV, minV, sidxV, abin, cmpInt, params, growLists, fillCells, newAt, rdPtr, wrPtr, AV.cells, asVal, lenOf, boundOf, rowsOf, argIds, freshIn, scalar1, setAll, AV.isData, AV.isYld, Nat.reduceAdd, Nat.reduceMul, Nat.reduceSub, Nat.reduceEqDiff, Nat.reduceLeDiff, Nat.reduceLT, Int.reduceNeg, ↓reduceIte, reduceCtorEq, Int.reduceEq, Int.reduceLT, Int.reduceLE, Int.reduceBEq, Int.reduceBNe, Int.reduceToNat, IntKind.bits, Int.reduceAdd, Int.reduceSub, Int.reduceMul, Int.reduceTDiv, Int.reduceTMod])))
  all_goals (simp only [decide_eq_true_eq, decide_eq_false_iff_not] at *; simp only [cmpI, Option.some.injEq, AV.int.injEq, true_and]; (repeat split) <;> omega)
theorem e_prefix_clear (b : B16) (n : Nat) : LV E 86 [.agg (bav b), .int .i64 (n : Int)] = some (.bool (decide (Clr b n))) := by
  rw [LV_R (fn := f86) rfl rfl rfl]
  simp only [f86, RB, pickV, eqbV, notV, negV, convV, faddrV, fldV, idxV, eqaggV, iaddrV, isnilV, nilckV, cloV, extrV, slenV, minV, sidxV, abin, cmpInt, params, growLists, fillCells, newAt, rdPtr, wrPtr, AV.cells, asVal, lenOf, boundOf, rowsOf, argIds, freshIn, scalar1, setAll, AV.isData, AV.isYld, Nat.reduceAdd, Nat.reduceMul, Nat.reduceSub, Nat.reduceEqDiff, Nat.reduceLeDiff, Nat.reduceLT, Int.reduceNeg, ↓reduceIte, reduceCtorEq, Int.reduceEq, Int.reduceLT, Int.reduceLE, Int.reduceBEq, Int.reduceBNe, Int.reduceToNat, IntKind.bits, Int.reduceAdd, Int.reduceSub, Int.reduceMul, Int.reduceTDiv, Int.reduceTMod, DB]
  refine W_rec (ι := Nat) (M := fun k => [(2, .ptr 0 0 0 0), (5, .int .i64 (k : Int))]) (H := fun _ => ⟨[.box 0 31 (bav b)], []⟩) (r := fun k => some (AV.bool (decide (Clr b k)))) (μ := fun k => 128 - k) (fun i => ?_) (fun k ih => ?_) n
  · simp [LPB]
  by_cases hk : k < 128
  · have f1 : (k : Int) < 128 := by omega
    have f2 : k / 8 < 16 := by omega
    have f3 : ((k / 8 : Nat) : Int) < 16 := by omega
    have f4 : (0 : Int) ≤ ((k / 8 : Nat) : Int) := by omega
    have f5 : (0 : Int) ≤ ((7 - k % 8 : Nat) : Int) := by omega
    have f6 : IntKind.i64.wrap ((k : Int) + 1) = ((k + 1 : Nat) : Int) := by rw [IntWalk.i64_in _ (by omega)] <;> omega
    cases hb : bit b k with
    | true =>
      simp only [RB, pickV, eqbV, notV, negV, convV, faddrV, fldV, idxV, eqaggV, iaddrV, isnilV, nilckV, cloV, extrV, slenV, minV, sidxV, abin, cmpInt, params, growLists, fillCells, newAt, rdPtr, wrPtr, AV.cells, asVal, lenOf, boundOf, rowsOf, argIds, freshIn, scalar1, setAll, AV.isData, AV.isYld, Nat.reduceAdd, Nat.reduceMul, Nat.reduceSub, Nat.reduceEqDiff, Nat.reduceLeDiff, Nat.reduceLT, Int.reduceNeg, ↓reduceIte, reduceCtorEq, Int.reduceEq, Int.reduceLT, Int.reduceLE, Int.reduceBEq, Int.reduceBNe, Int.reduceToNat, IntKind.bits, Int.reduceAdd, Int.reduceSub, Int.reduceMul, Int.reduceTDiv, Int.reduceTMod, DB, f1, f3, f4, f5, quo8 k (by omega), rem8, sub7, bav_i b (k / 8) f2, shrN _ (7 - k % 8) (by omega), and1 _ (Nat.lt_of_le_of_lt (Nat.div_le_self _ _) (b.get_lt (k / 8))), bit_and, hb]
      rw [decide_eq_false fun hc => by rw [hc k (Nat.le_refl _) hk] at hb; cases hb]
    | false =>
      simp only [RB, pickV, eqbV, notV, negV, convV, faddrV, fldV, idxV, eqaggV, iaddrV, isnilV, nilckV, cloV, extrV, slenV, minV, sidxV, abin, cmpInt, params, growLists, fillCells, newAt, rdPtr, wrPtr, AV.cells, asVal, lenOf, boundOf, rowsOf, argIds, freshIn, scalar1, setAll, AV.isData, AV.isYld, Nat.reduceAdd, Nat.reduceMul, Nat.reduceSub, Nat.reduceEqDiff, Nat.reduceLeDiff, Nat.reduceLT, Int.reduceNeg, ↓reduceIte, reduceCtorEq, Int.reduceEq, Int.reduceLT, Int.reduceLE, Int.reduceBEq, Int.reduceBNe, Int.reduceToNat, IntKind.bits, Int.reduceAdd, Int.reduceSub, Int.reduceMul, Int.reduceTDiv, Int.reduceTMod, DB, f1, f3, f4, f5, quo8 k (by omega), rem8, sub7, bav_i b (k / 8) f2, shrN _ (7 - k % 8) (by omega), and1 _ (Nat.lt_of_le_of_lt (Nat.div_le_self _ _) (b.get_lt (k / 8))), bit_and, hb, f6]
      rw [ih (k + 1) (by omega)]
      congr 2
      refine decide_eq_decide.2 ⟨fun h j h1 h2 => ?_, fun h j h1 h2 => h j (by omega) h2⟩
      rcases Nat.lt_or_eq_of_le h1 with h3 | rfl
      · exact h j h3 h2
      · exact hb
  · simp only [RB, pickV, eqbV, notV, negV, convV, faddrV, fldV, idxV, eqaggV, iaddrV, isnilV, nilckV, cloV, extrV, slenV, minV, sidxV, abin, cmpInt, params, growLists, fillCells, newAt, rdPtr, wrPtr, AV.cells, asVal, lenOf, boundOf, rowsOf, argIds, freshIn, scalar1, setAll, AV.isData, AV.isYld, Nat.reduceAdd, Nat.reduceMul, Nat.reduceSub, Nat.reduceEqDiff, Nat.reduceLeDiff, Nat.reduceLT, Int.reduceNeg, ↓reduceIte, reduceCtorEq, Int.reduceEq, Int.reduceLT, Int.reduceLE, Int.reduceBEq, Int.reduceBNe, Int.reduceToNat, IntKind.bits, Int.reduceAdd, Int.reduceSub, Int.reduceMul, Int.reduceTDiv, Int.reduceTMod, DB, show ¬ (k : Int) < 128 by omega]
    rw [decide_eq_true (show Clr b k from fun j h1 h2 => absurd h2 (by omega))]
theorem e_prefix_CheckAddr (a : Adr) : LV E 76 [.agg (aav a)] = some (.int .i64 (if AddrOk a then 0 else 150)) := by
  rw [LV_R (fn := f76) rfl rfl rfl]
  simp only [f76, RB, pickV, eqbV, notV, negV, convV, faddrV, fldV, idxV, eqaggV, iaddrV, isnilV, nilckV, cloV, extrV, slenV, minV, sidxV, abin, cmpInt, params, growLists, fillCells, newAt, rdPtr, wrPtr, AV.cells, asVal, lenOf, boundOf, rowsOf, argIds, freshIn, scalar1, setAll, AV.isData, AV.isYld, Nat.reduceAdd, Nat.reduceMul, Nat.reduceSub, Nat.reduceEqDiff, Nat.reduceLeDiff, Nat.reduceLT, Int.reduceNeg, ↓reduceIte, reduceCtorEq, Int.reduceEq, Int.reduceLT, Int.reduceLE, Int.reduceBEq, Int.reduceBNe, Int.reduceToNat, IntKind.bits, Int.reduceAdd, Int.reduceSub, Int.reduceMul, Int.reduceTDiv, Int.reduceTMod, DB, e_prefix_Width, e_prefix_clear]
  (repeat' (first
    | (refine Ci_cases (fun h => ?_) (fun h => ?_) <;> simp only [h, RB, pickV, eqbV, notV, negV, convV, faddrV, fldV, idxV, eqaggV, iaddrV, isnilV, nilckV, cloV, extrV, slenV, minV, sidxV, abin, cmpInt, params, growLists, fillCells, newAt, rdPtr, wrPtr, AV.cells, asVal, lenOf, boundOf, rowsOf, argIds, freshIn, scalar1, setAll, AV.isData, AV.isYld, Nat.reduceAdd, Nat.reduceMul, Nat.reduceSub, Nat.reduceEqDiff, Nat.reduceLeDiff, Nat.reduceLT, Int.reduceNeg, ↓reduceIte, reduceCtorEq, Int.reduceEq, Int.reduceLT, Int.reduceLE, Int.reduceBEq, Int.reduceBNe, Int.reduceToNat, IntKind.bits, Int.reduceAdd, Int.reduceSub, Int.reduceMul, Int.reduceTDiv, Int.reduceTMod, DB, e_prefix_Width, e_prefix_clear])
    | (refine Gi_cases (fun h => ?_) (fun h => ?_) <;> simp only [h, RB, pickV, eqbV, notV, negV, convV, faddrV, fldV, idxV, eqaggV, iaddrV, isnilV, nilckV, cloV, extrV, slenV, minV, sidxV, abin, cmpInt, params, growLists, fillCells, newAt, rdPtr, wrPtr, AV.cells, asVal, lenOf, boundOf, rowsOf, argIds, freshIn, scalar1, setAll, AV.isData, AV.isYld, Nat.reduceAdd, Nat.reduceMul, Nat.reduceSub, Nat.reduceEqDiff, Nat.reduceLeDiff, Nat.reduceLT, Int.reduceNeg, ↓reduceIte, reduceCtorEq, Int.reduceEq, Int.reduceLT, Int.reduceLE, Int.reduceBEq, Int.reduceBNe, Int.reduceToNat, IntKind.bits, Int.reduceAdd, Int.reduceSub, Int.reduceMul, Int.reduceTDiv, Int.reduceTMod, DB, e_prefix_Width, e_prefix_clear])
    | (refine Gj_cases (fun h => ?_) (fun h => ?_) <;> simp only [h, RB, pickV, eqbV, notV, negV, convV, faddrV, fldV, idxV, eqaggV, iaddrV, isnilV, nilckV, cloV, extrV, slenV, minV, sidxV, abin, cmpInt, params, growLists, fillCells, newAt, rdPtr, wrPtr, AV.cells, asVal, lenOf, boundOf, rowsOf, argIds, freshIn, scalar1, setAll, AV.isData, AV.isYld, Nat.reduceAdd, Nat.reduceMul, Nat.reduceSub, Nat.reduceEqDiff, Nat.reduceLeDiff, Nat.reduceLT, Int.reduceNeg, ↓reduceIte, reduceCtorEq, Int.reduceEq, Int.reduceLT, Int.reduceLE, Int.reduceBEq, Int.reduceBNe, Int.reduceToNat, IntKind.bits, Int.reduceAdd, Int.reduceSub, Int.reduceMul, Int.reduceTDiv, Int.reduceTMod, DB, e_prefix_Width, e_prefix_clear])))
  all_goals simp_all [AddrOk]
theorem e_prefix_clear' (b : B16) {n : Int} (h : 0 ≤ n) : LV E 86 [.agg (bav b), .int .i64 n] = some (.bool (decide (Clr b n.toNat))) := by
  rw [show n = (n.toNat : Int) by omega, e_prefix_clear]; rfl
theorem e_prefix_Check (p : Pfx) : LV E 57 [.agg (pav p)] = some (.int .i64 (if PfxOk p then 0 else 151)) := by
  rw [LV_R (fn := f57) rfl rfl rfl]
  simp only [f57, RB, pickV, eqbV, notV, negV, convV, faddrV, fldV, idxV, eqaggV, iaddrV, isnilV, nilckV, cloV, extrV, slenV, minV, sidxV, abin, cmpInt, params, growLists, fillCells, newAt, rdPtr, wrPtr, AV.cells, asVal, lenOf, boundOf, rowsOf, argIds, freshIn, scalar1, setAll, AV.isData, AV.isYld, Nat.reduceAdd, Nat.reduceMul, Nat.reduceSub, Nat.reduceEqDiff, Nat.reduceLeDiff, Nat.reduceLT, Int.reduceNeg, ↓reduceIte, reduceCtorEq, Int.reduceEq, Int.reduceLT, Int.reduceLE, Int.reduceBEq, Int.reduceBNe, Int.reduceToNat, IntKind.bits, Int.reduceAdd, Int.reduceSub, Int.reduceMul, Int.reduceTDiv, Int.reduceTMod, DB, e_prefix_CheckAddr]
  by_cases h1 : AddrOk p.adr
  · by_cases h2 : p.bits < 0
    · simp only [RB, pickV, eqbV, notV, negV, convV, faddrV, fldV, idxV, eqaggV, iaddrV, isnilV, nilckV, cloV, extrV, slenV, minV, sidxV, abin, cmpInt, params, growLists, fillCells, newAt, rdPtr, wrPtr, AV.cells, asVal, lenOf, boundOf, rowsOf, argIds, freshIn, scalar1, setAll, AV.isData, AV.isYld, Nat.reduceAdd, Nat.reduceMul, Nat.reduceSub, Nat.reduceEqDiff, Nat.reduceLeDiff, Nat.reduceLT, Int.reduceNeg, ↓reduceIte, reduceCtorEq, Int.reduceEq, Int.reduceLT, Int.reduceLE, Int.reduceBEq, Int.reduceBNe, Int.reduceToNat, IntKind.bits, Int.reduceAdd, Int.reduceSub, Int.reduceMul, Int.reduceTDiv, Int.reduceTMod, DB, e_prefix_CheckAddr, e_prefix_Width, h1, h2]
      simp [PfxOk, h1, show ¬ 0 ≤ p.bits by omega]
    · by_cases h3 : (width p.adr.ver : Int) < p.bits
      · simp only [RB, pickV, eqbV, notV, negV, convV, faddrV, fldV, idxV, eqaggV, iaddrV, isnilV, nilckV, cloV, extrV, slenV, minV, sidxV, abin, cmpInt, params, growLists, fillCells, newAt, rdPtr, wrPtr, AV.cells, asVal, lenOf, boundOf, rowsOf, argIds, freshIn, scalar1, setAll, AV.isData, AV.isYld, Nat.reduceAdd, Nat.reduceMul, Nat.reduceSub, Nat.reduceEqDiff, Nat.reduceLeDiff, Nat.reduceLT, Int.reduceNeg, ↓reduceIte, reduceCtorEq, Int.reduceEq, Int.reduceLT, Int.reduceLE, Int.reduceBEq, Int.reduceBNe, Int.reduceToNat, IntKind.bits, Int.reduceAdd, Int.reduceSub, Int.reduceMul, Int.reduceTDiv, Int.reduceTMod, DB, e_prefix_CheckAddr, e_prefix_Width, h1, h2, h3]
        simp [PfxOk, h1, show ¬ p.bits ≤ width p.adr.ver by omega]
      · simp only [RB, pickV, eqbV, notV, negV, convV, faddrV, fldV, idxV, eqaggV, iaddrV, isnilV, nilckV, cloV, extrV, slenV, minV, sidxV, abin, cmpInt, params, growLists, fillCells, newAt, rdPtr, wrPtr, AV.cells, asVal, lenOf, boundOf, rowsOf, argIds, freshIn, scalar1, setAll, AV.isData, AV.isYld, Nat.reduceAdd, Nat.reduceMul, Nat.reduceSub, Nat.reduceEqDiff, Nat.reduceLeDiff, Nat.reduceLT, Int.reduceNeg, ↓reduceIte, reduceCtorEq, Int.reduceEq, Int.reduceLT, Int.reduceLE, Int.reduceBEq, Int.reduceBNe, Int.reduceToNat, IntKind.bits, Int.reduceAdd, Int.reduceSub, Int.reduceMul, Int.reduceTDiv, Int.reduceTMod, DB, e_prefix_CheckAddr, e_prefix_Width, h1, h2, h3, e_prefix_clear' _ (Int.not_lt.1 h2)]
        by_cases h4 : Clr p.adr.b p.bits.toNat
        · simp only [RB, pickV, eqbV, notV, negV, convV, faddrV, fldV, idxV, eqaggV, iaddrV, isnilV, nilckV, cloV, extrV, slenV, minV, sidxV, abin, cmpInt, params, growLists, fillCells, newAt, rdPtr, wrPtr, AV.cells, asVal, lenOf, boundOf, rowsOf, argIds, freshIn, scalar1, setAll, AV.isData, AV.isYld, Nat.reduceAdd, Nat.reduceMul, Nat.reduceSub, Nat.reduceEqDiff, Nat.reduceLeDiff, Nat.reduceLT, Int.reduceNeg, ↓reduceIte, reduceCtorEq, Int.reduceEq, Int.reduceLT, Int.reduceLE, Int.reduceBEq, Int.reduceBNe, Int.reduceToNat, IntKind.bits, Int.reduceAdd, Int.reduceSub, Int.reduceMul, Int.reduceTDiv, Int.reduceTMod, h4]
          simp [PfxOk, h1, h4, Int.not_lt.1 h2, Int.not_lt.1 h3]
        · simp only [RB, pickV, eqbV, notV, negV, convV, faddrV, fldV, idxV, eqaggV, iaddrV, isnilV, nilckV, cloV, extrV, slenV, minV, sidxV, abin, cmpInt, params, growLists, fillCells, newAt, rdPtr, wrPtr, AV.cells, asVal, lenOf, boundOf, rowsOf, argIds, freshIn, scalar1, setAll, AV.isData, AV.isYld, Nat.reduceAdd, Nat.reduceMul, Nat.reduceSub, Nat.reduceEqDiff, Nat.reduceLeDiff, Nat.reduceLT, Int.reduceNeg, ↓reduceIte, reduceCtorEq, Int.reduceEq, Int.reduceLT, Int.reduceLE, Int.reduceBEq, Int.reduceBNe, Int.reduceToNat, IntKind.bits, Int.reduceAdd, Int.reduceSub, Int.reduceMul, Int.reduceTDiv, Int.reduceTMod, h4]
          simp [PfxOk, h1, h4]
  · simp only [RB, pickV, eqbV, notV, negV, convV, faddrV, fldV, idxV, eqaggV, iaddrV, isnilV, nilckV, cloV, extrV, slenV, minV, sidxV, abin, cmpInt, params, growLists, fillCells, newAt, rdPtr, wrPtr, AV.cells, asVal, lenOf, boundOf, rowsOf, argIds, freshIn, scalar1, setAll, AV.isData, AV.isYld, Nat.reduceAdd, Nat.reduceMul, Nat.reduceSub, Nat.reduceEqDiff, Nat.reduceLeDiff, Nat.reduceLT, Int.reduceNeg, ↓reduceIte, reduceCtorEq, Int.reduceEq, Int.reduceLT, Int.reduceLE, Int.reduceBEq, Int.reduceBNe, Int.reduceToNat, IntKind.bits, Int.reduceAdd, Int.reduceSub, Int.reduceMul, Int.reduceTDiv, Int.reduceTMod, DB, e_prefix_CheckAddr, h1]
    simp [PfxOk, h1]
theorem e_prefix_cut (b : B16) (n : Nat) (hn : n ≤ 9223372036854775807) : LV E 99 [.agg (bav b), .int .i64 (n : Int)] = some (.agg (bav (cut b n))) := by
  rw [LV_R (fn := f99) rfl rfl rfl]
  simp only [f99, RB, pickV, eqbV, notV, negV, convV, faddrV, fldV, idxV, eqaggV, iaddrV, isnilV, nilckV, cloV, extrV, slenV, minV, sidxV, abin, cmpInt, params, growLists, fillCells, newAt, rdPtr, wrPtr, AV.cells, asVal, lenOf, boundOf, rowsOf, argIds, freshIn, scalar1, setAll, AV.isData, AV.isYld, Nat.reduceAdd, Nat.reduceMul, Nat.reduceSub, Nat.reduceEqDiff, Nat.reduceLeDiff, Nat.reduceLT, Int.reduceNeg, ↓reduceIte, reduceCtorEq, Int.reduceEq, Int.reduceLT, Int.reduceLE, Int.reduceBEq, Int.reduceBNe, Int.reduceToNat, IntKind.bits, Int.reduceAdd, Int.reduceSub, Int.reduceMul, Int.reduceTDiv, Int.reduceTMod, DB]
  rw [← cutTo_0 b n]
  refine (W_rec (ι := {k : Nat // k ≤ 16}) (M := fun k => [(1, .int .i64 (n : Int)), (2, .ptr 0 0 0 0), (4, .ptr 1 0 0 0), (7, .int .i64 (k.1 : Int))])
    (H := fun k => ⟨[.box 0 31 (bav (cutTo b n k.1)), .box 0 31 [.int .u8 0, .int .u8 0, .int .u8 0, .int .u8 0, .int .u8 0, .int .u8 0, .int .u8 0, .int .u8 0, .int .u8 0, .int .u8 0, .int .u8 0, .int .u8 0, .int .u8 0, .int .u8 0, .int .u8 0, .int .u8 0]], []⟩)
    (r := fun _ => some (AV.agg (bav (cut b n)))) (μ := fun k => 16 - k.1) (fun i => ?_) (fun k ih => ?_) ⟨0, by omega⟩).trans (by rw [cutTo_0])
  · simp [LPB]
  obtain ⟨k, hk16⟩ := k
  by_cases hk : k < 16
  · have ih := ih ⟨k + 1, by omega⟩ (by simp only; omega)
    simp only at ih
    have f1 : (k : Int) < 16 := by omega
    have f2 : IntKind.i64.wrap (8 * (k : Int)) = ((8 * k : Nat) : Int) := by rw [IntWalk.i64_in _ (by omega)] <;> omega
    have f3 : IntKind.i64.wrap ((n : Int) - ((8 * k : Nat) : Int)) = (n : Int) - ((8 * k : Nat) : Int) := IntWalk.i64_in _ (by omega)
    have f4 : (0 : Int) ≤ (k : Int) := by omega
    have f6 : IntKind.i64.wrap ((k : Int) + 1) = ((k + 1 : Nat) : Int) := by rw [IntWalk.i64_in _ (by omega)] <;> omega
    have g := cutTo_get b n k hk
    rw [if_neg (Nat.lt_irrefl k)] at g
    by_cases h1 : n ≤ 8 * k
    · simp only [RB, pickV, eqbV, notV, negV, convV, faddrV, fldV, idxV, eqaggV, iaddrV, isnilV, nilckV, cloV, extrV, slenV, minV, sidxV, abin, cmpInt, params, growLists, fillCells, newAt, rdPtr, wrPtr, AV.cells, asVal, lenOf, boundOf, rowsOf, argIds, freshIn, scalar1, setAll, AV.isData, AV.isYld, Nat.reduceAdd, Nat.reduceMul, Nat.reduceSub, Nat.reduceEqDiff, Nat.reduceLeDiff, Nat.reduceLT, Int.reduceNeg, ↓reduceIte, reduceCtorEq, Int.reduceEq, Int.reduceLT, Int.reduceLE, Int.reduceBEq, Int.reduceBNe, Int.reduceToNat, IntKind.bits, Int.reduceAdd, Int.reduceSub, Int.reduceMul, Int.reduceTDiv, Int.reduceTMod, DB, f1, f2, f3, f4, f6, show (n : Int) - ((8 * k : Nat) : Int) ≤ 0 by omega, bav_put0 _ hk]
      rw [cutTo_put b n k hk (by unfold cutN; rw [show 8 - (n - 8 * k) = 8 by omega, Nat.div_eq_of_lt (b.get_lt k), Nat.zero_mul])]
      exact ih
    · by_cases h2 : n < 8 * k + 8
      · have f7 : IntKind.i64.wrap (8 - ((n : Int) - ((8 * k : Nat) : Int))) = ((8 - (n - 8 * k) : Nat) : Int) := by rw [IntWalk.i64_in _ (by omega)] <;> omega
        have f8 : (0 : Int) ≤ ((8 - (n - 8 * k) : Nat) : Int) := by omega
        have f9 : b.get k / 2 ^ (8 - (n - 8 * k)) * 2 ^ (8 - (n - 8 * k)) < 256 := Nat.lt_of_le_of_lt (cutN_le _ _) (b.get_lt k)
        simp only [RB, pickV, eqbV, notV, negV, convV, faddrV, fldV, idxV, eqaggV, iaddrV, isnilV, nilckV, cloV, extrV, slenV, minV, sidxV, abin, cmpInt, params, growLists, fillCells, newAt, rdPtr, wrPtr, AV.cells, asVal, lenOf, boundOf, rowsOf, argIds, freshIn, scalar1, setAll, AV.isData, AV.isYld, Nat.reduceAdd, Nat.reduceMul, Nat.reduceSub, Nat.reduceEqDiff, Nat.reduceLeDiff, Nat.reduceLT, Int.reduceNeg, ↓reduceIte, reduceCtorEq, Int.reduceEq, Int.reduceLT, Int.reduceLE, Int.reduceBEq, Int.reduceBNe, Int.reduceToNat, IntKind.bits, Int.reduceAdd, Int.reduceSub, Int.reduceMul, Int.reduceTDiv, Int.reduceTMod, DB, f1, f2, f3, f4, f6, f7, f8, show ¬ (n : Int) - ((8 * k : Nat) : Int) ≤ 0 by omega, show (n : Int) - ((8 * k : Nat) : Int) < 8 by omega, bav_i _ k hk, g, and255 _ (8 - (n - 8 * k)) (b.get_lt k) (by omega), bav_put _ hk f9]
        rw [cutTo_put b n k hk (show b.get k / 2 ^ (8 - (n - 8 * k)) * 2 ^ (8 - (n - 8 * k)) = cutN (b.get k) (n - 8 * k) from rfl)]
        exact ih
      · simp only [RB, pickV, eqbV, notV, negV, convV, faddrV, fldV, idxV, eqaggV, iaddrV, isnilV, nilckV, cloV, extrV, slenV, minV, sidxV, abin, cmpInt, params, growLists, fillCells, newAt, rdPtr, wrPtr, AV.cells, asVal, lenOf, boundOf, rowsOf, argIds, freshIn, scalar1, setAll, AV.isData, AV.isYld, Nat.reduceAdd, Nat.reduceMul, Nat.reduceSub, Nat.reduceEqDiff, Nat.reduceLeDiff, Nat.reduceLT, Int.reduceNeg, ↓reduceIte, reduceCtorEq, Int.reduceEq, Int.reduceLT, Int.reduceLE, Int.reduceBEq, Int.reduceBNe, Int.reduceToNat, IntKind.bits, Int.reduceAdd, Int.reduceSub, Int.reduceMul, Int.reduceTDiv, Int.reduceTMod, DB, f1, f2, f3, f4, f6, show ¬ (n : Int) - ((8 * k : Nat) : Int) ≤ 0 by omega, show ¬ (n : Int) - ((8 * k : Nat) : Int) < 8 by omega]
        rw [cutTo_same b n k (by unfold cutN; rw [show 8 - (n - 8 * k) = 0 by omega]; simp)]
        exact ih
  · have : k = 16 := by omega
    subst this
    simp only [RB, pickV, eqbV, notV, negV, convV, faddrV, fldV, idxV, eqaggV, iaddrV, isnilV, nilckV, cloV, extrV, slenV, minV, sidxV, abin, cmpInt, params, growLists, fillCells, newAt, rdPtr, wrPtr, AV.cells, asVal, lenOf, boundOf, rowsOf, argIds, freshIn, scalar1, setAll, AV.isData, AV.isYld, Nat.reduceAdd, Nat.reduceMul, Nat.reduceSub, Nat.reduceEqDiff, Nat.reduceLeDiff, Nat.reduceLT, Int.reduceNeg, ↓reduceIte, reduceCtorEq, Int.reduceEq, Int.reduceLT, Int.reduceLE, Int.reduceBEq, Int.reduceBNe, Int.reduceToNat, IntKind.bits, Int.reduceAdd, Int.reduceSub, Int.reduceMul, Int.reduceTDiv, Int.reduceTMod, DB, show ¬ ((16 : Nat) : Int) < 16 by omega, cutTo_16]
theorem e_prefix_cut' (b : B16) {n : Int} (h : 0 ≤ n) (h' : n ≤ 128) : LV E 99 [.agg (bav b), .int .i64 n] = some (.agg (bav (cut b n.toNat))) := by
  rw [show n = (n.toNat : Int) by omega, e_prefix_cut _ _ (by omega)]; rfl
theorem e_prefix_Has (p : Pfx) (a : Adr) : LV E 77 [.agg (pav p), .agg (aav a)] = some (.bool (decide (Has p a))) := by
  rw [LV_R (fn := f77) rfl rfl rfl]
  simp only [f77, RB, pickV, eqbV, notV, negV, convV, faddrV, fldV, idxV, eqaggV, iaddrV, isnilV, nilckV, cloV, extrV, slenV, minV, sidxV, abin, cmpInt, params, growLists, fillCells, newAt, rdPtr, wrPtr, AV.cells, asVal, lenOf, boundOf, rowsOf, argIds, freshIn, scalar1, setAll, AV.isData, AV.isYld, Nat.reduceAdd, Nat.reduceMul, Nat.reduceSub, Nat.reduceEqDiff, Nat.reduceLeDiff, Nat.reduceLT, Int.reduceNeg, ↓reduceIte, reduceCtorEq, Int.reduceEq, Int.reduceLT, Int.reduceLE, Int.reduceBEq, Int.reduceBNe, Int.reduceToNat, IntKind.bits, Int.reduceAdd, Int.reduceSub, Int.reduceMul, Int.reduceTDiv, Int.reduceTMod, DB, e_prefix_Check]
  by_cases h1 : PfxOk p
  · by_cases h2 : AddrOk a
    · by_cases h3 : p.adr.ver = a.ver
      · have h4 : p.bits ≤ 128 := by have := h1.2.2.1; have := width_le p.adr.ver; omega
        simp only [RB, pickV, eqbV, notV, negV, convV, faddrV, fldV, idxV, eqaggV, iaddrV, isnilV, nilckV, cloV, extrV, slenV, minV, sidxV, abin, cmpInt, params, growLists, fillCells, newAt, rdPtr, wrPtr, AV.cells, asVal, lenOf, boundOf, rowsOf, argIds, freshIn, scalar1, setAll, AV.isData, AV.isYld, Nat.reduceAdd, Nat.reduceMul, Nat.reduceSub, Nat.reduceEqDiff, Nat.reduceLeDiff, Nat.reduceLT, Int.reduceNeg, ↓reduceIte, reduceCtorEq, Int.reduceEq, Int.reduceLT, Int.reduceLE, Int.reduceBEq, Int.reduceBNe, Int.reduceToNat, IntKind.bits, Int.reduceAdd, Int.reduceSub, Int.reduceMul, Int.reduceTDiv, Int.reduceTMod, DB, e_prefix_Check, e_prefix_CheckAddr, h1, h2, h3, bne_self_eq_false, e_prefix_cut' _ h1.2.1 h4]
        simp [Has, h1, h2, h3]
      · simp only [RB, pickV, eqbV, notV, negV, convV, faddrV, fldV, idxV, eqaggV, iaddrV, isnilV, nilckV, cloV, extrV, slenV, minV, sidxV, abin, cmpInt, params, growLists, fillCells, newAt, rdPtr, wrPtr, AV.cells, asVal, lenOf, boundOf, rowsOf, argIds, freshIn, scalar1, setAll, AV.isData, AV.isYld, Nat.reduceAdd, Nat.reduceMul, Nat.reduceSub, Nat.reduceEqDiff, Nat.reduceLeDiff, Nat.reduceLT, Int.reduceNeg, ↓reduceIte, reduceCtorEq, Int.reduceEq, Int.reduceLT, Int.reduceLE, Int.reduceBEq, Int.reduceBNe, Int.reduceToNat, IntKind.bits, Int.reduceAdd, Int.reduceSub, Int.reduceMul, Int.reduceTDiv, Int.reduceTMod, DB, e_prefix_Check, e_prefix_CheckAddr, h1, h2, bne_iff_ne.2 h3]
        simp [Has, h1, h2, h3]
    · simp only [RB, pickV, eqbV, notV, negV, convV, faddrV, fldV, idxV, eqaggV, iaddrV, isnilV, nilckV, cloV, extrV, slenV, minV, sidxV, abin, cmpInt, params, growLists, fillCells, newAt, rdPtr, wrPtr, AV.cells, asVal, lenOf, boundOf, rowsOf, argIds, freshIn, scalar1, setAll, AV.isData, AV.isYld, Nat.reduceAdd, Nat.reduceMul, Nat.reduceSub, Nat.reduceEqDiff, Nat.reduceLeDiff, Nat.reduceLT, Int.reduceNeg, ↓reduceIte, reduceCtorEq, Int.reduceEq, Int.reduceLT, Int.reduceLE, Int.reduceBEq, Int.reduceBNe, Int.reduceToNat, IntKind.bits, Int.reduceAdd, Int.reduceSub, Int.reduceMul, Int.reduceTDiv, Int.reduceTMod, DB, e_prefix_Check, e_prefix_CheckAddr, h1, h2]
      simp [Has, h1, h2]
  · simp only [RB, pickV, eqbV, notV, negV, convV, faddrV, fldV, idxV, eqaggV, iaddrV, isnilV, nilckV, cloV, extrV, slenV, minV, sidxV, abin, cmpInt, params, growLists, fillCells, newAt, rdPtr, wrPtr, AV.cells, asVal, lenOf, boundOf, rowsOf, argIds, freshIn, scalar1, setAll, AV.isData, AV.isYld, Nat.reduceAdd, Nat.reduceMul, Nat.reduceSub, Nat.reduceEqDiff, Nat.reduceLeDiff, Nat.reduceLT, Int.reduceNeg, ↓reduceIte, reduceCtorEq, Int.reduceEq, Int.reduceLT, Int.reduceLE, Int.reduceBEq, Int.reduceBNe, Int.reduceToNat, IntKind.bits, Int.reduceAdd, Int.reduceSub, Int.reduceMul, Int.reduceTDiv, Int.reduceTMod, DB, e_prefix_Check, h1]
    simp [Has, h1]
theorem e_prefix_Holds (p q : Pfx) : LV E 71 [.agg (pav p), .agg (pav q)] = some (.bool (decide (Holds p q))) := by
  rw [LV_R (fn := f71) rfl rfl rfl]
  simp only [f71, RB, pickV, eqbV, notV, negV, convV, faddrV, fldV, idxV, eqaggV, iaddrV, isnilV, nilckV, cloV, extrV, slenV, minV, sidxV, abin, cmpInt, params, growLists, fillCells, newAt, rdPtr, wrPtr, AV.cells, asVal, lenOf, boundOf, rowsOf, argIds, freshIn, scalar1, setAll, AV.isData, AV.isYld, Nat.reduceAdd, Nat.reduceMul, Nat.reduceSub, Nat.reduceEqDiff, Nat.reduceLeDiff, Nat.reduceLT, Int.reduceNeg, ↓reduceIte, reduceCtorEq, Int.reduceEq, Int.reduceLT, Int.reduceLE, Int.reduceBEq, Int.reduceBNe, Int.reduceToNat, IntKind.bits, Int.reduceAdd, Int.reduceSub, Int.reduceMul, Int.reduceTDiv, Int.reduceTMod, DB, e_prefix_Check]
  by_cases h1 : PfxOk q
  · by_cases h2 : p.bits ≤ q.bits
    · simp only [RB, pickV, eqbV, notV, negV, convV, faddrV, fldV, idxV, eqaggV, iaddrV, isnilV, nilckV, cloV, extrV, slenV, minV, sidxV, abin, cmpInt, params, growLists, fillCells, newAt, rdPtr, wrPtr, AV.cells, asVal, lenOf, boundOf, rowsOf, argIds, freshIn, scalar1, setAll, AV.isData, AV.isYld, Nat.reduceAdd, Nat.reduceMul, Nat.reduceSub, Nat.reduceEqDiff, Nat.reduceLeDiff, Nat.reduceLT, Int.reduceNeg, ↓reduceIte, reduceCtorEq, Int.reduceEq, Int.reduceLT, Int.reduceLE, Int.reduceBEq, Int.reduceBNe, Int.reduceToNat, IntKind.bits, Int.reduceAdd, Int.reduceSub, Int.reduceMul, Int.reduceTDiv, Int.reduceTMod, DB, e_prefix_Check, e_prefix_Has, h1, h2]
      simp [Holds, h1, h2]
    · simp only [RB, pickV, eqbV, notV, negV, convV, faddrV, fldV, idxV, eqaggV, iaddrV, isnilV, nilckV, cloV, extrV, slenV, minV, sidxV, abin, cmpInt, params, growLists, fillCells, newAt, rdPtr, wrPtr, AV.cells, asVal, lenOf, boundOf, rowsOf, argIds, freshIn, scalar1, setAll, AV.isData, AV.isYld, Nat.reduceAdd, Nat.reduceMul, Nat.reduceSub, Nat.reduceEqDiff, Nat.reduceLeDiff, Nat.reduceLT, Int.reduceNeg, ↓reduceIte, reduceCtorEq, Int.reduceEq, Int.reduceLT, Int.reduceLE, Int.reduceBEq, Int.reduceBNe, Int.reduceToNat, IntKind.bits, Int.reduceAdd, Int.reduceSub, Int.reduceMul, Int.reduceTDiv, Int.reduceTMod, DB, e_prefix_Check, h1, h2]
      simp [Holds, h1, h2]
  · simp only [RB, pickV, eqbV, notV, negV, convV, faddrV, fldV, idxV, eqaggV, iaddrV, isnilV, nilckV, cloV, extrV, slenV, minV, sidxV, abin, cmpInt, params, growLists, fillCells, newAt, rdPtr, wrPtr, AV.cells, asVal, lenOf, boundOf, rowsOf, argIds, freshIn, scalar1, setAll, AV.isData, AV.isYld, Nat.reduceAdd, Nat.reduceMul, Nat.reduceSub, Nat.reduceEqDiff, Nat.reduceLeDiff, Nat.reduceLT, Int.reduceNeg, ↓reduceIte, reduceCtorEq, Int.reduceEq, Int.reduceLT, Int.reduceLE, Int.reduceBEq, Int.reduceBNe, Int.reduceToNat, IntKind.bits, Int.reduceAdd, Int.reduceSub, Int.reduceMul, Int.reduceTDiv, Int.reduceTMod, DB, e_prefix_Check, h1]
    simp [Holds, h1]
end Go.Proofs.YtdllnneeopbmdaaDoor.F

/- The order of prefixes: what the program tells. No condition. -/
set_option linter.unusedSimpArgs false
namespace Go.Proofs.YtdllnneeopbmdaaDoor.D
open Go Go.Proofs.YtdllnneeopbmdaaDoor.A
def lexL : List Int → List Int → Int
  | a :: l, b :: r => if a < b then -1 else if b < a then 1 else lexL l r
  | _, _ => 0
def ints (b : B16) : List Int := b.l.map fun x : Nat => (x : Int)
def key (p : Pfx) : List Int := p.adr.ver :: (ints p.adr.b ++ [p.bits])
def cmpP (p q : Pfx) : Int := lexL (key p) (key q)
theorem ints_len (b : B16) : (ints b).length = 16 := by simp [ints, b.len]
theorem key_len (p : Pfx) : (key p).length = 18 := by simp [key, ints_len]
theorem lex_bytes : ∀ (l r : List Nat), l.length = r.length → (∀ x ∈ l, x < 256) → (∀ x ∈ r, x < 256) → Lib.compareBytes (l.map Nat.toUInt8) (r.map Nat.toUInt8) = lexL (l.map fun x : Nat => (x : Int)) (r.map fun x : Nat => (x : Int))
  | [], [], _, _, _ => rfl
  | a :: l, b :: r, h, h1, h2 => by
    have ih := lex_bytes l r (by simpa using h) (fun x hx => h1 x (List.mem_cons_of_mem _ hx)) (fun x hx => h2 x (List.mem_cons_of_mem _ hx))
    have ha := h1 a List.mem_cons_self
    have hb := h2 b List.mem_cons_self
    simp only [List.map_cons, lexL, Lib.compareBytes, ih]
    have e : ∀ x y : Nat, x < 256 → y < 256 → (x.toUInt8 < y.toUInt8 ↔ (x : Int) < (y : Int)) := fun x y hx hy => by
      rw [UInt8.lt_iff_toNat_lt]
      simp only [Nat.toUInt8_eq, UInt8.toNat_ofNat', Nat.reducePow]
      rw [Nat.mod_eq_of_lt hx, Nat.mod_eq_of_lt hy]; omega
    simp only [e a b ha hb, e b a hb ha]
  | [], _ :: _, h, _, _ => by simp at h
  | _ :: _, [], h, _, _ => by simp at h
def brows (b : B16) : List (List AV) := (bav b).map fun c => [c]
theorem brows_bytes (b : B16) : (brows b).mapM A.byteOf = some (b.l.map Nat.toUInt8) := by
  unfold brows bav
  rw [List.map_map]
  have : ∀ l : List Nat, (l.map ((fun c => [c]) ∘ u8c)).mapM A.byteOf = some (l.map Nat.toUInt8) := fun l => by
    induction l with
    | nil => rfl
    | cons a l ih => rw [List.map_cons, mapO_cons, ih]; rfl
  exact this b.l
theorem cmp_b16 (a b : B16) : pCmp [.ro (brows a), .ro (brows b)] [] = some (.int .i64 (lexL (ints a) (ints b)), []) := by
  simp only [pCmp, rowsOf, brows_bytes]
  rw [Lib.cmp_eq]
  exact congrArg (fun x => some (AV.int .i64 x, [])) (lex_bytes a.l b.l (by rw [a.len, b.len]) a.rng b.rng)
theorem lex_range : ∀ l r, lexL l r = -1 ∨ lexL l r = 0 ∨ lexL l r = 1
  | a :: l, b :: r => by
    unfold lexL
    split
    · exact Or.inl rfl
    · split
      · exact Or.inr (Or.inr rfl)
      · exact lex_range l r
  | [], _ => Or.inr (Or.inl rfl)
  | _ :: _, [] => Or.inr (Or.inl rfl)
theorem lex_append : ∀ (a b c d : List Int), a.length = b.length → lexL (a ++ c) (b ++ d) = if lexL a b ≠ 0 then lexL a b else lexL c d
  | [], [], c, d, _ => by simp [lexL]
  | x :: a, y :: b, c, d, h => by
    simp only [List.cons_append, lexL, lex_append a b c d (by simpa using h)]
    by_cases h1 : x < y
    · simp [h1]
    · by_cases h2 : y < x
      · simp [h1, h2]
      · simp [h1, h2]
  | [], _ :: _, _, _, h => by simp at h
  | _ :: _, [], _, _, h => by simp at h
end Go.Proofs.YtdllnneeopbmdaaDoor.D
namespace Go.Proofs.YtdllnneeopbmdaaDoor.F
open Go Go.Proofs.YtdllnneeopbmdaaDoor.A Go.Proofs.YtdllnneeopbmdaaDoor.D
theorem lex1 (a b : Int) : lexL [a] [b] = cmpI a b := by simp only [lexL, cmpI]
theorem cmp_key (p q : Pfx) : cmpP p q = if cmpI p.adr.ver q.adr.ver ≠ 0 then cmpI p.adr.ver q.adr.ver else if lexL (ints p.adr.b) (ints q.adr.b) ≠ 0 then lexL (ints p.adr.b) (ints q.adr.b) else cmpI p.bits q.bits := by
  have := lex_append [p.adr.ver] [q.adr.ver] (ints p.adr.b ++ [p.bits]) (ints q.adr.b ++ [q.bits]) rfl
  rw [lex_append (ints p.adr.b) (ints q.adr.b) _ _ (by rw [ints_len, ints_len]), lex1, lex1] at this
  exact this
theorem e_bytes_Compare (a b : B16) : LV E 93 [.ro (brows a), .ro (brows b)] = some (.int .i64 (lexL (ints a) (ints b))) := by
  rw [LV_R (fn := f93) rfl rfl rfl]
  have h : LV E 102 [.ro (brows a), .ro (brows b)] = some (.int .i64 (lexL (ints a) (ints b))) := by
    rw [LV_prim (p := pCmp) rfl, cmp_b16]; rfl
  simp only [f93, RB, pickV, eqbV, notV, negV, convV, faddrV, fldV, idxV, eqaggV, iaddrV, isnilV, nilckV, cloV, extrV, slenV, minV, sidxV, abin, cmpInt, params, growLists, fillCells, newAt, rdPtr, wrPtr, AV.cells, asVal, lenOf, boundOf, rowsOf, argIds, freshIn, scalar1, setAll, AV.isData, AV.isYld, Nat.reduceAdd, Nat.reduceMul, Nat.reduceSub, Nat.reduceEqDiff, Nat.reduceLeDiff, Nat.reduceLT, Int.reduceNeg, ↓reduceIte, reduceCtorEq, Int.reduceEq, Int.reduceLT, Int.reduceLE, Int.reduceBEq, Int.reduceBNe, Int.reduceToNat, IntKind.bits, Int.reduceAdd, Int.reduceSub, Int.reduceMul, Int.reduceTDiv, Int.reduceTMod, h]
theorem e_cmp_Or_int (a b c : Int) : LV E 69 [.clip [[.int .i64 a], [.int .i64 b], [.int .i64 c]]] = some (.int .i64 (if a ≠ 0 then a else if b ≠ 0 then b else c)) := by
  rw [LV_R (fn := f69) rfl rfl rfl]
  simp only [f69, RB, pickV, eqbV, notV, negV, convV, faddrV, fldV, idxV, eqaggV, iaddrV, isnilV, nilckV, cloV, extrV, slenV, minV, sidxV, abin, cmpInt, params, growLists, fillCells, newAt, rdPtr, wrPtr, AV.cells, asVal, lenOf, boundOf, rowsOf, argIds, freshIn, scalar1, setAll, AV.isData, AV.isYld, Nat.reduceAdd, Nat.reduceMul, Nat.reduceSub, Nat.reduceEqDiff, Nat.reduceLeDiff, Nat.reduceLT, Int.reduceNeg, ↓reduceIte, reduceCtorEq, Int.reduceEq, Int.reduceLT, Int.reduceLE, Int.reduceBEq, Int.reduceBNe, Int.reduceToNat, IntKind.bits, Int.reduceAdd, Int.reduceSub, Int.reduceMul, Int.reduceTDiv, Int.reduceTMod]
  by_cases ha : a = 0
  · subst ha
    by_cases hb : b = 0
    · subst hb
      by_cases hc : c = 0
      · subst hc
        simp only [RB, pickV, eqbV, notV, negV, convV, faddrV, fldV, idxV, eqaggV, iaddrV, isnilV, nilckV, cloV, extrV, slenV, minV, sidxV, abin, cmpInt, params, growLists, fillCells, newAt, rdPtr, wrPtr, AV.cells, asVal, lenOf, boundOf, rowsOf, argIds, freshIn, scalar1, setAll, AV.isData, AV.isYld, Nat.reduceAdd, Nat.reduceMul, Nat.reduceSub, Nat.reduceEqDiff, Nat.reduceLeDiff, Nat.reduceLT, Int.reduceNeg, ↓reduceIte, reduceCtorEq, Int.reduceEq, Int.reduceLT, Int.reduceLE, Int.reduceBEq, Int.reduceBNe, Int.reduceToNat, IntKind.bits, Int.reduceAdd, Int.reduceSub, Int.reduceMul, Int.reduceTDiv, Int.reduceTMod, W_go, LPB, bne_self_eq_false, Nat.le_refl, IntWalk.i64_in]
      · simp only [RB, pickV, eqbV, notV, negV, convV, faddrV, fldV, idxV, eqaggV, iaddrV, isnilV, nilckV, cloV, extrV, slenV, minV, sidxV, abin, cmpInt, params, growLists, fillCells, newAt, rdPtr, wrPtr, AV.cells, asVal, lenOf, boundOf, rowsOf, argIds, freshIn, scalar1, setAll, AV.isData, AV.isYld, Nat.reduceAdd, Nat.reduceMul, Nat.reduceSub, Nat.reduceEqDiff, Nat.reduceLeDiff, Nat.reduceLT, Int.reduceNeg, ↓reduceIte, reduceCtorEq, Int.reduceEq, Int.reduceLT, Int.reduceLE, Int.reduceBEq, Int.reduceBNe, Int.reduceToNat, IntKind.bits, Int.reduceAdd, Int.reduceSub, Int.reduceMul, Int.reduceTDiv, Int.reduceTMod, W_go, LPB, bne_self_eq_false, bne_iff_ne.2 hc, Nat.le_refl]
    · simp only [RB, pickV, eqbV, notV, negV, convV, faddrV, fldV, idxV, eqaggV, iaddrV, isnilV, nilckV, cloV, extrV, slenV, minV, sidxV, abin, cmpInt, params, growLists, fillCells, newAt, rdPtr, wrPtr, AV.cells, asVal, lenOf, boundOf, rowsOf, argIds, freshIn, scalar1, setAll, AV.isData, AV.isYld, Nat.reduceAdd, Nat.reduceMul, Nat.reduceSub, Nat.reduceEqDiff, Nat.reduceLeDiff, Nat.reduceLT, Int.reduceNeg, ↓reduceIte, reduceCtorEq, Int.reduceEq, Int.reduceLT, Int.reduceLE, Int.reduceBEq, Int.reduceBNe, Int.reduceToNat, IntKind.bits, Int.reduceAdd, Int.reduceSub, Int.reduceMul, Int.reduceTDiv, Int.reduceTMod, W_go, LPB, bne_self_eq_false, bne_iff_ne.2 hb, hb]
  · simp only [RB, pickV, eqbV, notV, negV, convV, faddrV, fldV, idxV, eqaggV, iaddrV, isnilV, nilckV, cloV, extrV, slenV, minV, sidxV, abin, cmpInt, params, growLists, fillCells, newAt, rdPtr, wrPtr, AV.cells, asVal, lenOf, boundOf, rowsOf, argIds, freshIn, scalar1, setAll, AV.isData, AV.isYld, Nat.reduceAdd, Nat.reduceMul, Nat.reduceSub, Nat.reduceEqDiff, Nat.reduceLeDiff, Nat.reduceLT, Int.reduceNeg, ↓reduceIte, reduceCtorEq, Int.reduceEq, Int.reduceLT, Int.reduceLE, Int.reduceBEq, Int.reduceBNe, Int.reduceToNat, IntKind.bits, Int.reduceAdd, Int.reduceSub, Int.reduceMul, Int.reduceTDiv, Int.reduceTMod, W_go, LPB, bne_self_eq_false, bne_iff_ne.2 ha, ha]
theorem e_prefix_Compare (p q : Pfx) : LV E 66 [.agg (pav p), .agg (pav q)] = some (.int .i64 (cmpP p q)) := by
  rw [LV_R (fn := f66) rfl rfl rfl]
  have hb : ∀ b : B16, (bav b).map (fun c => [c]) = brows b := fun _ => rfl
  simp only [f66, RB, pickV, eqbV, notV, negV, convV, faddrV, fldV, idxV, eqaggV, iaddrV, isnilV, nilckV, cloV, extrV, slenV, minV, sidxV, abin, cmpInt, params, growLists, fillCells, newAt, rdPtr, wrPtr, AV.cells, asVal, lenOf, boundOf, rowsOf, argIds, freshIn, scalar1, setAll, AV.isData, AV.isYld, Nat.reduceAdd, Nat.reduceMul, Nat.reduceSub, Nat.reduceEqDiff, Nat.reduceLeDiff, Nat.reduceLT, Int.reduceNeg, ↓reduceIte, reduceCtorEq, Int.reduceEq, Int.reduceLT, Int.reduceLE, Int.reduceBEq, Int.reduceBNe, Int.reduceToNat, IntKind.bits, Int.reduceAdd, Int.reduceSub, Int.reduceMul, Int.reduceTDiv, Int.reduceTMod, DB, e_cmp_Compare_int, aop, O_buildSlq, quietOk, hb, e_bytes_Compare, e_cmp_Or_int, fillRows, asData]
  rw [cmp_key]
end Go.Proofs.YtdllnneeopbmdaaDoor.F

/- The document's answer for prefixes: what its functions tell. No condition. -/
set_option linter.unusedSimpArgs false
namespace Go.Proofs.YtdllnneeopbmdaaDoor.F
open Go Go.Proofs.YtdllnneeopbmdaaDoor.A Go.Proofs.YtdllnneeopbmdaaDoor.D
theorem e_ref05_Width (v : Int) : LV E 72 [.int .i64 v] = some (.int .i64 (width v)) := by
  rw [LV_R (fn := f72) rfl rfl rfl]
  simp only [f72, RB, pickV, eqbV, notV, negV, convV, faddrV, fldV, idxV, eqaggV, iaddrV, isnilV, nilckV, cloV, extrV, slenV, minV, sidxV, abin, cmpInt, params, growLists, fillCells, newAt, rdPtr, wrPtr, AV.cells, asVal, lenOf, boundOf, rowsOf, argIds, freshIn, scalar1, setAll, AV.isData, AV.isYld, Nat.reduceAdd, Nat.reduceMul, Nat.reduceSub, Nat.reduceEqDiff, Nat.reduceLeDiff, Nat.reduceLT, Int.reduceNeg, ↓reduceIte, reduceCtorEq, Int.reduceEq, Int.reduceLT, Int.reduceLE, Int.reduceBEq, Int.reduceBNe, Int.reduceToNat, IntKind.bits, Int.reduceAdd, Int.reduceSub, Int.reduceMul, Int.reduceTDiv, Int.reduceTMod]
  by_cases h1 : v = 4
  · subst h1; simp only [RB, pickV, eqbV, notV, negV, convV, faddrV, fldV, idxV, eqaggV, iaddrV, isnilV, nilckV, cloV, extrV, slenV, minV, sidxV, abin, cmpInt, params, growLists, fillCells, newAt, rdPtr, wrPtr, AV.cells, asVal, lenOf, boundOf, rowsOf, argIds, freshIn, scalar1, setAll, AV.isData, AV.isYld, Nat.reduceAdd, Nat.reduceMul, Nat.reduceSub, Nat.reduceEqDiff, Nat.reduceLeDiff, Nat.reduceLT, Int.reduceNeg, ↓reduceIte, reduceCtorEq, Int.reduceEq, Int.reduceLT, Int.reduceLE, Int.reduceBEq, Int.reduceBNe, Int.reduceToNat, IntKind.bits, Int.reduceAdd, Int.reduceSub, Int.reduceMul, Int.reduceTDiv, Int.reduceTMod]; rfl
  · by_cases h2 : v = 6
    · subst h2; simp only [RB, pickV, eqbV, notV, negV, convV, faddrV, fldV, idxV, eqaggV, iaddrV, isnilV, nilckV, cloV, extrV, slenV, minV, sidxV, abin, cmpInt, params, growLists, fillCells, newAt, rdPtr, wrPtr, AV.cells, asVal, lenOf, boundOf, rowsOf, argIds, freshIn, scalar1, setAll, AV.isData, AV.isYld, Nat.reduceAdd, Nat.reduceMul, Nat.reduceSub, Nat.reduceEqDiff, Nat.reduceLeDiff, Nat.reduceLT, Int.reduceNeg, ↓reduceIte, reduceCtorEq, Int.reduceEq, Int.reduceLT, Int.reduceLE, Int.reduceBEq, Int.reduceBNe, Int.reduceToNat, IntKind.bits, Int.reduceAdd, Int.reduceSub, Int.reduceMul, Int.reduceTDiv, Int.reduceTMod]; rfl
    · simp only [RB, pickV, eqbV, notV, negV, convV, faddrV, fldV, idxV, eqaggV, iaddrV, isnilV, nilckV, cloV, extrV, slenV, minV, sidxV, abin, cmpInt, params, growLists, fillCells, newAt, rdPtr, wrPtr, AV.cells, asVal, lenOf, boundOf, rowsOf, argIds, freshIn, scalar1, setAll, AV.isData, AV.isYld, Nat.reduceAdd, Nat.reduceMul, Nat.reduceSub, Nat.reduceEqDiff, Nat.reduceLeDiff, Nat.reduceLT, Int.reduceNeg, ↓reduceIte, reduceCtorEq, Int.reduceEq, Int.reduceLT, Int.reduceLE, Int.reduceBEq, Int.reduceBNe, Int.reduceToNat, IntKind.bits, Int.reduceAdd, Int.reduceSub, Int.reduceMul, Int.reduceTDiv, Int.reduceTMod, beq_eq_false_iff_ne.2 h1, beq_eq_false_iff_ne.2 h2]
      simp [width, h1, h2]
def b01 (b : Bool) : Int := if b then 1 else 0
theorem e_ref05_at (b : B16) (k : Nat) (hk : k < 128) : LV E 73 [.agg (bav b), .int .i64 (k : Int)] = some (.int .i64 (b01 (bit b k))) := by
  rw [LV_R (fn := f73) rfl rfl rfl]
  have f2 : k / 8 < 16 := by omega
  have f3 : ((k / 8 : Nat) : Int) < 16 := by omega
  have f4 : (0 : Int) ≤ ((k / 8 : Nat) : Int) := by omega
  have f5 : (0 : Int) ≤ ((7 - k % 8 : Nat) : Int) := by omega
  have f6 : IntKind.u64.wrap ((7 - k % 8 : Nat) : Int) = ((7 - k % 8 : Nat) : Int) := IntWalk.u64_in _ (by omega)
  have f7 : IntKind.i64.wrap (b.get (k / 8) : Int) = (b.get (k / 8) : Int) := IntWalk.i64_in _ (by have := b.get_lt (k / 8); omega)
  have f8 : ((b.get (k / 8) : Int).fdiv (2 ^ (Nat.min (7 - k % 8) 64))) = ((b.get (k / 8) / 2 ^ (7 - k % 8) : Nat) : Int) := by
    rw [show Nat.min (7 - k % 8) 64 = 7 - k % 8 from Nat.min_eq_left (by omega), Int.fdiv_eq_ediv_of_nonneg _ (Int.pow_nonneg (by decide))]
    simp
  have f9 : ((b.get (k / 8) / 2 ^ (7 - k % 8) : Nat) : Int).tmod 2 = b01 (bit b k) := by
    rw [Int.tmod_eq_emod_of_nonneg (Int.natCast_nonneg _)]
    exact bit_and b k
  simp only [f73, RB, pickV, eqbV, notV, negV, convV, faddrV, fldV, idxV, eqaggV, iaddrV, isnilV, nilckV, cloV, extrV, slenV, minV, sidxV, abin, cmpInt, params, growLists, fillCells, newAt, rdPtr, wrPtr, AV.cells, asVal, lenOf, boundOf, rowsOf, argIds, freshIn, scalar1, setAll, AV.isData, AV.isYld, Nat.reduceAdd, Nat.reduceMul, Nat.reduceSub, Nat.reduceEqDiff, Nat.reduceLeDiff, Nat.reduceLT, Int.reduceNeg, ↓reduceIte, reduceCtorEq, Int.reduceEq, Int.reduceLT, Int.reduceLE, Int.reduceBEq, Int.reduceBNe, Int.reduceToNat, IntKind.bits, Int.reduceAdd, Int.reduceSub, Int.reduceMul, Int.reduceTDiv, Int.reduceTMod, DB, f3, f4, f5, f6, f7, f8, f9, quo8 k (by omega), rem8, sub7, bav_i b (k / 8) f2]
theorem b01_eq (b : Bool) : (b01 b == 1) = b := by cases b <;> rfl
theorem b01_ne (a b : Bool) : (b01 a != b01 b) = (a != b) := by cases a <;> cases b <;> rfl
theorem e_ref05_RightAddr (a : Adr) : LV E 43 [.agg (aav a)] = some (.bool (decide (AddrOk a))) := by
  rw [LV_R (fn := f43) rfl rfl rfl]
  simp only [f43, RB, pickV, eqbV, notV, negV, convV, faddrV, fldV, idxV, eqaggV, iaddrV, isnilV, nilckV, cloV, extrV, slenV, minV, sidxV, abin, cmpInt, params, growLists, fillCells, newAt, rdPtr, wrPtr, AV.cells, asVal, lenOf, boundOf, rowsOf, argIds, freshIn, scalar1, setAll, AV.isData, AV.isYld, Nat.reduceAdd, Nat.reduceMul, Nat.reduceSub, Nat.reduceEqDiff, Nat.reduceLeDiff, Nat.reduceLT, Int.reduceNeg, ↓reduceIte, reduceCtorEq, Int.reduceEq, Int.reduceLT, Int.reduceLE, Int.reduceBEq, Int.reduceBNe, Int.reduceToNat, IntKind.bits, Int.reduceAdd, Int.reduceSub, Int.reduceMul, Int.reduceTDiv, Int.reduceTMod, DB, e_ref05_Width]
  refine (W_rec (β := AV) (ι := Nat) (M := fun k => [(1, .ptr 0 0 0 0), (3, .int .i64 (width a.ver : Int)), (4, .int .i64 (k : Int))]) (H := fun _ => ⟨[.box 0 33 (aav a)], []⟩) (r := fun k => some (AV.bool (decide (width a.ver ≠ 0 ∧ Clr a.b k)))) (μ := fun k => 128 - k) (fun i => ?_) (fun k ih => ?_) (width a.ver)).trans ?_
  · simp [LPB]
  · by_cases hk : k < 128
    · have f1 : (k : Int) < 128 := by omega
      have f6 : IntKind.i64.wrap ((k : Int) + 1) = ((k + 1 : Nat) : Int) := by rw [IntWalk.i64_in _ (by omega)] <;> omega
      have ih := ih (k + 1) (by omega)
      cases hb : bit a.b k with
      | true =>
        simp only [RB, pickV, eqbV, notV, negV, convV, faddrV, fldV, idxV, eqaggV, iaddrV, isnilV, nilckV, cloV, extrV, slenV, minV, sidxV, abin, cmpInt, params, growLists, fillCells, newAt, rdPtr, wrPtr, AV.cells, asVal, lenOf, boundOf, rowsOf, argIds, freshIn, scalar1, setAll, AV.isData, AV.isYld, Nat.reduceAdd, Nat.reduceMul, Nat.reduceSub, Nat.reduceEqDiff, Nat.reduceLeDiff, Nat.reduceLT, Int.reduceNeg, ↓reduceIte, reduceCtorEq, Int.reduceEq, Int.reduceLT, Int.reduceLE, Int.reduceBEq, Int.reduceBNe, Int.reduceToNat, IntKind.bits, Int.reduceAdd, Int.reduceSub, Int.reduceMul, Int.reduceTDiv, Int.reduceTMod, DB, f1, e_ref05_at _ k hk, b01_eq, hb]
        rw [decide_eq_false fun hc => by rw [hc.2 k (Nat.le_refl _) hk] at hb; cases hb]
      | false =>
        simp only [RB, pickV, eqbV, notV, negV, convV, faddrV, fldV, idxV, eqaggV, iaddrV, isnilV, nilckV, cloV, extrV, slenV, minV, sidxV, abin, cmpInt, params, growLists, fillCells, newAt, rdPtr, wrPtr, AV.cells, asVal, lenOf, boundOf, rowsOf, argIds, freshIn, scalar1, setAll, AV.isData, AV.isYld, Nat.reduceAdd, Nat.reduceMul, Nat.reduceSub, Nat.reduceEqDiff, Nat.reduceLeDiff, Nat.reduceLT, Int.reduceNeg, ↓reduceIte, reduceCtorEq, Int.reduceEq, Int.reduceLT, Int.reduceLE, Int.reduceBEq, Int.reduceBNe, Int.reduceToNat, IntKind.bits, Int.reduceAdd, Int.reduceSub, Int.reduceMul, Int.reduceTDiv, Int.reduceTMod, DB, f1, e_ref05_at _ k hk, b01_eq, hb, f6]
        rw [ih]
        congr 2
        refine decide_eq_decide.2 (and_congr_right fun _ => ⟨fun h j h1 h2 => ?_, fun h j h1 h2 => h j (by omega) h2⟩)
        rcases Nat.lt_or_eq_of_le h1 with h3 | rfl
        · exact h j h3 h2
        · exact hb
    · simp only [RB, pickV, eqbV, notV, negV, convV, faddrV, fldV, idxV, eqaggV, iaddrV, isnilV, nilckV, cloV, extrV, slenV, minV, sidxV, abin, cmpInt, params, growLists, fillCells, newAt, rdPtr, wrPtr, AV.cells, asVal, lenOf, boundOf, rowsOf, argIds, freshIn, scalar1, setAll, AV.isData, AV.isYld, Nat.reduceAdd, Nat.reduceMul, Nat.reduceSub, Nat.reduceEqDiff, Nat.reduceLeDiff, Nat.reduceLT, Int.reduceNeg, ↓reduceIte, reduceCtorEq, Int.reduceEq, Int.reduceLT, Int.reduceLE, Int.reduceBEq, Int.reduceBNe, Int.reduceToNat, IntKind.bits, Int.reduceAdd, Int.reduceSub, Int.reduceMul, Int.reduceTDiv, Int.reduceTMod, DB, show ¬ (k : Int) < 128 by omega]
      congr 2
      refine decide_eq_decide.2 ⟨fun h => ⟨by omega, fun j h1 h2 => absurd h2 (by omega)⟩, fun h => by have := h.1; omega⟩
  · exact congrArg (fun b => some (AV.bool b)) (decide_eq_decide.2 Iff.rfl)
theorem e_ref05_Right (p : Pfx) : LV E 35 [.agg (pav p)] = some (.bool (decide (PfxOk p))) := by
  rw [LV_R (fn := f35) rfl rfl rfl]
  simp only [f35, RB, pickV, eqbV, notV, negV, convV, faddrV, fldV, idxV, eqaggV, iaddrV, isnilV, nilckV, cloV, extrV, slenV, minV, sidxV, abin, cmpInt, params, growLists, fillCells, newAt, rdPtr, wrPtr, AV.cells, asVal, lenOf, boundOf, rowsOf, argIds, freshIn, scalar1, setAll, AV.isData, AV.isYld, Nat.reduceAdd, Nat.reduceMul, Nat.reduceSub, Nat.reduceEqDiff, Nat.reduceLeDiff, Nat.reduceLT, Int.reduceNeg, ↓reduceIte, reduceCtorEq, Int.reduceEq, Int.reduceLT, Int.reduceLE, Int.reduceBEq, Int.reduceBNe, Int.reduceToNat, IntKind.bits, Int.reduceAdd, Int.reduceSub, Int.reduceMul, Int.reduceTDiv, Int.reduceTMod, DB, e_ref05_RightAddr]
  by_cases h1 : AddrOk p.adr
  · by_cases h2 : p.bits < 0
    · simp only [RB, pickV, eqbV, notV, negV, convV, faddrV, fldV, idxV, eqaggV, iaddrV, isnilV, nilckV, cloV, extrV, slenV, minV, sidxV, abin, cmpInt, params, growLists, fillCells, newAt, rdPtr, wrPtr, AV.cells, asVal, lenOf, boundOf, rowsOf, argIds, freshIn, scalar1, setAll, AV.isData, AV.isYld, Nat.reduceAdd, Nat.reduceMul, Nat.reduceSub, Nat.reduceEqDiff, Nat.reduceLeDiff, Nat.reduceLT, Int.reduceNeg, ↓reduceIte, reduceCtorEq, Int.reduceEq, Int.reduceLT, Int.reduceLE, Int.reduceBEq, Int.reduceBNe, Int.reduceToNat, IntKind.bits, Int.reduceAdd, Int.reduceSub, Int.reduceMul, Int.reduceTDiv, Int.reduceTMod, DB, e_ref05_Width, h1, h2]
      simp [PfxOk, h1, show ¬ 0 ≤ p.bits by omega]
    · by_cases h3 : (width p.adr.ver : Int) < p.bits
      · simp only [RB, pickV, eqbV, notV, negV, convV, faddrV, fldV, idxV, eqaggV, iaddrV, isnilV, nilckV, cloV, extrV, slenV, minV, sidxV, abin, cmpInt, params, growLists, fillCells, newAt, rdPtr, wrPtr, AV.cells, asVal, lenOf, boundOf, rowsOf, argIds, freshIn, scalar1, setAll, AV.isData, AV.isYld, Nat.reduceAdd, Nat.reduceMul, Nat.reduceSub, Nat.reduceEqDiff, Nat.reduceLeDiff, Nat.reduceLT, Int.reduceNeg, ↓reduceIte, reduceCtorEq, Int.reduceEq, Int.reduceLT, Int.reduceLE, Int.reduceBEq, Int.reduceBNe, Int.reduceToNat, IntKind.bits, Int.reduceAdd, Int.reduceSub, Int.reduceMul, Int.reduceTDiv, Int.reduceTMod, DB, e_ref05_Width, h1, h2, h3]
        simp [PfxOk, h1, show ¬ p.bits ≤ width p.adr.ver by omega]
      · simp only [RB, pickV, eqbV, notV, negV, convV, faddrV, fldV, idxV, eqaggV, iaddrV, isnilV, nilckV, cloV, extrV, slenV, minV, sidxV, abin, cmpInt, params, growLists, fillCells, newAt, rdPtr, wrPtr, AV.cells, asVal, lenOf, boundOf, rowsOf, argIds, freshIn, scalar1, setAll, AV.isData, AV.isYld, Nat.reduceAdd, Nat.reduceMul, Nat.reduceSub, Nat.reduceEqDiff, Nat.reduceLeDiff, Nat.reduceLT, Int.reduceNeg, ↓reduceIte, reduceCtorEq, Int.reduceEq, Int.reduceLT, Int.reduceLE, Int.reduceBEq, Int.reduceBNe, Int.reduceToNat, IntKind.bits, Int.reduceAdd, Int.reduceSub, Int.reduceMul, Int.reduceTDiv, Int.reduceTMod, DB, e_ref05_Width, h1, h2, h3]
        obtain ⟨ad, n⟩ := p
        simp only at *
        obtain ⟨n, rfl⟩ : ∃ m : Nat, n = (m : Int) := ⟨n.toNat, by omega⟩
        refine (W_rec (β := AV) (ι := Nat) (M := fun k => [(1, .ptr 0 0 0 0), (3, .int .i64 (k : Int))]) (H := fun _ => ⟨[.box 0 58 (pav ⟨ad, n⟩)], []⟩) (r := fun k => some (AV.bool (decide (Clr ad.b k)))) (μ := fun k => 128 - k) (fun i => ?_) (fun k ih => ?_) n).trans ?_
        · simp [LPB]
        · by_cases hk : k < 128
          · have f1 : (k : Int) < 128 := by omega
            have f6 : IntKind.i64.wrap ((k : Int) + 1) = ((k + 1 : Nat) : Int) := by rw [IntWalk.i64_in _ (by omega)] <;> omega
            have ih := ih (k + 1) (by omega)
            cases hb : bit ad.b k with
            | true =>
              simp only [RB, pickV, eqbV, notV, negV, convV, faddrV, fldV, idxV, eqaggV, iaddrV, isnilV, nilckV, cloV, extrV, slenV, minV, sidxV, abin, cmpInt, params, growLists, fillCells, newAt, rdPtr, wrPtr, AV.cells, asVal, lenOf, boundOf, rowsOf, argIds, freshIn, scalar1, setAll, AV.isData, AV.isYld, Nat.reduceAdd, Nat.reduceMul, Nat.reduceSub, Nat.reduceEqDiff, Nat.reduceLeDiff, Nat.reduceLT, Int.reduceNeg, ↓reduceIte, reduceCtorEq, Int.reduceEq, Int.reduceLT, Int.reduceLE, Int.reduceBEq, Int.reduceBNe, Int.reduceToNat, IntKind.bits, Int.reduceAdd, Int.reduceSub, Int.reduceMul, Int.reduceTDiv, Int.reduceTMod, DB, f1, e_ref05_at _ k hk, b01_eq, hb]
              rw [decide_eq_false fun hc => by rw [hc k (Nat.le_refl _) hk] at hb; cases hb]
            | false =>
              simp only [RB, pickV, eqbV, notV, negV, convV, faddrV, fldV, idxV, eqaggV, iaddrV, isnilV, nilckV, cloV, extrV, slenV, minV, sidxV, abin, cmpInt, params, growLists, fillCells, newAt, rdPtr, wrPtr, AV.cells, asVal, lenOf, boundOf, rowsOf, argIds, freshIn, scalar1, setAll, AV.isData, AV.isYld, Nat.reduceAdd, Nat.reduceMul, Nat.reduceSub, Nat.reduceEqDiff, Nat.reduceLeDiff, Nat.reduceLT, Int.reduceNeg, ↓reduceIte, reduceCtorEq, Int.reduceEq, Int.reduceLT, Int.reduceLE, Int.reduceBEq, Int.reduceBNe, Int.reduceToNat, IntKind.bits, Int.reduceAdd, Int.reduceSub, Int.reduceMul, Int.reduceTDiv, Int.reduceTMod, DB, f1, e_ref05_at _ k hk, b01_eq, hb, f6]
              rw [ih]
              congr 2
              refine decide_eq_decide.2 ⟨fun h j h1 h2 => ?_, fun h j h1 h2 => h j (by omega) h2⟩
              rcases Nat.lt_or_eq_of_le h1 with h3 | rfl
              · exact h j h3 h2
              · exact hb
          · simp only [RB, pickV, eqbV, notV, negV, convV, faddrV, fldV, idxV, eqaggV, iaddrV, isnilV, nilckV, cloV, extrV, slenV, minV, sidxV, abin, cmpInt, params, growLists, fillCells, newAt, rdPtr, wrPtr, AV.cells, asVal, lenOf, boundOf, rowsOf, argIds, freshIn, scalar1, setAll, AV.isData, AV.isYld, Nat.reduceAdd, Nat.reduceMul, Nat.reduceSub, Nat.reduceEqDiff, Nat.reduceLeDiff, Nat.reduceLT, Int.reduceNeg, ↓reduceIte, reduceCtorEq, Int.reduceEq, Int.reduceLT, Int.reduceLE, Int.reduceBEq, Int.reduceBNe, Int.reduceToNat, IntKind.bits, Int.reduceAdd, Int.reduceSub, Int.reduceMul, Int.reduceTDiv, Int.reduceTMod, DB, show ¬ (k : Int) < 128 by omega]
            rw [decide_eq_true (show Clr ad.b k from fun j h1 h2 => absurd h2 (by omega))]
        · congr 2
          refine decide_eq_decide.2 ⟨fun h => ⟨h1, by simp, by simpa using h3, by simpa using h⟩, fun h => by simpa using h.2.2.2⟩
  · simp only [RB, pickV, eqbV, notV, negV, convV, faddrV, fldV, idxV, eqaggV, iaddrV, isnilV, nilckV, cloV, extrV, slenV, minV, sidxV, abin, cmpInt, params, growLists, fillCells, newAt, rdPtr, wrPtr, AV.cells, asVal, lenOf, boundOf, rowsOf, argIds, freshIn, scalar1, setAll, AV.isData, AV.isYld, Nat.reduceAdd, Nat.reduceMul, Nat.reduceSub, Nat.reduceEqDiff, Nat.reduceLeDiff, Nat.reduceLT, Int.reduceNeg, ↓reduceIte, reduceCtorEq, Int.reduceEq, Int.reduceLT, Int.reduceLE, Int.reduceBEq, Int.reduceBNe, Int.reduceToNat, IntKind.bits, Int.reduceAdd, Int.reduceSub, Int.reduceMul, Int.reduceTDiv, Int.reduceTMod, DB, h1]
    simp [PfxOk, h1]
def Agree (b c : B16) (k n : Nat) : Prop := ∀ i, k ≤ i → i < n → bit b i = bit c i
noncomputable instance {b c : B16} {k n : Nat} : Decidable (Agree b c k n) := Classical.propDecidable _
theorem e_ref05_Has (p : Pfx) (a : Adr) : LV E 44 [.agg (pav p), .agg (aav a)] = some (.bool (decide (Has p a))) := by
  rw [LV_R (fn := f44) rfl rfl rfl]
  simp only [f44, RB, pickV, eqbV, notV, negV, convV, faddrV, fldV, idxV, eqaggV, iaddrV, isnilV, nilckV, cloV, extrV, slenV, minV, sidxV, abin, cmpInt, params, growLists, fillCells, newAt, rdPtr, wrPtr, AV.cells, asVal, lenOf, boundOf, rowsOf, argIds, freshIn, scalar1, setAll, AV.isData, AV.isYld, Nat.reduceAdd, Nat.reduceMul, Nat.reduceSub, Nat.reduceEqDiff, Nat.reduceLeDiff, Nat.reduceLT, Int.reduceNeg, ↓reduceIte, reduceCtorEq, Int.reduceEq, Int.reduceLT, Int.reduceLE, Int.reduceBEq, Int.reduceBNe, Int.reduceToNat, IntKind.bits, Int.reduceAdd, Int.reduceSub, Int.reduceMul, Int.reduceTDiv, Int.reduceTMod, DB, e_ref05_Right]
  by_cases h1 : PfxOk p
  · by_cases h2 : AddrOk a
    · by_cases h3 : p.adr.ver = a.ver
      · simp only [RB, pickV, eqbV, notV, negV, convV, faddrV, fldV, idxV, eqaggV, iaddrV, isnilV, nilckV, cloV, extrV, slenV, minV, sidxV, abin, cmpInt, params, growLists, fillCells, newAt, rdPtr, wrPtr, AV.cells, asVal, lenOf, boundOf, rowsOf, argIds, freshIn, scalar1, setAll, AV.isData, AV.isYld, Nat.reduceAdd, Nat.reduceMul, Nat.reduceSub, Nat.reduceEqDiff, Nat.reduceLeDiff, Nat.reduceLT, Int.reduceNeg, ↓reduceIte, reduceCtorEq, Int.reduceEq, Int.reduceLT, Int.reduceLE, Int.reduceBEq, Int.reduceBNe, Int.reduceToNat, IntKind.bits, Int.reduceAdd, Int.reduceSub, Int.reduceMul, Int.reduceTDiv, Int.reduceTMod, DB, e_ref05_RightAddr, h1, h2, h3, bne_self_eq_false]
        have h4 : p.bits ≤ 128 := by have := h1.2.2.1; have := width_le p.adr.ver; omega
        have h0 := h1.2.1
        have hc := h1.2.2.2
        have e : decide (Has p a) = decide (Agree p.adr.b a.b 0 p.bits.toNat) := by
          refine decide_eq_decide.2 ⟨fun h i _ hi => (has_bits hc).1 h.2.2.2 i hi (by omega), fun h => ⟨h1, h2, h3, (has_bits hc).2 fun i hi _ => h i (Nat.zero_le _) hi⟩⟩
        rw [e]
        refine (W_rec (β := AV) (ι := Nat) (M := fun k => [(2, .ptr 0 0 0 0), (3, .ptr 1 0 0 0), (5, .int .i64 (k : Int))]) (H := fun _ => ⟨[.box 0 58 (pav p), .box 0 33 (aav a)], []⟩) (r := fun k => some (AV.bool (decide (Agree p.adr.b a.b k p.bits.toNat)))) (μ := fun k => 128 - k) (fun i => ?_) (fun k ih => ?_) 0).trans ?_
        · simp [LPB]
        · by_cases hk : (k : Int) < p.bits
          · have f6 : IntKind.i64.wrap ((k : Int) + 1) = ((k + 1 : Nat) : Int) := by rw [IntWalk.i64_in _ (by omega)] <;> omega
            have ih := ih (k + 1) (by omega)
            by_cases hb : bit p.adr.b k = bit a.b k
            · simp only [RB, pickV, eqbV, notV, negV, convV, faddrV, fldV, idxV, eqaggV, iaddrV, isnilV, nilckV, cloV, extrV, slenV, minV, sidxV, abin, cmpInt, params, growLists, fillCells, newAt, rdPtr, wrPtr, AV.cells, asVal, lenOf, boundOf, rowsOf, argIds, freshIn, scalar1, setAll, AV.isData, AV.isYld, Nat.reduceAdd, Nat.reduceMul, Nat.reduceSub, Nat.reduceEqDiff, Nat.reduceLeDiff, Nat.reduceLT, Int.reduceNeg, ↓reduceIte, reduceCtorEq, Int.reduceEq, Int.reduceLT, Int.reduceLE, Int.reduceBEq, Int.reduceBNe, Int.reduceToNat, IntKind.bits, Int.reduceAdd, Int.reduceSub, Int.reduceMul, Int.reduceTDiv, Int.reduceTMod, DB, e_ref05_at _ k (show k < 128 by omega), hk, b01_ne, hb, bne_self_eq_false, f6]
              rw [ih]
              congr 2
              refine decide_eq_decide.2 ⟨fun h j h1 h2 => ?_, fun h j h1 h2 => h j (by omega) h2⟩
              rcases Nat.lt_or_eq_of_le h1 with h3 | rfl
              · exact h j h3 h2
              · exact hb
            · simp only [RB, pickV, eqbV, notV, negV, convV, faddrV, fldV, idxV, eqaggV, iaddrV, isnilV, nilckV, cloV, extrV, slenV, minV, sidxV, abin, cmpInt, params, growLists, fillCells, newAt, rdPtr, wrPtr, AV.cells, asVal, lenOf, boundOf, rowsOf, argIds, freshIn, scalar1, setAll, AV.isData, AV.isYld, Nat.reduceAdd, Nat.reduceMul, Nat.reduceSub, Nat.reduceEqDiff, Nat.reduceLeDiff, Nat.reduceLT, Int.reduceNeg, ↓reduceIte, reduceCtorEq, Int.reduceEq, Int.reduceLT, Int.reduceLE, Int.reduceBEq, Int.reduceBNe, Int.reduceToNat, IntKind.bits, Int.reduceAdd, Int.reduceSub, Int.reduceMul, Int.reduceTDiv, Int.reduceTMod, DB, e_ref05_at _ k (show k < 128 by omega), hk, b01_ne, bne_iff_ne.2 hb]
              rw [decide_eq_false fun hc => hb (hc k (Nat.le_refl _) (by omega))]
          · simp only [RB, pickV, eqbV, notV, negV, convV, faddrV, fldV, idxV, eqaggV, iaddrV, isnilV, nilckV, cloV, extrV, slenV, minV, sidxV, abin, cmpInt, params, growLists, fillCells, newAt, rdPtr, wrPtr, AV.cells, asVal, lenOf, boundOf, rowsOf, argIds, freshIn, scalar1, setAll, AV.isData, AV.isYld, Nat.reduceAdd, Nat.reduceMul, Nat.reduceSub, Nat.reduceEqDiff, Nat.reduceLeDiff, Nat.reduceLT, Int.reduceNeg, ↓reduceIte, reduceCtorEq, Int.reduceEq, Int.reduceLT, Int.reduceLE, Int.reduceBEq, Int.reduceBNe, Int.reduceToNat, IntKind.bits, Int.reduceAdd, Int.reduceSub, Int.reduceMul, Int.reduceTDiv, Int.reduceTMod, DB, hk]
            rw [decide_eq_true (show Agree p.adr.b a.b k p.bits.toNat from fun j h1 h2 => absurd h2 (by omega))]
        · rfl
      · simp only [RB, pickV, eqbV, notV, negV, convV, faddrV, fldV, idxV, eqaggV, iaddrV, isnilV, nilckV, cloV, extrV, slenV, minV, sidxV, abin, cmpInt, params, growLists, fillCells, newAt, rdPtr, wrPtr, AV.cells, asVal, lenOf, boundOf, rowsOf, argIds, freshIn, scalar1, setAll, AV.isData, AV.isYld, Nat.reduceAdd, Nat.reduceMul, Nat.reduceSub, Nat.reduceEqDiff, Nat.reduceLeDiff, Nat.reduceLT, Int.reduceNeg, ↓reduceIte, reduceCtorEq, Int.reduceEq, Int.reduceLT, Int.reduceLE, Int.reduceBEq, Int.reduceBNe, Int.reduceToNat, IntKind.bits, Int.reduceAdd, Int.reduceSub, Int.reduceMul, Int.reduceTDiv, Int.reduceTMod, DB, e_ref05_RightAddr, h1, h2, bne_iff_ne.2 h3]
        simp [Has, h1, h2, h3]
    · simp only [RB, pickV, eqbV, notV, negV, convV, faddrV, fldV, idxV, eqaggV, iaddrV, isnilV, nilckV, cloV, extrV, slenV, minV, sidxV, abin, cmpInt, params, growLists, fillCells, newAt, rdPtr, wrPtr, AV.cells, asVal, lenOf, boundOf, rowsOf, argIds, freshIn, scalar1, setAll, AV.isData, AV.isYld, Nat.reduceAdd, Nat.reduceMul, Nat.reduceSub, Nat.reduceEqDiff, Nat.reduceLeDiff, Nat.reduceLT, Int.reduceNeg, ↓reduceIte, reduceCtorEq, Int.reduceEq, Int.reduceLT, Int.reduceLE, Int.reduceBEq, Int.reduceBNe, Int.reduceToNat, IntKind.bits, Int.reduceAdd, Int.reduceSub, Int.reduceMul, Int.reduceTDiv, Int.reduceTMod, DB, e_ref05_RightAddr, h1, h2]
      simp [Has, h1, h2]
  · simp only [RB, pickV, eqbV, notV, negV, convV, faddrV, fldV, idxV, eqaggV, iaddrV, isnilV, nilckV, cloV, extrV, slenV, minV, sidxV, abin, cmpInt, params, growLists, fillCells, newAt, rdPtr, wrPtr, AV.cells, asVal, lenOf, boundOf, rowsOf, argIds, freshIn, scalar1, setAll, AV.isData, AV.isYld, Nat.reduceAdd, Nat.reduceMul, Nat.reduceSub, Nat.reduceEqDiff, Nat.reduceLeDiff, Nat.reduceLT, Int.reduceNeg, ↓reduceIte, reduceCtorEq, Int.reduceEq, Int.reduceLT, Int.reduceLE, Int.reduceBEq, Int.reduceBNe, Int.reduceToNat, IntKind.bits, Int.reduceAdd, Int.reduceSub, Int.reduceMul, Int.reduceTDiv, Int.reduceTMod, DB, h1]
    simp [Has, h1]
theorem e_ref05_Holds (p q : Pfx) : LV E 34 [.agg (pav p), .agg (pav q)] = some (.bool (decide (Holds p q))) := by
  rw [LV_R (fn := f34) rfl rfl rfl]
  simp only [f34, RB, pickV, eqbV, notV, negV, convV, faddrV, fldV, idxV, eqaggV, iaddrV, isnilV, nilckV, cloV, extrV, slenV, minV, sidxV, abin, cmpInt, params, growLists, fillCells, newAt, rdPtr, wrPtr, AV.cells, asVal, lenOf, boundOf, rowsOf, argIds, freshIn, scalar1, setAll, AV.isData, AV.isYld, Nat.reduceAdd, Nat.reduceMul, Nat.reduceSub, Nat.reduceEqDiff, Nat.reduceLeDiff, Nat.reduceLT, Int.reduceNeg, ↓reduceIte, reduceCtorEq, Int.reduceEq, Int.reduceLT, Int.reduceLE, Int.reduceBEq, Int.reduceBNe, Int.reduceToNat, IntKind.bits, Int.reduceAdd, Int.reduceSub, Int.reduceMul, Int.reduceTDiv, Int.reduceTMod, DB, e_ref05_Right]
  by_cases h1 : PfxOk q
  · by_cases h2 : p.bits ≤ q.bits
    · simp only [RB, pickV, eqbV, notV, negV, convV, faddrV, fldV, idxV, eqaggV, iaddrV, isnilV, nilckV, cloV, extrV, slenV, minV, sidxV, abin, cmpInt, params, growLists, fillCells, newAt, rdPtr, wrPtr, AV.cells, asVal, lenOf, boundOf, rowsOf, argIds, freshIn, scalar1, setAll, AV.isData, AV.isYld, Nat.reduceAdd, Nat.reduceMul, Nat.reduceSub, Nat.reduceEqDiff, Nat.reduceLeDiff, Nat.reduceLT, Int.reduceNeg, ↓reduceIte, reduceCtorEq, Int.reduceEq, Int.reduceLT, Int.reduceLE, Int.reduceBEq, Int.reduceBNe, Int.reduceToNat, IntKind.bits, Int.reduceAdd, Int.reduceSub, Int.reduceMul, Int.reduceTDiv, Int.reduceTMod, DB, e_ref05_Has, h1, h2]
      simp [Holds, h1, h2]
    · simp only [RB, pickV, eqbV, notV, negV, convV, faddrV, fldV, idxV, eqaggV, iaddrV, isnilV, nilckV, cloV, extrV, slenV, minV, sidxV, abin, cmpInt, params, growLists, fillCells, newAt, rdPtr, wrPtr, AV.cells, asVal, lenOf, boundOf, rowsOf, argIds, freshIn, scalar1, setAll, AV.isData, AV.isYld, Nat.reduceAdd, Nat.reduceMul, Nat.reduceSub, Nat.reduceEqDiff, Nat.reduceLeDiff, Nat.reduceLT, Int.reduceNeg, ↓reduceIte, reduceCtorEq, Int.reduceEq, Int.reduceLT, Int.reduceLE, Int.reduceBEq, Int.reduceBNe, Int.reduceToNat, IntKind.bits, Int.reduceAdd, Int.reduceSub, Int.reduceMul, Int.reduceTDiv, Int.reduceTMod, DB, h1, h2]
      simp [Holds, h1, h2]
  · simp only [RB, pickV, eqbV, notV, negV, convV, faddrV, fldV, idxV, eqaggV, iaddrV, isnilV, nilckV, cloV, extrV, slenV, minV, sidxV, abin, cmpInt, params, growLists, fillCells, newAt, rdPtr, wrPtr, AV.cells, asVal, lenOf, boundOf, rowsOf, argIds, freshIn, scalar1, setAll, AV.isData, AV.isYld, Nat.reduceAdd, Nat.reduceMul, Nat.reduceSub, Nat.reduceEqDiff, Nat.reduceLeDiff, Nat.reduceLT, Int.reduceNeg, ↓reduceIte, reduceCtorEq, Int.reduceEq, Int.reduceLT, Int.reduceLE, Int.reduceBEq, Int.reduceBNe, Int.reduceToNat, IntKind.bits, Int.reduceAdd, Int.reduceSub, Int.reduceMul, Int.reduceTDiv, Int.reduceTMod, DB, h1]
    simp [Holds, h1]
end Go.Proofs.YtdllnneeopbmdaaDoor.F

/- The order of prefixes by the document, and the prefixes of addresses. No condition. -/
set_option linter.unusedSimpArgs false
namespace Go.Proofs.YtdllnneeopbmdaaDoor.F
open Go Go.Proofs.YtdllnneeopbmdaaDoor.A Go.Proofs.YtdllnneeopbmdaaDoor.D
def irow (l : List Int) : List (List AV) := l.map fun x => [.int .i64 x]
theorem irow_len (l : List Int) : (irow l).length = l.length := by simp [irow]
theorem irow_snoc (l : List Int) (x : Int) : irow l ++ [[.int .i64 x]] = irow (l ++ [x]) := by simp [irow]
theorem irow_one (x : Int) : [[AV.int .i64 x]] = irow [x] := rfl
theorem irow_take (l : List Int) (n : Nat) (h : l.length = n) : (irow l).take n = irow l := by rw [← h, ← irow_len, List.take_length]
theorem irow_get (l : List Int) (n : Nat) (h : n < l.length) : (irow l)[n]? = some [.int .i64 l[n]] := by simp [irow, h]
def pre (p : Pfx) (k : Nat) : List Int := p.adr.ver :: (ints p.adr.b).take k
theorem pre_len (p : Pfx) (k : Nat) (h : k ≤ 16) : (pre p k).length = k + 1 := by simp [pre, ints_len, h]
theorem pre_snoc (p : Pfx) (k : Nat) (h : k < 16) : pre p k ++ [(p.adr.b.get k : Int)] = pre p (k + 1) := by
  have : (ints p.adr.b)[k]? = some (p.adr.b.get k : Int) := by simp [ints, p.adr.b.get_some h]
  simp only [pre, List.cons_append, List.take_add_one, this, Option.toList_some]
theorem pre_16 (p : Pfx) : pre p 16 ++ [p.bits] = key p := by
  simp only [pre, key, List.cons_append]; rw [← ints_len p.adr.b, List.take_length]
theorem pav_i (p : Pfx) (n : Nat) (h : n < 16) : piece (pav p) (1 + n) 1 = some [.int .u8 (p.adr.b.get n : Int)] := by
  have h1 := bav_i p.adr.b n h
  unfold piece at h1 ⊢
  rw [if_pos (by rw [bav_len]; omega)] at h1
  rw [if_pos (by rw [pav_len]; omega), ← h1, Nat.add_comm 1 n]
  simp only [pav, List.drop_succ_cons]
  have h2 := bav_len p.adr.b
  rw [List.drop_append_of_le_length (by omega), List.take_append_of_le_length (by simp; omega)]
theorem lex_drop (l r : List Int) (j : Nat) (h1 : j < l.length) (h2 : j < r.length) : lexL (l.drop j) (r.drop j) = if l[j] < r[j] then -1 else if r[j] < l[j] then 1 else lexL (l.drop (j + 1)) (r.drop (j + 1)) := by
  rw [List.drop_eq_getElem_cons h1, List.drop_eq_getElem_cons h2, lexL]
theorem e_ref05_Compare (p q : Pfx) : LV E 47 [.agg (pav p), .agg (pav q)] = some (.int .i64 (cmpP p q)) := by
  rw [LV_R (fn := f47) rfl rfl rfl]
  simp only [f47, RB, pickV, eqbV, notV, negV, convV, faddrV, fldV, idxV, eqaggV, iaddrV, isnilV, nilckV, cloV, extrV, slenV, minV, sidxV, abin, cmpInt, params, growLists, fillCells, newAt, rdPtr, wrPtr, AV.cells, asVal, lenOf, boundOf, rowsOf, argIds, freshIn, scalar1, setAll, AV.isData, AV.isYld, Nat.reduceAdd, Nat.reduceMul, Nat.reduceSub, Nat.reduceEqDiff, Nat.reduceLeDiff, Nat.reduceLT, Int.reduceNeg, ↓reduceIte, reduceCtorEq, Int.reduceEq, Int.reduceLT, Int.reduceLE, Int.reduceBEq, Int.reduceBNe, Int.reduceToNat, IntKind.bits, Int.reduceAdd, Int.reduceSub, Int.reduceMul, Int.reduceTDiv, Int.reduceTMod, DB, aop_buildSl, fillRows, asData]
  refine (W_rec (β := AV) (ι := {k : Nat // k ≤ 16}) (M := fun k => [(2, .ptr 0 0 0 0), (3, .ptr 1 0 0 0), (5, .lis 2 k.1 0 (k.1 + 1)), (6, .lis 3 k.1 0 (k.1 + 1)), (7, .int .i64 (k.1 : Int))])
    (H := fun k => ⟨[.box 0 58 (pav p), .box 0 58 (pav q), .lst 0 k.1 3 1 (irow (pre p k.1)), .lst 0 k.1 3 1 (irow (pre q k.1))], []⟩)
    (r := fun _ => some (AV.int .i64 (cmpP p q))) (μ := fun k => 16 - k.1) (fun i => ?_) (fun k ih => ?_) ⟨0, by omega⟩)
  · simp [LPB]
  · obtain ⟨k, hk16⟩ := k
    by_cases hk : k < 16
    · have ih := ih ⟨k + 1, by omega⟩ (by simp only; omega)
      simp only at ih
      have f1 : (k : Int) < 16 := by omega
      have f2 : (0 : Int) ≤ (k : Int) := by omega
      have f3 : ∀ b : B16, IntKind.i64.wrap (b.get k : Int) = (b.get k : Int) := fun b => IntWalk.i64_in _ (by have := b.get_lt k; omega)
      have f6 : IntKind.i64.wrap ((k : Int) + 1) = ((k + 1 : Nat) : Int) := by rw [IntWalk.i64_in _ (by omega)] <;> omega
      have f7 : (k + 1 + 1) * 8 ≤ 140737488355328 := by omega
      have f8 : k ≤ 4611686018427387902 := by omega
      simp only [RB, pickV, eqbV, notV, negV, convV, faddrV, fldV, idxV, eqaggV, iaddrV, isnilV, nilckV, cloV, extrV, slenV, minV, sidxV, abin, cmpInt, params, growLists, fillCells, newAt, rdPtr, wrPtr, AV.cells, asVal, lenOf, boundOf, rowsOf, argIds, freshIn, scalar1, setAll, AV.isData, AV.isYld, Nat.reduceAdd, Nat.reduceMul, Nat.reduceSub, Nat.reduceEqDiff, Nat.reduceLeDiff, Nat.reduceLT, Int.reduceNeg, ↓reduceIte, reduceCtorEq, Int.reduceEq, Int.reduceLT, Int.reduceLE, Int.reduceBEq, Int.reduceBNe, Int.reduceToNat, IntKind.bits, Int.reduceAdd, Int.reduceSub, Int.reduceMul, Int.reduceTDiv, Int.reduceTMod, DB, f1, f2, f3, f6, f7, f8, Nat.le_refl, aop_buildSl, fillRows, asData, pav_i p k hk, pav_i q k hk, headFits, aappend, irow_len, pre_len p k hk16, pre_len q k hk16, irow_take _ _ (pre_len p k hk16), irow_take _ _ (pre_len q k hk16), irow_snoc, pre_snoc p k hk, pre_snoc q k hk]
      exact ih
    · have : k = 16 := by omega
      subst this
      simp only [RB, pickV, eqbV, notV, negV, convV, faddrV, fldV, idxV, eqaggV, iaddrV, isnilV, nilckV, cloV, extrV, slenV, minV, sidxV, abin, cmpInt, params, growLists, fillCells, newAt, rdPtr, wrPtr, AV.cells, asVal, lenOf, boundOf, rowsOf, argIds, freshIn, scalar1, setAll, AV.isData, AV.isYld, Nat.reduceAdd, Nat.reduceMul, Nat.reduceSub, Nat.reduceEqDiff, Nat.reduceLeDiff, Nat.reduceLT, Int.reduceNeg, ↓reduceIte, reduceCtorEq, Int.reduceEq, Int.reduceLT, Int.reduceLE, Int.reduceBEq, Int.reduceBNe, Int.reduceToNat, IntKind.bits, Int.reduceAdd, Int.reduceSub, Int.reduceMul, Int.reduceTDiv, Int.reduceTMod, DB, show ¬ ((16 : Nat) : Int) < 16 by omega, aop_buildSl, fillRows, asData, headFits, aappend, irow_len, pre_len p 16 hk16, pre_len q 16 hk16, irow_take _ _ (pre_len p 16 hk16), irow_take _ _ (pre_len q 16 hk16), irow_snoc, pre_16]
      clear ih
      have hlp := key_len p
      have hlq := key_len q
      refine (W_rec (β := AV) (ι := {k : Nat // k ≤ 18}) (M := fun k => [(5, .lis 2 17 0 18), (6, .lis 3 17 0 18), (8, .int .i64 (k.1 : Int))])
        (H := fun k => ⟨[.box 0 58 (pav p), .box 0 58 (pav q), .lst 0 17 3 1 (irow (key p)), .lst 0 17 3 1 (irow (key q)), .lst 0 0 3 1 [[.int .i64 p.bits]], .dead, .lst 0 0 3 1 [[.int .i64 q.bits]], .dead], []⟩)
        (r := fun k => some (AV.int .i64 (lexL ((key p).drop k.1) ((key q).drop k.1)))) (μ := fun k => 18 - k.1) (fun i => ?_) (fun k ih => ?_) ⟨0, by omega⟩)
      · simp [LPB]
      · obtain ⟨k, hk18⟩ := k
        by_cases hk : k < 18
        · have ih := ih ⟨k + 1, by omega⟩ (by simp only; omega)
          simp only at ih
          have f1 : (k : Int) < 18 := by omega
          have f2 : (0 : Int) ≤ (k : Int) := by omega
          have f6 : IntKind.i64.wrap ((k : Int) + 1) = ((k + 1 : Nat) : Int) := by rw [IntWalk.i64_in _ (by omega)] <;> omega
          have g1 := irow_get (key p) k (by omega)
          have g2 := irow_get (key q) k (by omega)
          rw [lex_drop _ _ k (by omega) (by omega)]
          by_cases h1 : (key p)[k] < (key q)[k]
          · simp only [RB, pickV, eqbV, notV, negV, convV, faddrV, fldV, idxV, eqaggV, iaddrV, isnilV, nilckV, cloV, extrV, slenV, minV, sidxV, abin, cmpInt, params, growLists, fillCells, newAt, rdPtr, wrPtr, AV.cells, asVal, lenOf, boundOf, rowsOf, argIds, freshIn, scalar1, setAll, AV.isData, AV.isYld, Nat.reduceAdd, Nat.reduceMul, Nat.reduceSub, Nat.reduceEqDiff, Nat.reduceLeDiff, Nat.reduceLT, Int.reduceNeg, ↓reduceIte, reduceCtorEq, Int.reduceEq, Int.reduceLT, Int.reduceLE, Int.reduceBEq, Int.reduceBNe, Int.reduceToNat, IntKind.bits, Int.reduceAdd, Int.reduceSub, Int.reduceMul, Int.reduceTDiv, Int.reduceTMod, DB, f1, f2, f6, g1, g2, hk, h1, lisFits]
          · by_cases h2 : (key q)[k] < (key p)[k]
            · simp only [RB, pickV, eqbV, notV, negV, convV, faddrV, fldV, idxV, eqaggV, iaddrV, isnilV, nilckV, cloV, extrV, slenV, minV, sidxV, abin, cmpInt, params, growLists, fillCells, newAt, rdPtr, wrPtr, AV.cells, asVal, lenOf, boundOf, rowsOf, argIds, freshIn, scalar1, setAll, AV.isData, AV.isYld, Nat.reduceAdd, Nat.reduceMul, Nat.reduceSub, Nat.reduceEqDiff, Nat.reduceLeDiff, Nat.reduceLT, Int.reduceNeg, ↓reduceIte, reduceCtorEq, Int.reduceEq, Int.reduceLT, Int.reduceLE, Int.reduceBEq, Int.reduceBNe, Int.reduceToNat, IntKind.bits, Int.reduceAdd, Int.reduceSub, Int.reduceMul, Int.reduceTDiv, Int.reduceTMod, DB, f1, f2, f6, g1, g2, hk, h1, h2, lisFits]
            · simp only [RB, pickV, eqbV, notV, negV, convV, faddrV, fldV, idxV, eqaggV, iaddrV, isnilV, nilckV, cloV, extrV, slenV, minV, sidxV, abin, cmpInt, params, growLists, fillCells, newAt, rdPtr, wrPtr, AV.cells, asVal, lenOf, boundOf, rowsOf, argIds, freshIn, scalar1, setAll, AV.isData, AV.isYld, Nat.reduceAdd, Nat.reduceMul, Nat.reduceSub, Nat.reduceEqDiff, Nat.reduceLeDiff, Nat.reduceLT, Int.reduceNeg, ↓reduceIte, reduceCtorEq, Int.reduceEq, Int.reduceLT, Int.reduceLE, Int.reduceBEq, Int.reduceBNe, Int.reduceToNat, IntKind.bits, Int.reduceAdd, Int.reduceSub, Int.reduceMul, Int.reduceTDiv, Int.reduceTMod, DB, f1, f2, f6, g1, g2, hk, h1, h2, lisFits]
              exact ih
        · have : k = 18 := by omega
          subst this
          simp only [RB, pickV, eqbV, notV, negV, convV, faddrV, fldV, idxV, eqaggV, iaddrV, isnilV, nilckV, cloV, extrV, slenV, minV, sidxV, abin, cmpInt, params, growLists, fillCells, newAt, rdPtr, wrPtr, AV.cells, asVal, lenOf, boundOf, rowsOf, argIds, freshIn, scalar1, setAll, AV.isData, AV.isYld, Nat.reduceAdd, Nat.reduceMul, Nat.reduceSub, Nat.reduceEqDiff, Nat.reduceLeDiff, Nat.reduceLT, Int.reduceNeg, ↓reduceIte, reduceCtorEq, Int.reduceEq, Int.reduceLT, Int.reduceLE, Int.reduceBEq, Int.reduceBNe, Int.reduceToNat, IntKind.bits, Int.reduceAdd, Int.reduceSub, Int.reduceMul, Int.reduceTDiv, Int.reduceTMod, DB, show ¬ ((18 : Nat) : Int) < 18 by omega]
          rw [List.drop_eq_nil_of_le (by omega), List.drop_eq_nil_of_le (by omega)]; rfl
end Go.Proofs.YtdllnneeopbmdaaDoor.F

/- The prefixes of addresses, by the program and by the document. No condition. -/
set_option linter.unusedSimpArgs false
namespace Go.Proofs.YtdllnneeopbmdaaDoor.D
open Go Go.Proofs.YtdllnneeopbmdaaDoor.A
theorem aav_ov (a : Adr) (v : Int) : ovr (aav a) 0 [.int .i64 v] = some (aav ⟨v, a.b⟩) := by
  unfold ovr; rw [if_pos (by rw [aav_len]; simp)]; rfl
theorem pav_put (p : Pfx) {n v : Nat} (hn : n < 16) (hv : v < 256) : ovr (pav p) (1 + n) [.int .u8 (v : Int)] = some (pav ⟨⟨p.adr.ver, p.adr.b.put n v⟩, p.bits⟩) := by
  have h := bav_put p.adr.b hn hv
  unfold ovr at h ⊢
  rw [if_pos (by simp [bav_len]; omega)] at h
  rw [if_pos (by simp [pav_len]; omega)]
  have h' := Option.some.inj h
  have hl := bav_len p.adr.b
  simp only [pav, ← h', Nat.add_comm 1 n, List.take_succ_cons, List.length_cons, List.length_nil, Nat.zero_add, List.drop_succ_cons, List.cons_append]
  rw [List.take_append_of_le_length (by omega), List.drop_append_of_le_length (by omega)]
  simp
theorem cutN_ge (x n : Nat) (h : 8 ≤ n) : cutN x n = x := by unfold cutN; rw [show 8 - n = 0 by omega]; simp
theorem cutN_0 (x : Nat) (h : x < 256) : cutN x 0 = 0 := by unfold cutN; rw [show (8 - 0 : Nat) = 8 by omega, Nat.div_eq_of_lt h, Nat.zero_mul]
theorem cutN_step (x j : Nat) (hx : x < 256) (hj : j < 8) : cutN x (j + 1) = cutN x j + (if x.testBit (7 - j) then 128 / 2 ^ j else 0) := by
  have : ∀ x < 256, ∀ j < 8, cutN x (j + 1) = cutN x j + (if x.testBit (7 - j) then 128 / 2 ^ j else 0) := by decide +kernel
  exact this x hx j hj
theorem cut_next (b : B16) (k : Nat) {i : Nat} (hi : i < 16) : (cut b (k + 1)).get i = if i = k / 8 then cutN (b.get i) (k % 8) + (if bit b k then 128 / 2 ^ (k % 8) else 0) else (cut b k).get i := by
  rw [cut_get _ _ hi, cut_get _ _ hi]
  by_cases h : i = k / 8
  · subst h
    rw [if_pos rfl, show k + 1 - 8 * (k / 8) = k % 8 + 1 by omega, cutN_step _ _ (b.get_lt _) (by omega)]; rfl
  · rw [if_neg h]
    by_cases h2 : i < k / 8
    · rw [cutN_ge _ _ (by omega), cutN_ge _ _ (by omega)]
    · rw [show k + 1 - 8 * i = 0 by omega, show k - 8 * i = 0 by omega]
theorem cut_put (b : B16) (k : Nat) (hk : k < 128) (hb : bit b k = true) : (cut b k).put (k / 8) ((cut b k).get (k / 8) + 128 / 2 ^ (k % 8)) = cut b (k + 1) ∧ (cut b k).get (k / 8) + 128 / 2 ^ (k % 8) < 256 := by
  have h1 : (cut b k).get (k / 8) + 128 / 2 ^ (k % 8) = (cut b (k + 1)).get (k / 8) := by
    rw [cut_next b k (by omega), if_pos rfl, hb, if_pos rfl, cut_get _ _ (by omega), show k - 8 * (k / 8) = k % 8 by omega]
  have h2 := (cut b (k + 1)).get_lt (k / 8)
  refine ⟨B16.ext' fun i hi => ?_, by omega⟩
  rw [B16.get_put _ (by omega) (by omega), h1]
  by_cases h : i = k / 8
  · rw [if_pos h, h]
  · rw [if_neg h, cut_next b k hi, if_neg h]
theorem cut_skip (b : B16) (k : Nat) (hb : bit b k = false) : cut b (k + 1) = cut b k := B16.ext' fun i hi => by
  rw [cut_next b k hi, hb]
  by_cases h : i = k / 8
  · rw [if_pos h, h, cut_get _ _ (by omega), show k - 8 * (k / 8) = k % 8 by omega]; simp
  · rw [if_neg h]
theorem cut_zero (b : B16) : cut b 0 = zerB := B16.ext' fun i hi => by
  rw [cut_get _ _ hi, show 0 - 8 * i = 0 by omega, cutN_0 _ (b.get_lt i)]
  have : ∀ i < 16, 0 = zerB.get i := by decide
  exact this i hi
def ofE (a : Adr) (n : Int) : Int := if AddrOk a then if 0 ≤ n ∧ n ≤ width a.ver then 0 else 2 else 150
def ofP (a : Adr) (n : Int) : Pfx := if AddrOk a ∧ 0 ≤ n ∧ n ≤ width a.ver then ⟨⟨a.ver, cut a.b n.toNat⟩, n⟩ else zerP
end Go.Proofs.YtdllnneeopbmdaaDoor.D
namespace Go.Proofs.YtdllnneeopbmdaaDoor.F
open Go Go.Proofs.YtdllnneeopbmdaaDoor.A Go.Proofs.YtdllnneeopbmdaaDoor.D
end Go.Proofs.YtdllnneeopbmdaaDoor.F
