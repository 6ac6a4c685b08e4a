/- Part 6 of the proofs of these statements. No condition. -/
import Derived.Test.YtdllnneeopbmdaaDoorM5
import Derived.IntWalk
import Derived.Lib.Bytealg
set_option linter.unusedVariables false
set_option linter.unusedSimpArgs false
/- Functions in the evaluator's form, 2. No condition. -/
namespace Go.Proofs.YtdllnneeopbmdaaDoor.F
open Go Go.Proofs.YtdllnneeopbmdaaDoor.A
/-- junctionbox/tally.give -/
def f41 : AFunc :=
⟨4, [], (.seq (.region 2 [⟨some 5, .box 58 18 (.t 1) [], none, 0⟩, ⟨some 7, .box 25 2 (.t 3) [], none, 1⟩] false []) (.seq (.region 0 [⟨some 11, .mv (.t 0), none, 0⟩, ⟨some 12, .nilck (.t 11), none, 0⟩, ⟨some 13, .faddr 1 (.t 12), none, 0⟩, ⟨some 8, .mv (.t 13), none, 0⟩] false []) (.seq (.seq (.region 0 [⟨some 14, .mv (.t 2), none, 0⟩] false []) (.cond (.t 14) (.seq (.region 0 [⟨some 16, .mv (.t 0), none, 0⟩, ⟨some 17, .nilck (.t 16), none, 0⟩, ⟨some 18, .faddr 0 (.t 17), none, 0⟩, ⟨some 19, .load 1 false (.t 18), none, 0⟩, ⟨some 20, .load 18 true (.t 5), none, 0⟩, ⟨some 21, .callR (.c (.clo 78 [])) [.t 19, .t 20, .c (.clo 79 [])] false, none, 0⟩, ⟨some 15, .mv (.t 21), none, 0⟩, ⟨some 22, .extr (.t 15) 0, none, 0⟩, ⟨some 23, .extr (.t 15) 1, none, 0⟩, ⟨some 9, .mv (.t 22), none, 0⟩, ⟨some 10, .mv (.t 23), none, 0⟩] true []) (.region 0 [⟨some 24, .mv (.t 0), none, 0⟩, ⟨some 25, .nilck (.t 24), none, 0⟩, ⟨some 26, .faddr 0 (.t 25), none, 0⟩, ⟨some 27, .load 1 false (.t 26), none, 0⟩, ⟨some 28, .mv (.t 9), none, 0⟩, ⟨some 29, .iaddr 20 none (.t 27) (.t 28), none, 0⟩, ⟨some 30, .faddr 18 (.t 29), none, 0⟩, ⟨some 8, .mv (.t 30), none, 0⟩] false [])) .skip)) (.region 0 [⟨some 31, .mv (.t 8), none, 0⟩, ⟨some 32, .mv (.t 8), none, 0⟩, ⟨some 33, .nilck (.t 32), none, 0⟩, ⟨some 34, .load 2 true (.t 33), none, 0⟩, ⟨some 35, .load 2 true (.t 7), none, 0⟩, ⟨some 36, .callV 51 [.t 34, .t 35] false, none, 0⟩, ⟨some 37, .nilck (.t 31), none, 0⟩, ⟨none, .store 2 (.t 37) (.t 36), none, 0⟩] true [])))), false⟩
theorem c41 : cFunc Tryd.prog G f41 Tryd.f41 = some f41 := by kernel_rfl
/-- junctionbox/junctionboxref31.Error -/
def f42 : AFunc :=
⟨3, [.t 6], (.seq (.region 3 [⟨some 3, .box 27 3 (.t 0) [], none, 0⟩, ⟨some 4, .box 30 1 (.t 1) [], none, 1⟩, ⟨some 5, .box 30 1 (.t 2) [], none, 2⟩, ⟨some 6, .mv (.c (.int .i64 0)), none, 0⟩] false []) (.seq (.seq (.region 0 [⟨some 7, .load 3 true (.t 3), none, 0⟩, ⟨some 8, .callV 25 [.t 7] false, none, 0⟩, ⟨some 9, .not (.t 8), none, 0⟩] false []) (.cond (.t 9) (.seq (.region 0 [⟨some 6, .mv (.c (.int .i64 410)), none, 0⟩] false []) .ret) .skip)) (.seq (.seq (.region 0 [⟨some 10, .load 1 true (.t 4), none, 0⟩, ⟨some 11, .callV 15 [.t 10] false, none, 0⟩, ⟨some 12, .not (.t 11), none, 0⟩, ⟨some 13, .mv (.t 12), none, 0⟩, ⟨some 14, .load 1 true (.t 5), some (13, false), 0⟩, ⟨some 15, .callV 15 [.t 14] false, some (13, false), 0⟩, ⟨some 16, .not (.t 15), some (13, false), 0⟩, ⟨some 17, .pick (.t 13) (.c (.bool true)) (.t 16), none, 0⟩] false []) (.cond (.t 17) (.seq (.region 0 [⟨some 6, .mv (.c (.int .i64 190)), none, 0⟩] false []) .ret) .skip)) (.seq (.seq (.region 0 [⟨some 18, .load 3 true (.t 3), none, 0⟩, ⟨some 19, .load 1 true (.t 4), none, 0⟩, ⟨some 20, .callV 80 [.t 18, .t 19] false, none, 0⟩, ⟨some 21, .not (.t 20), none, 0⟩] false []) (.cond (.t 21) (.seq (.region 0 [⟨some 6, .mv (.c (.int .i64 411)), none, 0⟩] false []) .ret) .skip)) (.seq (.region 0 [⟨some 6, .mv (.c (.int .i64 0)), none, 0⟩] false []) .ret))))), false⟩
theorem c42 : cFunc Tryd.prog G f42 Tryd.f42 = some f42 := by kernel_rfl
/-- junctionbox/junctionboxref05.RightAddr -/
def f43 : AFunc :=
⟨1, [.t 2], (.seq (.region 1 [⟨some 1, .box 33 17 (.t 0) [], none, 0⟩, ⟨some 2, .mv (.c (.bool false)), none, 0⟩] false []) (.seq (.region 0 [⟨some 5, .faddr 0 (.t 1), none, 0⟩, ⟨some 6, .load 1 false (.t 5), none, 0⟩, ⟨some 7, .callV 72 [.t 6] false, none, 0⟩, ⟨some 3, .mv (.t 7), none, 0⟩] false []) (.seq (.seq (.region 0 [⟨some 8, .mv (.t 3), none, 0⟩, ⟨some 4, .mv (.t 8), none, 0⟩] false []) (.block 0 (.loop [1, 3, 4] (.seq (.seq (.region 0 [⟨some 9, .mv (.t 4), none, 0⟩, ⟨some 10, .bin .lss (.t 9) (.c (.int .i64 128)), none, 0⟩] false []) (.cond (.t 10) .skip (.exit 0))) (.seq (.block 1 (.seq (.region 0 [⟨some 13, .faddr 1 (.t 1), none, 0⟩, ⟨some 14, .load 16 true (.t 13), none, 0⟩, ⟨some 15, .mv (.t 4), none, 0⟩, ⟨some 16, .callV 73 [.t 14, .t 15] false, none, 0⟩, ⟨some 17, .bin .eql (.t 16) (.c (.int .i64 1)), none, 0⟩] false []) (.cond (.t 17) (.seq (.region 0 [⟨some 2, .mv (.c (.bool false)), none, 0⟩] false []) .ret) .skip))) (.region 0 [⟨some 11, .mv (.t 4), none, 0⟩, ⟨some 12, .bin .add (.t 11) (.c (.int .i64 1)), none, 0⟩, ⟨some 4, .mv (.t 12), none, 0⟩] false [])))))) (.seq (.region 0 [⟨some 18, .mv (.t 3), none, 0⟩, ⟨some 19, .bin .gtr (.t 18) (.c (.int .i64 0)), none, 0⟩, ⟨some 2, .mv (.t 19), none, 0⟩] false []) .ret)))), false⟩
theorem c43 : cFunc Tryd.prog G f43 Tryd.f43 = some f43 := by kernel_rfl
/-- junctionbox/junctionboxref05.Has -/
def f44 : AFunc :=
⟨2, [.t 4], (.seq (.region 2 [⟨some 2, .box 58 18 (.t 0) [], none, 0⟩, ⟨some 3, .box 33 17 (.t 1) [], none, 1⟩, ⟨some 4, .mv (.c (.bool false)), none, 0⟩] false []) (.seq (.seq (.region 0 [⟨some 6, .load 18 true (.t 2), none, 0⟩, ⟨some 7, .callV 35 [.t 6] false, none, 0⟩, ⟨some 8, .not (.t 7), none, 0⟩, ⟨some 9, .mv (.t 8), none, 0⟩, ⟨some 10, .load 17 true (.t 3), some (9, false), 0⟩, ⟨some 11, .callV 43 [.t 10] false, some (9, false), 0⟩, ⟨some 12, .not (.t 11), some (9, false), 0⟩, ⟨some 13, .pick (.t 9) (.c (.bool true)) (.t 12), none, 0⟩, ⟨some 14, .mv (.t 13), none, 0⟩, ⟨some 15, .faddr 0 (.t 2), some (14, false), 0⟩, ⟨some 16, .faddr 0 (.t 15), some (14, false), 0⟩, ⟨some 17, .load 1 false (.t 16), some (14, false), 0⟩, ⟨some 18, .faddr 0 (.t 3), some (14, false), 0⟩, ⟨some 19, .load 1 false (.t 18), some (14, false), 0⟩, ⟨some 20, .bin .neq (.t 17) (.t 19), some (14, false), 0⟩, ⟨some 21, .pick (.t 14) (.c (.bool true)) (.t 20), none, 0⟩] false []) (.cond (.t 21) (.seq (.region 0 [⟨some 4, .mv (.c (.bool false)), none, 0⟩] false []) .ret) .skip)) (.seq (.seq (.region 0 [⟨some 5, .mv (.c (.int .i64 0)), none, 0⟩] false []) (.block 0 (.loop [2, 3, 5] (.seq (.seq (.region 0 [⟨some 22, .mv (.t 5), none, 0⟩, ⟨some 23, .faddr 17 (.t 2), none, 0⟩, ⟨some 24, .load 1 false (.t 23), none, 0⟩, ⟨some 25, .bin .lss (.t 22) (.t 24), none, 0⟩] false []) (.cond (.t 25) .skip (.exit 0))) (.seq (.block 1 (.seq (.region 0 [⟨some 28, .faddr 0 (.t 2), none, 0⟩, ⟨some 29, .faddr 1 (.t 28), none, 0⟩, ⟨some 30, .load 16 true (.t 29), none, 0⟩, ⟨some 31, .mv (.t 5), none, 0⟩, ⟨some 32, .callV 73 [.t 30, .t 31] false, none, 0⟩, ⟨some 33, .faddr 1 (.t 3), none, 0⟩, ⟨some 34, .load 16 true (.t 33), none, 0⟩, ⟨some 35, .mv (.t 5), none, 0⟩, ⟨some 36, .callV 73 [.t 34, .t 35] false, none, 0⟩, ⟨some 37, .bin .neq (.t 32) (.t 36), none, 0⟩] true []) (.cond (.t 37) (.seq (.region 0 [⟨some 4, .mv (.c (.bool false)), none, 0⟩] false []) .ret) .skip))) (.region 0 [⟨some 26, .mv (.t 5), none, 0⟩, ⟨some 27, .bin .add (.t 26) (.c (.int .i64 1)), none, 0⟩, ⟨some 5, .mv (.t 27), none, 0⟩] false [])))))) (.seq (.region 0 [⟨some 4, .mv (.c (.bool true)), none, 0⟩] false []) .ret)))), false⟩
theorem c44 : cFunc Tryd.prog G f44 Tryd.f44 = some f44 := by kernel_rfl
/-- junctionbox/junctionboxref31.Give -/
def f45 : AFunc :=
⟨3, [.cell 6 3 true], (.seq (.region 4 [⟨some 3, .box 27 3 (.t 0) [], none, 0⟩, ⟨some 5, .box 25 2 (.t 2) [], none, 1⟩, ⟨some 6, .alloc 27 [.clip [], .int .u64 0, .int .u64 0] [(0, 60, 20)], none, 2⟩] false []) (.seq (.region 3 [⟨some 10, .faddr 1 (.t 3), none, 0⟩, ⟨some 11, .load 2 true (.t 10), none, 0⟩, ⟨some 12, .build [.clip [], .int .u64 0, .int .u64 0] [(1, 2, .t 11)] [(0, 60, 20)], none, 0⟩, ⟨some 7, .alloc 27 [.clip [], .int .u64 0, .int .u64 0] [(0, 60, 20)], none, 1⟩, ⟨none, .store 3 (.t 7) (.t 12), none, 0⟩] false []) (.seq (.seq (.region 0 [⟨some 8, .mv (.c (.int .i64 0)), none, 0⟩] false []) (.block 0 (.loop [1, 3, 5, 6, 7, 8] (.seq (.seq (.region 0 [⟨some 13, .mv (.t 8), none, 0⟩, ⟨some 14, .faddr 0 (.t 3), none, 0⟩, ⟨some 15, .load 1 false (.t 14), none, 0⟩, ⟨some 16, .len (.t 15), none, 0⟩, ⟨some 17, .bin .lss (.t 13) (.t 16), none, 0⟩] false []) (.cond (.t 17) .skip (.exit 0))) (.seq (.block 1 (.seq (.region 1 [⟨some 20, .faddr 0 (.t 3), none, 0⟩, ⟨some 21, .load 1 false (.t 20), none, 0⟩, ⟨some 22, .mv (.t 8), none, 0⟩, ⟨some 23, .iaddr 20 none (.t 21) (.t 22), none, 0⟩, ⟨some 24, .load 20 true (.t 23), none, 0⟩, ⟨some 9, .alloc 60 [.int .i64 0, .int .u8 0, .int .u8 0, .int .u8 0, .int .u8 0, .int .u8 0, .int .u8 0, .int .u8 0, .int .u8 0, .int .u8 0, .int .u8 0, .int .u8 0, .int .u8 0, .int .u8 0, .int .u8 0, .int .u8 0, .int .u8 0, .int .i64 0, .int .u64 0, .int .u64 0] [], none, 0⟩, ⟨none, .store 20 (.t 9) (.t 24), none, 0⟩] false []) (.seq (.seq (.region 0 [⟨some 25, .mv (.t 8), none, 0⟩, ⟨some 26, .mv (.t 1), none, 0⟩, ⟨some 27, .bin .eql (.t 25) (.t 26), none, 0⟩] false []) (.cond (.t 27) (.region 0 [⟨some 28, .faddr 18 (.t 9), none, 0⟩, ⟨some 29, .load 2 true (.t 28), none, 0⟩, ⟨some 30, .load 2 true (.t 5), none, 0⟩, ⟨some 31, .callV 22 [.t 29, .t 30] false, none, 0⟩, ⟨some 32, .faddr 18 (.t 9), none, 0⟩, ⟨none, .store 2 (.t 32) (.t 31), none, 0⟩] false []) .skip)) (.region 2 [⟨some 33, .faddr 0 (.t 7), none, 0⟩, ⟨some 34, .load 1 false (.t 33), none, 0⟩, ⟨some 35, .load 20 true (.t 9), none, 0⟩, ⟨some 36, .buildSl 60 20 [.int .i64 0, .int .u8 0, .int .u8 0, .int .u8 0, .int .u8 0, .int .u8 0, .int .u8 0, .int .u8 0, .int .u8 0, .int .u8 0, .int .u8 0, .int .u8 0, .int .u8 0, .int .u8 0, .int .u8 0, .int .u8 0, .int .u8 0, .int .i64 0, .int .u64 0, .int .u64 0] 1 [(0, .t 35)] false, none, 0⟩, ⟨some 37, .append 60 20 48 (.t 34) (.t 36), none, 1⟩, ⟨some 38, .faddr 0 (.t 7), none, 0⟩, ⟨none, .store 1 (.t 38) (.t 37), none, 0⟩] false [])))) (.region 0 [⟨some 18, .mv (.t 8), none, 0⟩, ⟨some 19, .bin .add (.t 18) (.c (.int .i64 1)), none, 0⟩, ⟨some 8, .mv (.t 19), none, 0⟩] false [])))))) (.seq (.seq (.region 0 [⟨some 39, .mv (.t 1), none, 0⟩, ⟨some 40, .bin .lss (.t 39) (.c (.int .i64 0)), none, 0⟩] false []) (.cond (.t 40) (.region 0 [⟨some 41, .faddr 1 (.t 3), none, 0⟩, ⟨some 42, .load 2 true (.t 41), none, 0⟩, ⟨some 43, .load 2 true (.t 5), none, 0⟩, ⟨some 44, .callV 22 [.t 42, .t 43] false, none, 0⟩, ⟨some 45, .faddr 1 (.t 7), none, 0⟩, ⟨none, .store 2 (.t 45) (.t 44), none, 0⟩] false []) .skip)) (.seq (.region 0 [⟨some 46, .load 3 true (.t 7), none, 0⟩, ⟨none, .store 3 (.t 6) (.t 46), none, 0⟩] false []) .ret))))), false⟩
theorem c45 : cFunc Tryd.prog G f45 Tryd.f45 = some f45 := by kernel_rfl
/-- junctionbox/tally.zero -/
def f46 : AFunc :=
⟨1, [.cell 2 3 true], (.seq (.region 3 [⟨some 1, .box 30 1 (.t 0) [], none, 0⟩, ⟨some 2, .alloc 27 [.clip [], .int .u64 0, .int .u64 0] [(0, 60, 20)], none, 1⟩] false []) (.seq (.region 0 [⟨some 3, .faddr 0 (.t 1), none, 0⟩, ⟨some 4, .load 1 false (.t 3), none, 0⟩, ⟨some 5, .callR (.c (.clo 81 [])) [.t 4, .c (.clo 82 [])] true, none, 0⟩, ⟨some 6, .build [.clip [], .int .u64 0, .int .u64 0] [(0, 1, .t 5)] [], none, 0⟩, ⟨none, .store 3 (.t 2) (.t 6), none, 0⟩] false []) .ret)), true⟩
theorem c46 : cFunc Tryd.prog G f46 Tryd.f46 = some f46 := by kernel_rfl
/-- junctionbox/junctionboxref05.Compare -/
def f47 : AFunc :=
⟨2, [.t 4], (.seq (.region 2 [⟨some 2, .box 58 18 (.t 0) [], none, 0⟩, ⟨some 3, .box 58 18 (.t 1) [], none, 1⟩, ⟨some 4, .mv (.c (.int .i64 0)), none, 0⟩] false []) (.seq (.region 1 [⟨some 9, .faddr 0 (.t 2), none, 0⟩, ⟨some 10, .faddr 0 (.t 9), none, 0⟩, ⟨some 11, .load 1 false (.t 10), none, 0⟩, ⟨some 12, .buildSl 3 1 [.int .i64 0] 1 [(0, .t 11)] true, none, 0⟩, ⟨some 5, .mv (.t 12), none, 0⟩] false []) (.seq (.region 1 [⟨some 13, .faddr 0 (.t 3), none, 0⟩, ⟨some 14, .faddr 0 (.t 13), none, 0⟩, ⟨some 15, .load 1 false (.t 14), none, 0⟩, ⟨some 16, .buildSl 3 1 [.int .i64 0] 1 [(0, .t 15)] true, none, 0⟩, ⟨some 6, .mv (.t 16), none, 0⟩] false []) (.seq (.seq (.region 0 [⟨some 7, .mv (.c (.int .i64 0)), none, 0⟩] false []) (.block 0 (.loop [2, 3, 5, 6, 7] (.seq (.seq (.region 0 [⟨some 17, .mv (.t 7), none, 0⟩, ⟨some 18, .bin .lss (.t 17) (.c (.int .i64 16)), none, 0⟩] false []) (.cond (.t 18) .skip (.exit 0))) (.seq (.block 1 (.seq (.region 2 [⟨some 21, .mv (.t 5), none, 0⟩, ⟨some 22, .mv (.t 7), none, 0⟩, ⟨some 23, .faddr 0 (.t 2), none, 0⟩, ⟨some 24, .faddr 1 (.t 23), none, 0⟩, ⟨some 25, .iaddr 1 (some 16) (.t 24) (.t 22), none, 0⟩, ⟨some 26, .load 1 false (.t 25), none, 0⟩, ⟨some 27, .conv .i64 (.t 26), none, 0⟩, ⟨some 28, .buildSl 3 1 [.int .i64 0] 1 [(0, .t 27)] true, none, 0⟩, ⟨some 29, .append 3 1 8 (.t 21) (.t 28), none, 1⟩, ⟨some 5, .mv (.t 29), none, 0⟩] false []) (.region 2 [⟨some 30, .mv (.t 6), none, 0⟩, ⟨some 31, .mv (.t 7), none, 0⟩, ⟨some 32, .faddr 0 (.t 3), none, 0⟩, ⟨some 33, .faddr 1 (.t 32), none, 0⟩, ⟨some 34, .iaddr 1 (some 16) (.t 33) (.t 31), none, 0⟩, ⟨some 35, .load 1 false (.t 34), none, 0⟩, ⟨some 36, .conv .i64 (.t 35), none, 0⟩, ⟨some 37, .buildSl 3 1 [.int .i64 0] 1 [(0, .t 36)] true, none, 0⟩, ⟨some 38, .append 3 1 8 (.t 30) (.t 37), none, 1⟩, ⟨some 6, .mv (.t 38), none, 0⟩] false []))) (.region 0 [⟨some 19, .mv (.t 7), none, 0⟩, ⟨some 20, .bin .add (.t 19) (.c (.int .i64 1)), none, 0⟩, ⟨some 7, .mv (.t 20), none, 0⟩] false [])))))) (.seq (.region 2 [⟨some 39, .mv (.t 5), none, 0⟩, ⟨some 40, .faddr 17 (.t 2), none, 0⟩, ⟨some 41, .load 1 false (.t 40), none, 0⟩, ⟨some 42, .buildSl 3 1 [.int .i64 0] 1 [(0, .t 41)] true, none, 0⟩, ⟨some 43, .append 3 1 8 (.t 39) (.t 42), none, 1⟩, ⟨some 5, .mv (.t 43), none, 0⟩] false []) (.seq (.region 2 [⟨some 44, .mv (.t 6), none, 0⟩, ⟨some 45, .faddr 17 (.t 3), none, 0⟩, ⟨some 46, .load 1 false (.t 45), none, 0⟩, ⟨some 47, .buildSl 3 1 [.int .i64 0] 1 [(0, .t 46)] true, none, 0⟩, ⟨some 48, .append 3 1 8 (.t 44) (.t 47), none, 1⟩, ⟨some 6, .mv (.t 48), none, 0⟩] false []) (.seq (.seq (.region 0 [⟨some 8, .mv (.c (.int .i64 0)), none, 0⟩] false []) (.block 2 (.loop [5, 6, 8] (.seq (.seq (.region 0 [⟨some 49, .mv (.t 8), none, 0⟩, ⟨some 50, .mv (.t 5), none, 0⟩, ⟨some 51, .len (.t 50), none, 0⟩, ⟨some 52, .bin .lss (.t 49) (.t 51), none, 0⟩] false []) (.cond (.t 52) .skip (.exit 2))) (.seq (.block 3 (.seq (.seq (.region 0 [⟨some 55, .mv (.t 5), none, 0⟩, ⟨some 56, .mv (.t 8), none, 0⟩, ⟨some 57, .iaddr 1 none (.t 55) (.t 56), none, 0⟩, ⟨some 58, .load 1 false (.t 57), none, 0⟩, ⟨some 59, .mv (.t 6), none, 0⟩, ⟨some 60, .mv (.t 8), none, 0⟩, ⟨some 61, .iaddr 1 none (.t 59) (.t 60), none, 0⟩, ⟨some 62, .load 1 false (.t 61), none, 0⟩, ⟨some 63, .bin .lss (.t 58) (.t 62), none, 0⟩] true []) (.cond (.t 63) (.seq (.region 0 [⟨some 4, .mv (.c (.int .i64 (-1))), none, 0⟩] false []) .ret) .skip)) (.seq (.region 0 [⟨some 64, .mv (.t 5), none, 0⟩, ⟨some 65, .mv (.t 8), none, 0⟩, ⟨some 66, .iaddr 1 none (.t 64) (.t 65), none, 0⟩, ⟨some 67, .load 1 false (.t 66), none, 0⟩, ⟨some 68, .mv (.t 6), none, 0⟩, ⟨some 69, .mv (.t 8), none, 0⟩, ⟨some 70, .iaddr 1 none (.t 68) (.t 69), none, 0⟩, ⟨some 71, .load 1 false (.t 70), none, 0⟩, ⟨some 72, .bin .gtr (.t 67) (.t 71), none, 0⟩] true []) (.cond (.t 72) (.seq (.region 0 [⟨some 4, .mv (.c (.int .i64 1)), none, 0⟩] false []) .ret) .skip)))) (.region 0 [⟨some 53, .mv (.t 8), none, 0⟩, ⟨some 54, .bin .add (.t 53) (.c (.int .i64 1)), none, 0⟩, ⟨some 8, .mv (.t 54), none, 0⟩] false [])))))) (.seq (.region 0 [⟨some 4, .mv (.c (.int .i64 0)), none, 0⟩] false []) .ret)))))))), false⟩
theorem c47 : cFunc Tryd.prog G f47 Tryd.f47 = some f47 := by kernel_rfl
/-- (junctionbox/tally.count).right -/
def f50 : AFunc :=
⟨1, [.t 2], (.seq (.region 1 [⟨some 1, .box 100 2 (.t 0) [], none, 0⟩, ⟨some 2, .mv (.c (.bool false)), none, 0⟩] false []) (.seq (.region 0 [⟨some 3, .faddr 0 (.t 1), none, 0⟩, ⟨some 4, .load 1 false (.t 3), none, 0⟩, ⟨some 5, .bin .leq (.t 4) (.c (.int .u64 4611686018427387904)), none, 0⟩, ⟨some 6, .mv (.t 5), none, 0⟩, ⟨some 7, .faddr 1 (.t 1), some (6, true), 0⟩, ⟨some 8, .load 1 false (.t 7), some (6, true), 0⟩, ⟨some 9, .bin .leq (.t 8) (.c (.int .u64 4611686018427387904)), some (6, true), 0⟩, ⟨some 10, .pick (.t 6) (.t 9) (.c (.bool false)), none, 0⟩, ⟨some 2, .mv (.t 10), none, 0⟩] false []) .ret)), false⟩
theorem c50 : cFunc Tryd.prog G f50 Tryd.f50 = some f50 := by kernel_rfl
/-- (junctionbox/tally.count).plus -/
def f51 : AFunc :=
⟨2, [.cell 4 2 true], (.seq (.region 3 [⟨some 2, .box 100 2 (.t 0) [], none, 0⟩, ⟨some 3, .box 100 2 (.t 1) [], none, 1⟩, ⟨some 4, .alloc 100 [.int .u64 0, .int .u64 0] [], none, 2⟩] false []) (.seq (.region 0 [⟨some 5, .faddr 0 (.t 2), none, 0⟩, ⟨some 6, .load 1 false (.t 5), none, 0⟩, ⟨some 7, .faddr 0 (.t 3), none, 0⟩, ⟨some 8, .load 1 false (.t 7), none, 0⟩, ⟨some 9, .bin .add (.t 6) (.t 8), none, 0⟩, ⟨some 10, .min (.t 9) [.c (.int .u64 4611686018427387904)], none, 0⟩, ⟨some 11, .faddr 1 (.t 2), none, 0⟩, ⟨some 12, .load 1 false (.t 11), none, 0⟩, ⟨some 13, .faddr 1 (.t 3), none, 0⟩, ⟨some 14, .load 1 false (.t 13), none, 0⟩, ⟨some 15, .bin .add (.t 12) (.t 14), none, 0⟩, ⟨some 16, .min (.t 15) [.c (.int .u64 4611686018427387904)], none, 0⟩, ⟨some 17, .build [.int .u64 0, .int .u64 0] [(0, 1, .t 10), (1, 1, .t 16)] [], none, 0⟩, ⟨none, .store 2 (.t 4) (.t 17), none, 0⟩] false []) .ret)), false⟩
theorem c51 : cFunc Tryd.prog G f51 Tryd.f51 = some f51 := by kernel_rfl
/-- junctionbox/junctionboxref31.sum -/
def f52 : AFunc :=
⟨2, [.t 4], (.seq (.region 0 [⟨some 4, .mv (.c (.int .u64 0)), none, 0⟩] false []) (.seq (.seq (.region 0 [⟨some 5, .mv (.t 0), none, 0⟩, ⟨some 6, .mv (.t 1), none, 0⟩, ⟨some 7, .bin .add (.t 5) (.t 6), none, 0⟩, ⟨some 8, .bin .gtr (.t 7) (.c (.int .u64 4611686018427387904)), none, 0⟩] false []) (.cond (.t 8) (.seq (.region 0 [⟨some 4, .mv (.c (.int .u64 4611686018427387904)), none, 0⟩] false []) .ret) .skip)) (.seq (.region 0 [⟨some 9, .mv (.t 0), none, 0⟩, ⟨some 10, .mv (.t 1), none, 0⟩, ⟨some 11, .bin .add (.t 9) (.t 10), none, 0⟩, ⟨some 4, .mv (.t 11), none, 0⟩] false []) .ret))), false⟩
theorem c52 : cFunc Tryd.prog G f52 Tryd.f52 = some f52 := by kernel_rfl
/-- junctionbox/prefix.Check -/
def f57 : AFunc :=
⟨1, [.t 2], (.seq (.region 1 [⟨some 1, .box 58 18 (.t 0) [], none, 0⟩, ⟨some 2, .mv (.c (.int .i64 0)), none, 0⟩] false []) (.seq (.seq (.region 0 [⟨some 3, .faddr 0 (.t 1), none, 0⟩, ⟨some 4, .load 17 true (.t 3), none, 0⟩, ⟨some 5, .callV 76 [.t 4] false, none, 0⟩, ⟨some 6, .bin .neq (.t 5) (.c (.int .i64 0)), none, 0⟩, ⟨some 7, .mv (.t 6), none, 0⟩, ⟨some 8, .faddr 17 (.t 1), some (7, false), 0⟩, ⟨some 9, .load 1 false (.t 8), some (7, false), 0⟩, ⟨some 10, .bin .lss (.t 9) (.c (.int .i64 0)), some (7, false), 0⟩, ⟨some 11, .pick (.t 7) (.c (.bool true)) (.t 10), none, 0⟩, ⟨some 12, .mv (.t 11), none, 0⟩, ⟨some 13, .faddr 17 (.t 1), some (12, false), 0⟩, ⟨some 14, .load 1 false (.t 13), some (12, false), 0⟩, ⟨some 15, .faddr 0 (.t 1), some (12, false), 0⟩, ⟨some 16, .faddr 0 (.t 15), some (12, false), 0⟩, ⟨some 17, .load 1 false (.t 16), some (12, false), 0⟩, ⟨some 18, .callV 85 [.t 17] false, some (12, false), 0⟩, ⟨some 19, .bin .gtr (.t 14) (.t 18), some (12, false), 0⟩, ⟨some 20, .pick (.t 12) (.c (.bool true)) (.t 19), none, 0⟩, ⟨some 21, .mv (.t 20), none, 0⟩, ⟨some 22, .faddr 0 (.t 1), some (21, false), 0⟩, ⟨some 23, .faddr 1 (.t 22), some (21, false), 0⟩, ⟨some 24, .load 16 true (.t 23), some (21, false), 0⟩, ⟨some 25, .faddr 17 (.t 1), some (21, false), 0⟩, ⟨some 26, .load 1 false (.t 25), some (21, false), 0⟩, ⟨some 27, .callV 86 [.t 24, .t 26] false, some (21, false), 0⟩, ⟨some 28, .not (.t 27), some (21, false), 0⟩, ⟨some 29, .pick (.t 21) (.c (.bool true)) (.t 28), none, 0⟩] true []) (.cond (.t 29) (.seq (.region 0 [⟨some 2, .mv (.c (.int .i64 151)), none, 0⟩] false []) .ret) .skip)) (.seq (.region 0 [⟨some 2, .mv (.c (.int .i64 0)), none, 0⟩] false []) .ret))), false⟩
theorem c57 : cFunc Tryd.prog G f57 Tryd.f57 = some f57 := by kernel_rfl
/-- junctionbox/table.hop -/
def f58 : AFunc :=
⟨1, [.t 2], (.seq (.region 0 [⟨some 2, .mv (.c (.bool false)), none, 0⟩] false []) (.seq (.region 0 [⟨some 3, .mv (.t 0), none, 0⟩, ⟨some 4, .bin .geq (.t 3) (.c (.int .i64 1)), none, 0⟩, ⟨some 5, .mv (.t 4), none, 0⟩, ⟨some 6, .mv (.t 0), some (5, true), 0⟩, ⟨some 7, .bin .leq (.t 6) (.c (.int .i64 255)), some (5, true), 0⟩, ⟨some 8, .pick (.t 5) (.t 7) (.c (.bool false)), none, 0⟩, ⟨some 2, .mv (.t 8), none, 0⟩] false []) .ret)), false⟩
theorem c58 : cFunc Tryd.prog G f58 Tryd.f58 = some f58 := by kernel_rfl
/-- (junctionbox/table.row).against -/
def f59 : AFunc :=
⟨2, [.t 4], (.seq (.region 2 [⟨some 2, .box 108 19 (.t 0) [], none, 0⟩, ⟨some 3, .box 58 18 (.t 1) [], none, 1⟩, ⟨some 4, .mv (.c (.int .i64 0)), none, 0⟩] false []) (.seq (.region 0 [⟨some 5, .faddr 0 (.t 2), none, 0⟩, ⟨some 6, .load 18 true (.t 5), none, 0⟩, ⟨some 7, .load 18 true (.t 3), none, 0⟩, ⟨some 8, .callV 66 [.t 6, .t 7] false, none, 0⟩, ⟨some 4, .mv (.t 8), none, 0⟩] false []) .ret)), false⟩
theorem c59 : cFunc Tryd.prog G f59 Tryd.f59 = some f59 := by kernel_rfl
/-- slices.Equal[[]junctionbox/api.Counted,junctionbox/api.Counted] -/
def f60 : AFunc :=
⟨2, [.t 4], (.seq (.region 0 [⟨some 4, .mv (.c (.bool false)), none, 0⟩] false []) (.seq (.seq (.region 0 [⟨some 6, .mv (.t 0), none, 0⟩, ⟨some 7, .len (.t 6), none, 0⟩, ⟨some 8, .mv (.t 1), none, 0⟩, ⟨some 9, .len (.t 8), none, 0⟩, ⟨some 10, .bin .neq (.t 7) (.t 9), none, 0⟩] false []) (.cond (.t 10) (.seq (.region 0 [⟨some 4, .mv (.c (.bool false)), none, 0⟩] false []) .ret) .skip)) (.seq (.seq (.region 0 [⟨some 11, .mv (.t 0), none, 0⟩, ⟨some 12, .len (.t 11), none, 0⟩, ⟨some 13, .mv (.c (.int .i64 0)), none, 0⟩] false []) (.block 0 (.loop [0, 1, 12, 13] (.seq (.region 0 [⟨some 14, .bin .lss (.t 13) (.t 12), none, 0⟩] false []) (.seq (.cond (.t 14) .skip (.exit 0)) (.seq (.block 1 (.seq (.region 0 [⟨some 15, .mv (.t 13), none, 0⟩, ⟨some 5, .mv (.t 15), none, 0⟩] false []) (.seq (.region 0 [⟨some 16, .mv (.t 0), none, 0⟩, ⟨some 17, .mv (.t 5), none, 0⟩, ⟨some 18, .iaddr 20 none (.t 16) (.t 17), none, 0⟩, ⟨some 19, .load 20 true (.t 18), none, 0⟩, ⟨some 20, .mv (.t 1), none, 0⟩, ⟨some 21, .mv (.t 5), none, 0⟩, ⟨some 22, .iaddr 20 none (.t 20) (.t 21), none, 0⟩, ⟨some 23, .load 20 true (.t 22), none, 0⟩, ⟨some 24, .eqagg true [1, 1, 1, 1, 1, 1, 1, 1, 1, 1, 1, 1, 1, 1, 1, 1, 1, 1, 1, 1] (.t 19) (.t 23), none, 0⟩] true []) (.cond (.t 24) (.seq (.region 0 [⟨some 4, .mv (.c (.bool false)), none, 0⟩] false []) .ret) .skip)))) (.region 0 [⟨some 25, .bin .add (.t 13) (.c (.int .i64 1)), none, 0⟩, ⟨some 13, .mv (.t 25), none, 0⟩] false []))))))) (.seq (.region 0 [⟨some 4, .mv (.c (.bool true)), none, 0⟩] false []) .ret)))), false⟩
theorem c60 : cFunc Tryd.prog G f60 Tryd.f60 = some f60 := by kernel_rfl
/-- junctionbox/tally.all -/
def f65 : AFunc :=
⟨1, [.t 2], (.seq (.region 1 [⟨some 1, .box 27 3 (.t 0) [], none, 0⟩, ⟨some 2, .mv (.c (.nilf)), none, 0⟩] false []) (.seq (.region 0 [⟨some 3, .clo 91 [.t 1], none, 0⟩, ⟨some 2, .mv (.t 3), none, 0⟩] false []) .ret)), false⟩
theorem c65 : cFunc Tryd.prog G f65 Tryd.f65 = some f65 := by kernel_rfl
/-- junctionbox/prefix.Compare -/
def f66 : AFunc :=
⟨2, [.t 4], (.seq (.region 2 [⟨some 2, .box 58 18 (.t 0) [], none, 0⟩, ⟨some 3, .box 58 18 (.t 1) [], none, 1⟩, ⟨some 4, .mv (.c (.int .i64 0)), none, 0⟩] false []) (.seq (.region 1 [⟨some 5, .faddr 0 (.t 2), none, 0⟩, ⟨some 6, .faddr 0 (.t 5), none, 0⟩, ⟨some 7, .load 1 false (.t 6), none, 0⟩, ⟨some 8, .faddr 0 (.t 3), none, 0⟩, ⟨some 9, .faddr 0 (.t 8), none, 0⟩, ⟨some 10, .load 1 false (.t 9), none, 0⟩, ⟨some 11, .callV 92 [.t 7, .t 10] false, none, 0⟩, ⟨some 12, .faddr 0 (.t 2), none, 0⟩, ⟨some 13, .faddr 1 (.t 12), none, 0⟩, ⟨some 14, .slarr 1 16 (.t 13) none none, none, 0⟩, ⟨some 15, .faddr 0 (.t 3), none, 0⟩, ⟨some 16, .faddr 1 (.t 15), none, 0⟩, ⟨some 17, .slarr 1 16 (.t 16) none none, none, 0⟩, ⟨some 18, .callV 93 [.t 14, .t 17] false, none, 0⟩, ⟨some 19, .faddr 17 (.t 2), none, 0⟩, ⟨some 20, .load 1 false (.t 19), none, 0⟩, ⟨some 21, .faddr 17 (.t 3), none, 0⟩, ⟨some 22, .load 1 false (.t 21), none, 0⟩, ⟨some 23, .callV 92 [.t 20, .t 22] false, none, 0⟩, ⟨some 24, .buildSl 3 1 [.int .i64 0] 3 [(0, .t 11), (1, .t 18), (2, .t 23)] false, none, 0⟩, ⟨some 25, .callV 69 [.t 24] false, none, 0⟩, ⟨some 4, .mv (.t 25), none, 0⟩] true []) .ret)), false⟩
theorem c66 : cFunc Tryd.prog G f66 Tryd.f66 = some f66 := by kernel_rfl
/-- junctionbox/tally.Top$1 -/
def f68 : AFunc :=
⟨2, [.t 4], (.seq (.region 2 [⟨some 2, .box 60 20 (.t 0) [], none, 0⟩, ⟨some 3, .box 60 20 (.t 1) [], none, 1⟩, ⟨some 4, .mv (.c (.int .i64 0)), none, 0⟩] false []) (.seq (.region 1 [⟨some 5, .faddr 18 (.t 3), none, 0⟩, ⟨some 6, .faddr 1 (.t 5), none, 0⟩, ⟨some 7, .load 1 false (.t 6), none, 0⟩, ⟨some 8, .faddr 18 (.t 2), none, 0⟩, ⟨some 9, .faddr 1 (.t 8), none, 0⟩, ⟨some 10, .load 1 false (.t 9), none, 0⟩, ⟨some 11, .callV 70 [.t 7, .t 10] false, none, 0⟩, ⟨some 12, .faddr 18 (.t 3), none, 0⟩, ⟨some 13, .faddr 0 (.t 12), none, 0⟩, ⟨some 14, .load 1 false (.t 13), none, 0⟩, ⟨some 15, .faddr 18 (.t 2), none, 0⟩, ⟨some 16, .faddr 0 (.t 15), none, 0⟩, ⟨some 17, .load 1 false (.t 16), none, 0⟩, ⟨some 18, .callV 70 [.t 14, .t 17] false, none, 0⟩, ⟨some 19, .faddr 0 (.t 2), none, 0⟩, ⟨some 20, .load 18 true (.t 19), none, 0⟩, ⟨some 21, .faddr 0 (.t 3), none, 0⟩, ⟨some 22, .load 18 true (.t 21), none, 0⟩, ⟨some 23, .callV 66 [.t 20, .t 22] false, none, 0⟩, ⟨some 24, .buildSl 3 1 [.int .i64 0] 3 [(0, .t 11), (1, .t 18), (2, .t 23)] false, none, 0⟩, ⟨some 25, .callV 69 [.t 24] false, none, 0⟩, ⟨some 4, .mv (.t 25), none, 0⟩] true []) .ret)), false⟩
theorem c68 : cFunc Tryd.prog G f68 Tryd.f68 = some f68 := by kernel_rfl
/-- cmp.Or[int] -/
def f69 : AFunc :=
⟨1, [.t 2], (.seq (.region 0 [⟨some 2, .mv (.c (.int .i64 0)), none, 0⟩] false []) (.seq (.region 0 [⟨some 3, .mv (.c (.int .i64 0)), none, 0⟩] false []) (.seq (.seq (.region 0 [⟨some 6, .mv (.t 0), none, 0⟩, ⟨some 7, .len (.t 6), none, 0⟩, ⟨some 8, .mv (.c (.int .i64 0)), none, 0⟩] false []) (.block 0 (.loop [3, 6, 7, 8] (.seq (.region 0 [⟨some 9, .bin .lss (.t 8) (.t 7), none, 0⟩] false []) (.seq (.cond (.t 9) .skip (.exit 0)) (.seq (.block 1 (.seq (.region 0 [⟨some 10, .iaddr 1 none (.t 6) (.t 8), none, 0⟩, ⟨some 11, .load 1 false (.t 10), none, 0⟩, ⟨some 5, .mv (.t 11), none, 0⟩] false []) (.seq (.region 0 [⟨some 12, .mv (.t 5), none, 0⟩, ⟨some 13, .mv (.t 3), none, 0⟩, ⟨some 14, .bin .neq (.t 12) (.t 13), none, 0⟩] false []) (.cond (.t 14) (.seq (.region 0 [⟨some 15, .mv (.t 5), none, 0⟩, ⟨some 2, .mv (.t 15), none, 0⟩] false []) .ret) .skip)))) (.region 0 [⟨some 16, .bin .add (.t 8) (.c (.int .i64 1)), none, 0⟩, ⟨some 8, .mv (.t 16), none, 0⟩] false []))))))) (.seq (.region 0 [⟨some 17, .mv (.t 3), none, 0⟩, ⟨some 2, .mv (.t 17), none, 0⟩] false []) .ret)))), false⟩
theorem c69 : cFunc Tryd.prog G f69 Tryd.f69 = some f69 := by kernel_rfl
/-- cmp.Compare[uint64] -/
def f70 : AFunc :=
⟨2, [.t 4], (.seq (.region 0 [⟨some 4, .mv (.c (.int .i64 0)), none, 0⟩] false []) (.seq (.region 0 [⟨some 7, .mv (.t 0), none, 0⟩, ⟨some 8, .callV 96 [.t 7] false, none, 0⟩, ⟨some 5, .mv (.t 8), none, 0⟩] false []) (.seq (.region 0 [⟨some 9, .mv (.t 1), none, 0⟩, ⟨some 10, .callV 96 [.t 9] false, none, 0⟩, ⟨some 6, .mv (.t 10), none, 0⟩] false []) (.seq (.seq (.region 0 [⟨some 11, .mv (.t 5), none, 0⟩] false []) (.cond (.t 11) (.seq (.seq (.region 0 [⟨some 12, .mv (.t 6), none, 0⟩] false []) (.cond (.t 12) (.seq (.region 0 [⟨some 4, .mv (.c (.int .i64 0)), none, 0⟩] false []) .ret) .skip)) (.seq (.region 0 [⟨some 4, .mv (.c (.int .i64 (-1))), none, 0⟩] false []) .ret)) .skip)) (.seq (.seq (.region 0 [⟨some 13, .mv (.t 6), none, 0⟩] false []) (.cond (.t 13) (.seq (.region 0 [⟨some 4, .mv (.c (.int .i64 1)), none, 0⟩] false []) .ret) .skip)) (.seq (.seq (.region 0 [⟨some 14, .mv (.t 0), none, 0⟩, ⟨some 15, .mv (.t 1), none, 0⟩, ⟨some 16, .bin .lss (.t 14) (.t 15), none, 0⟩] false []) (.cond (.t 16) (.seq (.region 0 [⟨some 4, .mv (.c (.int .i64 (-1))), none, 0⟩] false []) .ret) .skip)) (.seq (.seq (.region 0 [⟨some 17, .mv (.t 0), none, 0⟩, ⟨some 18, .mv (.t 1), none, 0⟩, ⟨some 19, .bin .gtr (.t 17) (.t 18), none, 0⟩] false []) (.cond (.t 19) (.seq (.region 0 [⟨some 4, .mv (.c (.int .i64 1)), none, 0⟩] false []) .ret) .skip)) (.seq (.region 0 [⟨some 4, .mv (.c (.int .i64 0)), none, 0⟩] false []) .ret)))))))), false⟩
theorem c70 : cFunc Tryd.prog G f70 Tryd.f70 = some f70 := by kernel_rfl
/-- junctionbox/prefix.Holds -/
def f71 : AFunc :=
⟨2, [.t 4], (.seq (.region 2 [⟨some 2, .box 58 18 (.t 0) [], none, 0⟩, ⟨some 3, .box 58 18 (.t 1) [], none, 1⟩, ⟨some 4, .mv (.c (.bool false)), none, 0⟩] false []) (.seq (.region 0 [⟨some 5, .load 18 true (.t 3), none, 0⟩, ⟨some 6, .callV 57 [.t 5] false, none, 0⟩, ⟨some 7, .bin .eql (.t 6) (.c (.int .i64 0)), none, 0⟩, ⟨some 8, .mv (.t 7), none, 0⟩, ⟨some 9, .faddr 17 (.t 3), some (8, true), 0⟩, ⟨some 10, .load 1 false (.t 9), some (8, true), 0⟩, ⟨some 11, .faddr 17 (.t 2), some (8, true), 0⟩, ⟨some 12, .load 1 false (.t 11), some (8, true), 0⟩, ⟨some 13, .bin .geq (.t 10) (.t 12), some (8, true), 0⟩, ⟨some 14, .pick (.t 8) (.t 13) (.c (.bool false)), none, 0⟩, ⟨some 15, .mv (.t 14), none, 0⟩, ⟨some 16, .load 18 true (.t 2), some (15, true), 0⟩, ⟨some 17, .faddr 0 (.t 3), some (15, true), 0⟩, ⟨some 18, .load 17 true (.t 17), some (15, true), 0⟩, ⟨some 19, .callV 77 [.t 16, .t 18] false, some (15, true), 0⟩, ⟨some 20, .pick (.t 15) (.t 19) (.c (.bool false)), none, 0⟩, ⟨some 4, .mv (.t 20), none, 0⟩] false []) .ret)), false⟩
theorem c71 : cFunc Tryd.prog G f71 Tryd.f71 = some f71 := by kernel_rfl
/-- junctionbox/junctionboxref05.Width -/
def f72 : AFunc :=
⟨1, [.t 2], (.seq (.region 0 [⟨some 2, .mv (.c (.int .i64 0)), none, 0⟩] false []) (.seq (.seq (.region 0 [⟨some 3, .mv (.t 0), none, 0⟩, ⟨some 4, .bin .eql (.t 3) (.c (.int .i64 4)), none, 0⟩] false []) (.cond (.t 4) (.seq (.region 0 [⟨some 2, .mv (.c (.int .i64 32)), none, 0⟩] false []) .ret) .skip)) (.seq (.seq (.region 0 [⟨some 5, .mv (.t 0), none, 0⟩, ⟨some 6, .bin .eql (.t 5) (.c (.int .i64 6)), none, 0⟩] false []) (.cond (.t 6) (.seq (.region 0 [⟨some 2, .mv (.c (.int .i64 128)), none, 0⟩] false []) .ret) .skip)) (.seq (.region 0 [⟨some 2, .mv (.c (.int .i64 0)), none, 0⟩] false []) .ret)))), false⟩
theorem c72 : cFunc Tryd.prog G f72 Tryd.f72 = some f72 := by kernel_rfl
/-- junctionbox/junctionboxref05.at -/
def f73 : AFunc :=
⟨2, [.t 4], (.seq (.region 1 [⟨some 2, .box 31 16 (.t 0) [], none, 0⟩, ⟨some 4, .mv (.c (.int .i64 0)), none, 0⟩] false []) (.seq (.region 0 [⟨some 5, .mv (.t 1), none, 0⟩, ⟨some 6, .bin .quo (.t 5) (.c (.int .i64 8)), none, 0⟩, ⟨some 7, .iaddr 1 (some 16) (.t 2) (.t 6), none, 0⟩, ⟨some 8, .load 1 false (.t 7), none, 0⟩, ⟨some 9, .conv .i64 (.t 8), none, 0⟩, ⟨some 10, .mv (.t 1), none, 0⟩, ⟨some 11, .bin .rem (.t 10) (.c (.int .i64 8)), none, 0⟩, ⟨some 12, .bin .sub (.c (.int .i64 7)) (.t 11), none, 0⟩, ⟨some 13, .conv .u64 (.t 12), none, 0⟩, ⟨some 14, .bin .shr (.t 9) (.t 13), none, 0⟩, ⟨some 15, .bin .rem (.t 14) (.c (.int .i64 2)), none, 0⟩, ⟨some 4, .mv (.t 15), none, 0⟩] false []) .ret)), false⟩
theorem c73 : cFunc Tryd.prog G f73 Tryd.f73 = some f73 := by kernel_rfl
/-- junctionbox/junctionboxref31.ahead -/
def f74 : AFunc :=
⟨2, [.t 4], (.seq (.region 2 [⟨some 2, .box 60 20 (.t 0) [], none, 0⟩, ⟨some 3, .box 60 20 (.t 1) [], none, 1⟩, ⟨some 4, .mv (.c (.bool false)), none, 0⟩] false []) (.seq (.seq (.region 0 [⟨some 5, .faddr 18 (.t 2), none, 0⟩, ⟨some 6, .faddr 1 (.t 5), none, 0⟩, ⟨some 7, .load 1 false (.t 6), none, 0⟩, ⟨some 8, .faddr 18 (.t 3), none, 0⟩, ⟨some 9, .faddr 1 (.t 8), none, 0⟩, ⟨some 10, .load 1 false (.t 9), none, 0⟩, ⟨some 11, .bin .neq (.t 7) (.t 10), none, 0⟩] false []) (.cond (.t 11) (.seq (.region 0 [⟨some 12, .faddr 18 (.t 2), none, 0⟩, ⟨some 13, .faddr 1 (.t 12), none, 0⟩, ⟨some 14, .load 1 false (.t 13), none, 0⟩, ⟨some 15, .faddr 18 (.t 3), none, 0⟩, ⟨some 16, .faddr 1 (.t 15), none, 0⟩, ⟨some 17, .load 1 false (.t 16), none, 0⟩, ⟨some 18, .bin .gtr (.t 14) (.t 17), none, 0⟩, ⟨some 4, .mv (.t 18), none, 0⟩] false []) .ret) .skip)) (.seq (.seq (.region 0 [⟨some 19, .faddr 18 (.t 2), none, 0⟩, ⟨some 20, .faddr 0 (.t 19), none, 0⟩, ⟨some 21, .load 1 false (.t 20), none, 0⟩, ⟨some 22, .faddr 18 (.t 3), none, 0⟩, ⟨some 23, .faddr 0 (.t 22), none, 0⟩, ⟨some 24, .load 1 false (.t 23), none, 0⟩, ⟨some 25, .bin .neq (.t 21) (.t 24), none, 0⟩] false []) (.cond (.t 25) (.seq (.region 0 [⟨some 26, .faddr 18 (.t 2), none, 0⟩, ⟨some 27, .faddr 0 (.t 26), none, 0⟩, ⟨some 28, .load 1 false (.t 27), none, 0⟩, ⟨some 29, .faddr 18 (.t 3), none, 0⟩, ⟨some 30, .faddr 0 (.t 29), none, 0⟩, ⟨some 31, .load 1 false (.t 30), none, 0⟩, ⟨some 32, .bin .gtr (.t 28) (.t 31), none, 0⟩, ⟨some 4, .mv (.t 32), none, 0⟩] false []) .ret) .skip)) (.seq (.region 0 [⟨some 33, .faddr 0 (.t 2), none, 0⟩, ⟨some 34, .load 18 true (.t 33), none, 0⟩, ⟨some 35, .faddr 0 (.t 3), none, 0⟩, ⟨some 36, .load 18 true (.t 35), none, 0⟩, ⟨some 37, .callV 47 [.t 34, .t 36] false, none, 0⟩, ⟨some 38, .bin .lss (.t 37) (.c (.int .i64 0)), none, 0⟩, ⟨some 4, .mv (.t 38), none, 0⟩] false []) .ret)))), false⟩
theorem c74 : cFunc Tryd.prog G f74 Tryd.f74 = some f74 := by kernel_rfl
/-- junctionbox/tally.of -/
def f75 : AFunc :=
⟨2, [.t 4], (.seq (.region 2 [⟨some 2, .box 27 3 (.t 0) [], none, 0⟩, ⟨some 3, .box 30 1 (.t 1) [], none, 1⟩, ⟨some 4, .mv (.c (.bool false)), none, 0⟩] false []) (.seq (.region 0 [⟨some 5, .faddr 0 (.t 2), none, 0⟩, ⟨some 6, .load 1 false (.t 5), none, 0⟩, ⟨some 7, .faddr 0 (.t 3), none, 0⟩, ⟨some 8, .load 1 false (.t 7), none, 0⟩, ⟨some 9, .callR (.c (.clo 97 [])) [.t 6, .t 8, .c (.clo 98 [])] false, none, 0⟩, ⟨some 4, .mv (.t 9), none, 0⟩] false []) .ret)), false⟩
theorem c75 : cFunc Tryd.prog G f75 Tryd.f75 = some f75 := by kernel_rfl
/-- junctionbox/prefix.CheckAddr -/
def f76 : AFunc :=
⟨1, [.t 2], (.seq (.region 1 [⟨some 1, .box 33 17 (.t 0) [], none, 0⟩, ⟨some 2, .mv (.c (.int .i64 0)), none, 0⟩] false []) (.seq (.seq (.region 0 [⟨some 4, .faddr 0 (.t 1), none, 0⟩, ⟨some 5, .load 1 false (.t 4), none, 0⟩, ⟨some 6, .callV 85 [.t 5] false, none, 0⟩, ⟨some 3, .mv (.t 6), none, 0⟩] false []) (.seq (.region 0 [⟨some 7, .mv (.t 3), none, 0⟩, ⟨some 8, .bin .eql (.t 7) (.c (.int .i64 0)), none, 0⟩, ⟨some 9, .mv (.t 8), none, 0⟩, ⟨some 10, .faddr 1 (.t 1), some (9, false), 0⟩, ⟨some 11, .load 16 true (.t 10), some (9, false), 0⟩, ⟨some 12, .mv (.t 3), some (9, false), 0⟩, ⟨some 13, .callV 86 [.t 11, .t 12] false, some (9, false), 0⟩, ⟨some 14, .not (.t 13), some (9, false), 0⟩, ⟨some 15, .pick (.t 9) (.c (.bool true)) (.t 14), none, 0⟩] false []) (.cond (.t 15) (.seq (.region 0 [⟨some 2, .mv (.c (.int .i64 150)), none, 0⟩] false []) .ret) .skip))) (.seq (.region 0 [⟨some 2, .mv (.c (.int .i64 0)), none, 0⟩] false []) .ret))), false⟩
theorem c76 : cFunc Tryd.prog G f76 Tryd.f76 = some f76 := by kernel_rfl
end Go.Proofs.YtdllnneeopbmdaaDoor.F

/- Functions in the evaluator's form, 3. No condition. -/
namespace Go.Proofs.YtdllnneeopbmdaaDoor.F
open Go Go.Proofs.YtdllnneeopbmdaaDoor.A
/-- junctionbox/prefix.Has -/
def f77 : AFunc :=
⟨2, [.t 4], (.seq (.region 2 [⟨some 2, .box 58 18 (.t 0) [], none, 0⟩, ⟨some 3, .box 33 17 (.t 1) [], none, 1⟩, ⟨some 4, .mv (.c (.bool false)), none, 0⟩] false []) (.seq (.seq (.region 0 [⟨some 5, .load 18 true (.t 2), none, 0⟩, ⟨some 6, .callV 57 [.t 5] false, none, 0⟩, ⟨some 7, .bin .neq (.t 6) (.c (.int .i64 0)), none, 0⟩, ⟨some 8, .mv (.t 7), none, 0⟩, ⟨some 9, .load 17 true (.t 3), some (8, false), 0⟩, ⟨some 10, .callV 76 [.t 9] false, some (8, false), 0⟩, ⟨some 11, .bin .neq (.t 10) (.c (.int .i64 0)), some (8, false), 0⟩, ⟨some 12, .pick (.t 8) (.c (.bool true)) (.t 11), none, 0⟩, ⟨some 13, .mv (.t 12), none, 0⟩, ⟨some 14, .faddr 0 (.t 2), some (13, false), 0⟩, ⟨some 15, .faddr 0 (.t 14), some (13, false), 0⟩, ⟨some 16, .load 1 false (.t 15), some (13, false), 0⟩, ⟨some 17, .faddr 0 (.t 3), some (13, false), 0⟩, ⟨some 18, .load 1 false (.t 17), some (13, false), 0⟩, ⟨some 19, .bin .neq (.t 16) (.t 18), some (13, false), 0⟩, ⟨some 20, .pick (.t 13) (.c (.bool true)) (.t 19), none, 0⟩] false []) (.cond (.t 20) (.seq (.region 0 [⟨some 4, .mv (.c (.bool false)), none, 0⟩] false []) .ret) .skip)) (.seq (.region 0 [⟨some 21, .faddr 1 (.t 3), none, 0⟩, ⟨some 22, .load 16 true (.t 21), none, 0⟩, ⟨some 23, .faddr 17 (.t 2), none, 0⟩, ⟨some 24, .load 1 false (.t 23), none, 0⟩, ⟨some 25, .callV 99 [.t 22, .t 24] false, none, 0⟩, ⟨some 26, .faddr 0 (.t 2), none, 0⟩, ⟨some 27, .faddr 1 (.t 26), none, 0⟩, ⟨some 28, .load 16 true (.t 27), none, 0⟩, ⟨some 29, .eqagg false [1, 1, 1, 1, 1, 1, 1, 1, 1, 1, 1, 1, 1, 1, 1, 1] (.t 25) (.t 28), none, 0⟩, ⟨some 4, .mv (.t 29), none, 0⟩] true []) .ret))), false⟩
theorem c77 : cFunc Tryd.prog G f77 Tryd.f77 = some f77 := by kernel_rfl
/-- slices.BinarySearchFunc[[]junctionbox/api.Counted,junctionbox/api.Counted,junctionbox/api.Prefix] -/
def f78 : AFunc :=
⟨3, [.t 6, .t 7], (.seq (.region 1 [⟨some 4, .box 58 18 (.t 1) [], none, 0⟩, ⟨some 6, .mv (.c (.int .i64 0)), none, 0⟩, ⟨some 7, .mv (.c (.bool false)), none, 0⟩] false []) (.seq (.region 0 [⟨some 12, .mv (.t 0), none, 0⟩, ⟨some 13, .len (.t 12), none, 0⟩, ⟨some 8, .mv (.t 13), none, 0⟩] false []) (.seq (.region 0 [⟨some 14, .mv (.t 8), none, 0⟩, ⟨some 9, .mv (.c (.int .i64 0)), none, 0⟩, ⟨some 10, .mv (.t 14), none, 0⟩] false []) (.seq (.block 0 (.loop [0, 2, 4, 8, 9, 10] (.seq (.seq (.region 0 [⟨some 15, .mv (.t 9), none, 0⟩, ⟨some 16, .mv (.t 10), none, 0⟩, ⟨some 17, .bin .lss (.t 15) (.t 16), none, 0⟩] false []) (.cond (.t 17) .skip (.exit 0))) (.block 1 (.seq (.region 0 [⟨some 18, .mv (.t 9), none, 0⟩, ⟨some 19, .mv (.t 10), none, 0⟩, ⟨some 20, .bin .add (.t 18) (.t 19), none, 0⟩, ⟨some 21, .conv .u64 (.t 20), none, 0⟩, ⟨some 22, .bin .shr (.t 21) (.c (.int .u64 1)), none, 0⟩, ⟨some 23, .conv .i64 (.t 22), none, 0⟩, ⟨some 11, .mv (.t 23), none, 0⟩] false []) (.seq (.region 0 [⟨some 24, .mv (.t 2), none, 0⟩, ⟨some 25, .mv (.t 0), none, 0⟩, ⟨some 26, .mv (.t 11), none, 0⟩, ⟨some 27, .iaddr 20 none (.t 25) (.t 26), none, 0⟩, ⟨some 28, .load 20 true (.t 27), none, 0⟩, ⟨some 29, .load 18 true (.t 4), none, 0⟩, ⟨some 30, .callR (.t 24) [.t 28, .t 29] false, none, 0⟩, ⟨some 31, .bin .lss (.t 30) (.c (.int .i64 0)), none, 0⟩] true []) (.cond (.t 31) (.region 0 [⟨some 32, .mv (.t 11), none, 0⟩, ⟨some 33, .bin .add (.t 32) (.c (.int .i64 1)), none, 0⟩, ⟨some 9, .mv (.t 33), none, 0⟩] false []) (.region 0 [⟨some 34, .mv (.t 11), none, 0⟩, ⟨some 10, .mv (.t 34), none, 0⟩] false [])))))))) (.seq (.region 0 [⟨some 35, .mv (.t 9), none, 0⟩, ⟨some 36, .mv (.t 9), none, 0⟩, ⟨some 37, .mv (.t 8), none, 0⟩, ⟨some 38, .bin .lss (.t 36) (.t 37), none, 0⟩, ⟨some 39, .mv (.t 38), none, 0⟩, ⟨some 40, .mv (.t 2), some (39, true), 0⟩, ⟨some 41, .mv (.t 0), some (39, true), 0⟩, ⟨some 42, .mv (.t 9), some (39, true), 0⟩, ⟨some 43, .iaddr 20 none (.t 41) (.t 42), some (39, true), 0⟩, ⟨some 44, .load 20 true (.t 43), some (39, true), 0⟩, ⟨some 45, .load 18 true (.t 4), some (39, true), 0⟩, ⟨some 46, .callR (.t 40) [.t 44, .t 45] false, some (39, true), 0⟩, ⟨some 47, .bin .eql (.t 46) (.c (.int .i64 0)), some (39, true), 0⟩, ⟨some 48, .pick (.t 39) (.t 47) (.c (.bool false)), none, 0⟩, ⟨some 6, .mv (.t 35), none, 0⟩, ⟨some 7, .mv (.t 48), none, 0⟩] true []) .ret))))), false⟩
theorem c78 : cFunc Tryd.prog G f78 Tryd.f78 = some f78 := by kernel_rfl
/-- junctionbox/tally.give$1 -/
def f79 : AFunc :=
⟨2, [.t 4], (.seq (.region 2 [⟨some 2, .box 60 20 (.t 0) [], none, 0⟩, ⟨some 3, .box 58 18 (.t 1) [], none, 1⟩, ⟨some 4, .mv (.c (.int .i64 0)), none, 0⟩] false []) (.seq (.region 0 [⟨some 5, .faddr 0 (.t 2), none, 0⟩, ⟨some 6, .load 18 true (.t 5), none, 0⟩, ⟨some 7, .load 18 true (.t 3), none, 0⟩, ⟨some 8, .callV 66 [.t 6, .t 7] false, none, 0⟩, ⟨some 4, .mv (.t 8), none, 0⟩] false []) .ret)), false⟩
theorem c79 : cFunc Tryd.prog G f79 Tryd.f79 = some f79 := by kernel_rfl
/-- junctionbox/junctionboxref31.Of -/
def f80 : AFunc :=
⟨2, [.t 4], (.seq (.region 2 [⟨some 2, .box 27 3 (.t 0) [], none, 0⟩, ⟨some 3, .box 30 1 (.t 1) [], none, 1⟩, ⟨some 4, .mv (.c (.bool false)), none, 0⟩] false []) (.seq (.seq (.region 0 [⟨some 6, .faddr 0 (.t 2), none, 0⟩, ⟨some 7, .load 1 false (.t 6), none, 0⟩, ⟨some 8, .len (.t 7), none, 0⟩, ⟨some 9, .faddr 0 (.t 3), none, 0⟩, ⟨some 10, .load 1 false (.t 9), none, 0⟩, ⟨some 11, .len (.t 10), none, 0⟩, ⟨some 12, .bin .neq (.t 8) (.t 11), none, 0⟩] false []) (.cond (.t 12) (.seq (.region 0 [⟨some 4, .mv (.c (.bool false)), none, 0⟩] false []) .ret) .skip)) (.seq (.seq (.region 0 [⟨some 5, .mv (.c (.int .i64 0)), none, 0⟩] false []) (.block 0 (.loop [2, 3, 5] (.seq (.seq (.region 0 [⟨some 13, .mv (.t 5), none, 0⟩, ⟨some 14, .faddr 0 (.t 2), none, 0⟩, ⟨some 15, .load 1 false (.t 14), none, 0⟩, ⟨some 16, .len (.t 15), none, 0⟩, ⟨some 17, .bin .lss (.t 13) (.t 16), none, 0⟩] false []) (.cond (.t 17) .skip (.exit 0))) (.seq (.block 1 (.seq (.region 0 [⟨some 20, .faddr 0 (.t 2), none, 0⟩, ⟨some 21, .load 1 false (.t 20), none, 0⟩, ⟨some 22, .mv (.t 5), none, 0⟩, ⟨some 23, .iaddr 20 none (.t 21) (.t 22), none, 0⟩, ⟨some 24, .faddr 0 (.t 23), none, 0⟩, ⟨some 25, .load 18 true (.t 24), none, 0⟩, ⟨some 26, .faddr 0 (.t 3), none, 0⟩, ⟨some 27, .load 1 false (.t 26), none, 0⟩, ⟨some 28, .mv (.t 5), none, 0⟩, ⟨some 29, .iaddr 19 none (.t 27) (.t 28), none, 0⟩, ⟨some 30, .faddr 0 (.t 29), none, 0⟩, ⟨some 31, .load 18 true (.t 30), none, 0⟩, ⟨some 32, .eqagg true [1, 1, 1, 1, 1, 1, 1, 1, 1, 1, 1, 1, 1, 1, 1, 1, 1, 1] (.t 25) (.t 31), none, 0⟩] true []) (.cond (.t 32) (.seq (.region 0 [⟨some 4, .mv (.c (.bool false)), none, 0⟩] false []) .ret) .skip))) (.region 0 [⟨some 18, .mv (.t 5), none, 0⟩, ⟨some 19, .bin .add (.t 18) (.c (.int .i64 1)), none, 0⟩, ⟨some 5, .mv (.t 19), none, 0⟩] false [])))))) (.seq (.region 0 [⟨some 4, .mv (.c (.bool true)), none, 0⟩] false []) .ret)))), false⟩
theorem c80 : cFunc Tryd.prog G f80 Tryd.f80 = some f80 := by kernel_rfl
/-- junctionbox/tally.rows[junctionbox/api.Row] -/
def f81 : AFunc :=
⟨2, [.t 4], (.seq (.region 1 [⟨some 4, .newl 60 20, none, 0⟩] false []) (.seq (.region 1 [⟨some 5, .newl 60 20, none, 0⟩] false []) (.seq (.seq (.region 0 [⟨some 8, .mv (.t 0), none, 0⟩, ⟨some 9, .len (.t 8), none, 0⟩, ⟨some 10, .mv (.c (.int .i64 0)), none, 0⟩] false []) (.block 0 (.loop [1, 5, 8, 9, 10] (.seq (.region 0 [⟨some 11, .bin .lss (.t 10) (.t 9), none, 0⟩] false []) (.seq (.cond (.t 11) .skip (.exit 0)) (.seq (.block 1 (.seq (.region 1 [⟨some 12, .iaddr 19 none (.t 8) (.t 10), none, 0⟩, ⟨some 13, .load 19 true (.t 12), none, 0⟩, ⟨some 7, .alloc 85 [.int .i64 0, .int .u8 0, .int .u8 0, .int .u8 0, .int .u8 0, .int .u8 0, .int .u8 0, .int .u8 0, .int .u8 0, .int .u8 0, .int .u8 0, .int .u8 0, .int .u8 0, .int .u8 0, .int .u8 0, .int .u8 0, .int .u8 0, .int .i64 0, .int .i64 0] [], none, 0⟩, ⟨none, .store 19 (.t 7) (.t 13), none, 0⟩] false []) (.region 2 [⟨some 14, .mv (.t 5), none, 0⟩, ⟨some 15, .mv (.t 1), none, 0⟩, ⟨some 16, .load 19 true (.t 7), none, 0⟩, ⟨some 17, .callR (.t 15) [.t 16] false, none, 0⟩, ⟨some 18, .buildSl 60 20 [.int .i64 0, .int .u8 0, .int .u8 0, .int .u8 0, .int .u8 0, .int .u8 0, .int .u8 0, .int .u8 0, .int .u8 0, .int .u8 0, .int .u8 0, .int .u8 0, .int .u8 0, .int .u8 0, .int .u8 0, .int .u8 0, .int .u8 0, .int .i64 0, .int .u64 0, .int .u64 0] 1 [(0, .t 17)] false, none, 0⟩, ⟨some 19, .append 60 20 48 (.t 14) (.t 18), none, 1⟩, ⟨some 5, .mv (.t 19), none, 0⟩] false []))) (.region 0 [⟨some 20, .bin .add (.t 10) (.c (.int .i64 1)), none, 0⟩, ⟨some 10, .mv (.t 20), none, 0⟩] false []))))))) (.seq (.region 0 [⟨some 21, .mv (.t 5), none, 0⟩, ⟨some 4, .mv (.t 21), none, 0⟩] false []) .ret)))), true⟩
theorem c81 : cFunc Tryd.prog G f81 Tryd.f81 = some f81 := by kernel_rfl
/-- junctionbox/tally.zero$1 -/
def f82 : AFunc :=
⟨1, [.cell 2 20 true], (.seq (.region 2 [⟨some 1, .box 85 19 (.t 0) [], none, 0⟩, ⟨some 2, .alloc 60 [.int .i64 0, .int .u8 0, .int .u8 0, .int .u8 0, .int .u8 0, .int .u8 0, .int .u8 0, .int .u8 0, .int .u8 0, .int .u8 0, .int .u8 0, .int .u8 0, .int .u8 0, .int .u8 0, .int .u8 0, .int .u8 0, .int .u8 0, .int .i64 0, .int .u64 0, .int .u64 0] [], none, 1⟩] false []) (.seq (.region 0 [⟨some 3, .faddr 0 (.t 1), none, 0⟩, ⟨some 4, .load 18 true (.t 3), none, 0⟩, ⟨some 5, .build [.int .i64 0, .int .u8 0, .int .u8 0, .int .u8 0, .int .u8 0, .int .u8 0, .int .u8 0, .int .u8 0, .int .u8 0, .int .u8 0, .int .u8 0, .int .u8 0, .int .u8 0, .int .u8 0, .int .u8 0, .int .u8 0, .int .u8 0, .int .i64 0, .int .u64 0, .int .u64 0] [(0, 18, .t 4)] [], none, 0⟩, ⟨none, .store 20 (.t 2) (.t 5), none, 0⟩] false []) .ret)), false⟩
theorem c82 : cFunc Tryd.prog G f82 Tryd.f82 = some f82 := by kernel_rfl
/-- junctionbox/prefix.Width -/
def f85 : AFunc :=
⟨1, [.t 2], (.seq (.region 0 [⟨some 2, .mv (.c (.int .i64 0)), none, 0⟩] false []) (.seq (.seq (.region 0 [⟨some 3, .mv (.t 0), none, 0⟩, ⟨some 4, .bin .lss (.t 3) (.c (.int .i64 0)), none, 0⟩, ⟨some 5, .mv (.t 4), none, 0⟩, ⟨some 6, .mv (.t 0), some (5, false), 0⟩, ⟨some 7, .bin .geq (.t 6) (.c (.int .i64 7)), some (5, false), 0⟩, ⟨some 8, .pick (.t 5) (.c (.bool true)) (.t 7), none, 0⟩] false []) (.cond (.t 8) (.seq (.region 0 [⟨some 2, .mv (.c (.int .i64 0)), none, 0⟩] false []) .ret) .skip)) (.seq (.region 0 [⟨some 9, .mv (.t 0), none, 0⟩, ⟨some 10, .iaddr 1 (some 7) (.c (.rp [.int .i64 0, .int .i64 0, .int .i64 0, .int .i64 0, .int .i64 32, .int .i64 0, .int .i64 128] 0)) (.t 9), none, 0⟩, ⟨some 11, .load 1 false (.t 10), none, 0⟩, ⟨some 2, .mv (.t 11), none, 0⟩] false []) .ret))), false⟩
theorem c85 : cFunc Tryd.prog G f85 Tryd.f85 = some f85 := by kernel_rfl
/-- junctionbox/prefix.clear -/
def f86 : AFunc :=
⟨2, [.t 4], (.seq (.region 1 [⟨some 2, .box 31 16 (.t 0) [], none, 0⟩, ⟨some 4, .mv (.c (.bool false)), none, 0⟩] false []) (.seq (.seq (.region 0 [⟨some 6, .mv (.t 1), none, 0⟩, ⟨some 5, .mv (.t 6), none, 0⟩] false []) (.block 0 (.loop [2, 5] (.seq (.seq (.region 0 [⟨some 7, .mv (.t 5), none, 0⟩, ⟨some 8, .bin .lss (.t 7) (.c (.int .i64 128)), none, 0⟩] false []) (.cond (.t 8) .skip (.exit 0))) (.seq (.block 1 (.seq (.region 0 [⟨some 11, .mv (.t 5), none, 0⟩, ⟨some 12, .bin .quo (.t 11) (.c (.int .i64 8)), none, 0⟩, ⟨some 13, .iaddr 1 (some 16) (.t 2) (.t 12), none, 0⟩, ⟨some 14, .load 1 false (.t 13), none, 0⟩, ⟨some 15, .mv (.t 5), none, 0⟩, ⟨some 16, .bin .rem (.t 15) (.c (.int .i64 8)), none, 0⟩, ⟨some 17, .bin .sub (.c (.int .i64 7)) (.t 16), none, 0⟩, ⟨some 18, .bin .shr (.t 14) (.t 17), none, 0⟩, ⟨some 19, .bin .and (.t 18) (.c (.int .u8 1)), none, 0⟩, ⟨some 20, .bin .eql (.t 19) (.c (.int .u8 1)), none, 0⟩] false []) (.cond (.t 20) (.seq (.region 0 [⟨some 4, .mv (.c (.bool false)), none, 0⟩] false []) .ret) .skip))) (.region 0 [⟨some 9, .mv (.t 5), none, 0⟩, ⟨some 10, .bin .add (.t 9) (.c (.int .i64 1)), none, 0⟩, ⟨some 5, .mv (.t 10), none, 0⟩] false [])))))) (.seq (.region 0 [⟨some 4, .mv (.c (.bool true)), none, 0⟩] false []) .ret))), false⟩
theorem c86 : cFunc Tryd.prog G f86 Tryd.f86 = some f86 := by kernel_rfl
/-- junctionbox/tally.all$1 -/
def f91 : AFunc :=
⟨2, [], (.seq (.region 0 [⟨some 5, .faddr 0 (.t 1), none, 0⟩, ⟨some 6, .load 1 false (.t 5), none, 0⟩, ⟨some 7, .len (.t 6), none, 0⟩, ⟨some 8, .mv (.c (.int .i64 0)), none, 0⟩] false []) (.block 0 (.loop [0, 6, 7, 8] (.seq (.region 0 [⟨some 9, .bin .lss (.t 8) (.t 7), none, 0⟩] false []) (.seq (.cond (.t 9) .skip (.exit 0)) (.seq (.block 1 (.seq (.region 1 [⟨some 10, .iaddr 20 none (.t 6) (.t 8), none, 0⟩, ⟨some 11, .load 20 true (.t 10), none, 0⟩, ⟨some 4, .alloc 60 [.int .i64 0, .int .u8 0, .int .u8 0, .int .u8 0, .int .u8 0, .int .u8 0, .int .u8 0, .int .u8 0, .int .u8 0, .int .u8 0, .int .u8 0, .int .u8 0, .int .u8 0, .int .u8 0, .int .u8 0, .int .u8 0, .int .u8 0, .int .i64 0, .int .u64 0, .int .u64 0] [], none, 0⟩, ⟨none, .store 20 (.t 4) (.t 11), none, 0⟩] false []) (.seq (.region 0 [⟨some 12, .mv (.t 0), none, 0⟩, ⟨some 13, .faddr 0 (.t 4), none, 0⟩, ⟨some 14, .load 18 true (.t 13), none, 0⟩, ⟨some 15, .faddr 18 (.t 4), none, 0⟩, ⟨some 16, .load 2 true (.t 15), none, 0⟩, ⟨some 17, .callR (.t 12) [.t 14, .t 16] false, none, 0⟩, ⟨some 18, .not (.t 17), none, 0⟩] false []) (.cond (.t 18) .ret .skip)))) (.region 0 [⟨some 19, .bin .add (.t 8) (.c (.int .i64 1)), none, 0⟩, ⟨some 8, .mv (.t 19), none, 0⟩] false []))))))), false⟩
theorem c91 : cFunc Tryd.prog G f91 Tryd.f91 = some f91 := by kernel_rfl
/-- cmp.Compare[int] -/
def f92 : AFunc :=
⟨2, [.t 4], (.seq (.region 0 [⟨some 4, .mv (.c (.int .i64 0)), none, 0⟩] false []) (.seq (.region 0 [⟨some 7, .mv (.t 0), none, 0⟩, ⟨some 8, .callV 101 [.t 7] false, none, 0⟩, ⟨some 5, .mv (.t 8), none, 0⟩] false []) (.seq (.region 0 [⟨some 9, .mv (.t 1), none, 0⟩, ⟨some 10, .callV 101 [.t 9] false, none, 0⟩, ⟨some 6, .mv (.t 10), none, 0⟩] false []) (.seq (.seq (.region 0 [⟨some 11, .mv (.t 5), none, 0⟩] false []) (.cond (.t 11) (.seq (.seq (.region 0 [⟨some 12, .mv (.t 6), none, 0⟩] false []) (.cond (.t 12) (.seq (.region 0 [⟨some 4, .mv (.c (.int .i64 0)), none, 0⟩] false []) .ret) .skip)) (.seq (.region 0 [⟨some 4, .mv (.c (.int .i64 (-1))), none, 0⟩] false []) .ret)) .skip)) (.seq (.seq (.region 0 [⟨some 13, .mv (.t 6), none, 0⟩] false []) (.cond (.t 13) (.seq (.region 0 [⟨some 4, .mv (.c (.int .i64 1)), none, 0⟩] false []) .ret) .skip)) (.seq (.seq (.region 0 [⟨some 14, .mv (.t 0), none, 0⟩, ⟨some 15, .mv (.t 1), none, 0⟩, ⟨some 16, .bin .lss (.t 14) (.t 15), none, 0⟩] false []) (.cond (.t 16) (.seq (.region 0 [⟨some 4, .mv (.c (.int .i64 (-1))), none, 0⟩] false []) .ret) .skip)) (.seq (.seq (.region 0 [⟨some 17, .mv (.t 0), none, 0⟩, ⟨some 18, .mv (.t 1), none, 0⟩, ⟨some 19, .bin .gtr (.t 17) (.t 18), none, 0⟩] false []) (.cond (.t 19) (.seq (.region 0 [⟨some 4, .mv (.c (.int .i64 1)), none, 0⟩] false []) .ret) .skip)) (.seq (.region 0 [⟨some 4, .mv (.c (.int .i64 0)), none, 0⟩] false []) .ret)))))))), false⟩
theorem c92 : cFunc Tryd.prog G f92 Tryd.f92 = some f92 := by kernel_rfl
/-- bytes.Compare -/
def f93 : AFunc :=
⟨2, [.t 4], (.seq (.region 0 [⟨some 4, .mv (.c (.int .i64 0)), none, 0⟩] false []) (.seq (.region 0 [⟨some 5, .mv (.t 0), none, 0⟩, ⟨some 6, .mv (.t 1), none, 0⟩, ⟨some 7, .callV 102 [.t 5, .t 6] false, none, 0⟩, ⟨some 4, .mv (.t 7), none, 0⟩] false []) .ret)), false⟩
theorem c93 : cFunc Tryd.prog G f93 Tryd.f93 = some f93 := by kernel_rfl
/-- cmp.isNaN[uint64] -/
def f96 : AFunc :=
⟨1, [.t 2], (.seq (.region 0 [⟨some 2, .mv (.c (.bool false)), none, 0⟩] false []) (.seq (.region 0 [⟨some 3, .mv (.t 0), none, 0⟩, ⟨some 4, .mv (.t 0), none, 0⟩, ⟨some 5, .bin .neq (.t 3) (.t 4), none, 0⟩, ⟨some 2, .mv (.t 5), none, 0⟩] false []) .ret)), false⟩
theorem c96 : cFunc Tryd.prog G f96 Tryd.f96 = some f96 := by kernel_rfl
/-- slices.EqualFunc[[]junctionbox/api.Counted,[]junctionbox/api.Row,junctionbox/api.Counted,junctionbox/api.Row] -/
def f97 : AFunc :=
⟨3, [.t 6], (.seq (.region 0 [⟨some 6, .mv (.c (.bool false)), none, 0⟩] false []) (.seq (.seq (.region 0 [⟨some 10, .mv (.t 0), none, 0⟩, ⟨some 11, .len (.t 10), none, 0⟩, ⟨some 12, .mv (.t 1), none, 0⟩, ⟨some 13, .len (.t 12), none, 0⟩, ⟨some 14, .bin .neq (.t 11) (.t 13), none, 0⟩] false []) (.cond (.t 14) (.seq (.region 0 [⟨some 6, .mv (.c (.bool false)), none, 0⟩] false []) .ret) .skip)) (.seq (.seq (.region 0 [⟨some 15, .mv (.t 0), none, 0⟩, ⟨some 16, .len (.t 15), none, 0⟩, ⟨some 17, .mv (.c (.int .i64 0)), none, 0⟩] false []) (.block 0 (.loop [1, 2, 15, 16, 17] (.seq (.region 0 [⟨some 18, .bin .lss (.t 17) (.t 16), none, 0⟩] false []) (.seq (.cond (.t 18) .skip (.exit 0)) (.seq (.block 1 (.seq (.region 1 [⟨some 19, .mv (.t 17), none, 0⟩, ⟨some 20, .iaddr 20 none (.t 15) (.t 17), none, 0⟩, ⟨some 21, .load 20 true (.t 20), none, 0⟩, ⟨some 8, .alloc 60 [.int .i64 0, .int .u8 0, .int .u8 0, .int .u8 0, .int .u8 0, .int .u8 0, .int .u8 0, .int .u8 0, .int .u8 0, .int .u8 0, .int .u8 0, .int .u8 0, .int .u8 0, .int .u8 0, .int .u8 0, .int .u8 0, .int .u8 0, .int .i64 0, .int .u64 0, .int .u64 0] [], none, 0⟩, ⟨some 7, .mv (.t 19), none, 0⟩, ⟨none, .store 20 (.t 8) (.t 21), none, 0⟩] false []) (.seq (.region 1 [⟨some 22, .mv (.t 1), none, 0⟩, ⟨some 23, .mv (.t 7), none, 0⟩, ⟨some 24, .iaddr 19 none (.t 22) (.t 23), none, 0⟩, ⟨some 25, .load 19 true (.t 24), none, 0⟩, ⟨some 9, .alloc 85 [.int .i64 0, .int .u8 0, .int .u8 0, .int .u8 0, .int .u8 0, .int .u8 0, .int .u8 0, .int .u8 0, .int .u8 0, .int .u8 0, .int .u8 0, .int .u8 0, .int .u8 0, .int .u8 0, .int .u8 0, .int .u8 0, .int .u8 0, .int .i64 0, .int .i64 0] [], none, 0⟩, ⟨none, .store 19 (.t 9) (.t 25), none, 0⟩] false []) (.seq (.region 0 [⟨some 26, .mv (.t 2), none, 0⟩, ⟨some 27, .load 20 true (.t 8), none, 0⟩, ⟨some 28, .load 19 true (.t 9), none, 0⟩, ⟨some 29, .callR (.t 26) [.t 27, .t 28] false, none, 0⟩, ⟨some 30, .not (.t 29), none, 0⟩] false []) (.cond (.t 30) (.seq (.region 0 [⟨some 6, .mv (.c (.bool false)), none, 0⟩] false []) .ret) .skip))))) (.region 0 [⟨some 31, .bin .add (.t 17) (.c (.int .i64 1)), none, 0⟩, ⟨some 17, .mv (.t 31), none, 0⟩] false []))))))) (.seq (.region 0 [⟨some 6, .mv (.c (.bool true)), none, 0⟩] false []) .ret)))), false⟩
theorem c97 : cFunc Tryd.prog G f97 Tryd.f97 = some f97 := by kernel_rfl
/-- junctionbox/tally.of$1 -/
def f98 : AFunc :=
⟨2, [.t 4], (.seq (.region 2 [⟨some 2, .box 60 20 (.t 0) [], none, 0⟩, ⟨some 3, .box 85 19 (.t 1) [], none, 1⟩, ⟨some 4, .mv (.c (.bool false)), none, 0⟩] false []) (.seq (.region 0 [⟨some 5, .faddr 0 (.t 2), none, 0⟩, ⟨some 6, .load 18 true (.t 5), none, 0⟩, ⟨some 7, .faddr 0 (.t 3), none, 0⟩, ⟨some 8, .load 18 true (.t 7), none, 0⟩, ⟨some 9, .eqagg false [1, 1, 1, 1, 1, 1, 1, 1, 1, 1, 1, 1, 1, 1, 1, 1, 1, 1] (.t 6) (.t 8), none, 0⟩, ⟨some 4, .mv (.t 9), none, 0⟩] false []) .ret)), false⟩
theorem c98 : cFunc Tryd.prog G f98 Tryd.f98 = some f98 := by kernel_rfl
/-- junctionbox/prefix.cut -/
def f99 : AFunc :=
⟨2, [.cell 4 16 true], (.seq (.region 2 [⟨some 2, .box 31 16 (.t 0) [], none, 0⟩, ⟨some 4, .alloc 31 [.int .u8 0, .int .u8 0, .int .u8 0, .int .u8 0, .int .u8 0, .int .u8 0, .int .u8 0, .int .u8 0, .int .u8 0, .int .u8 0, .int .u8 0, .int .u8 0, .int .u8 0, .int .u8 0, .int .u8 0, .int .u8 0] [], none, 1⟩] false []) (.seq (.seq (.region 0 [⟨some 7, .mv (.c (.int .i64 0)), none, 0⟩] false []) (.block 0 (.loop [1, 2, 4, 7] (.seq (.region 0 [⟨some 8, .bin .lss (.t 7) (.c (.int .i64 16)), none, 0⟩] false []) (.seq (.cond (.t 8) .skip (.exit 0)) (.seq (.block 1 (.seq (.region 0 [⟨some 9, .mv (.t 7), none, 0⟩, ⟨some 5, .mv (.t 9), none, 0⟩] false []) (.seq (.region 0 [⟨some 10, .mv (.t 1), none, 0⟩, ⟨some 11, .mv (.t 5), none, 0⟩, ⟨some 12, .bin .mul (.c (.int .i64 8)) (.t 11), none, 0⟩, ⟨some 13, .bin .sub (.t 10) (.t 12), none, 0⟩, ⟨some 6, .mv (.t 13), none, 0⟩] false []) (.block 2 (.seq (.region 0 [⟨some 15, .mv (.t 6), none, 0⟩, ⟨some 16, .bin .leq (.t 15) (.c (.int .i64 0)), none, 0⟩, ⟨some 14, .mv (.t 16), none, 0⟩] false []) (.cond (.t 14) (.region 0 [⟨some 17, .mv (.t 5), none, 0⟩, ⟨some 18, .iaddr 1 (some 16) (.t 2) (.t 17), none, 0⟩, ⟨none, .store 1 (.t 18) (.c (.int .u8 0)), none, 0⟩] false []) (.seq (.region 0 [⟨some 20, .mv (.t 6), none, 0⟩, ⟨some 21, .bin .lss (.t 20) (.c (.int .i64 8)), none, 0⟩, ⟨some 19, .mv (.t 21), none, 0⟩] false []) (.cond (.t 19) (.region 0 [⟨some 22, .mv (.t 5), none, 0⟩, ⟨some 23, .iaddr 1 (some 16) (.t 2) (.t 22), none, 0⟩, ⟨some 24, .load 1 false (.t 23), none, 0⟩, ⟨some 25, .mv (.t 6), none, 0⟩, ⟨some 26, .bin .sub (.c (.int .i64 8)) (.t 25), none, 0⟩, ⟨some 27, .bin .shl (.c (.int .u8 255)) (.t 26), none, 0⟩, ⟨some 28, .bin .and (.t 24) (.t 27), none, 0⟩, ⟨some 29, .iaddr 1 (some 16) (.t 2) (.t 22), none, 0⟩, ⟨none, .store 1 (.t 29) (.t 28), none, 0⟩] true []) .skip)))))))) (.region 0 [⟨some 30, .bin .add (.t 7) (.c (.int .i64 1)), none, 0⟩, ⟨some 7, .mv (.t 30), none, 0⟩] false []))))))) (.seq (.region 0 [⟨some 31, .load 16 true (.t 2), none, 0⟩, ⟨none, .store 16 (.t 4) (.t 31), none, 0⟩] false []) .ret))), false⟩
theorem c99 : cFunc Tryd.prog G f99 Tryd.f99 = some f99 := by kernel_rfl
/-- cmp.isNaN[int] -/
def f101 : AFunc :=
⟨1, [.t 2], (.seq (.region 0 [⟨some 2, .mv (.c (.bool false)), none, 0⟩] false []) (.seq (.region 0 [⟨some 3, .mv (.t 0), none, 0⟩, ⟨some 4, .mv (.t 0), none, 0⟩, ⟨some 5, .bin .neq (.t 3) (.t 4), none, 0⟩, ⟨some 2, .mv (.t 5), none, 0⟩] false []) .ret)), false⟩
theorem c101 : cFunc Tryd.prog G f101 Tryd.f101 = some f101 := by kernel_rfl
end Go.Proofs.YtdllnneeopbmdaaDoor.F

/- slices.Clone of this program. No condition. -/
set_option linter.unusedVariables false
set_option linter.unusedSimpArgs false
namespace Go.Proofs.YtdllnneeopbmdaaDoor.F
open Go Go.RowKit Go.Proofs Go.Proofs.YtdllnneeopbmdaaDoor Go.Proofs.YtdllnneeopbmdaaDoor.J
theorem elemT_22 : ElemT Tryd.prog 22 60 20 (.agg #[.int .i64 0, .int .u8 0, .int .u8 0, .int .u8 0, .int .u8 0, .int .u8 0, .int .u8 0, .int .u8 0, .int .u8 0, .int .u8 0, .int .u8 0, .int .u8 0, .int .u8 0, .int .u8 0, .int .u8 0, .int .u8 0, .int .u8 0, .int .i64 0, .int .u64 0, .int .u64 0]) 48 := ⟨Tryd.underlying22, by kernel_rfl, rfl, by decide⟩
set_option maxHeartbeats 1000000 in
theorem clone_f40 (a : Option Addr) (c : Nat) (css : List (List Value)) (w : World) (hs : SlC w 20 a css) (h1 : ∀ cs ∈ css, ∀ u ∈ cs, u.oneCell' = true) (hb : css.length * 48 ≤ 140737488355328) :
    Calls Tryd.prog 40 #[.slice a css.length c] w fun e w' => ∃ v, e = .returned v ∧ OwnL w' w.heap.size 60 20 v css ∧ Ext w w' ∧ w.drawn ≤ w'.drawn := by
  have keq := eql_slice_nil Tryd.underlying22
  cases a with
  | none =>
    have hnil : css = [] := by
      cases css with
      | nil => rfl
      | cons c r => obtain ⟨_, b, o, h2, _⟩ := hs 0 c rfl; cases h2
    subst hnil
    have kn := fun (w : World) (l c : Nat) => keq w none l c
    simp only [Option.isNone_none] at kn
    clear keq
    go_enter Tryd.func40, Tryd.ntmps40
    go_wp2
    go_ret
    exact ⟨_, rfl, OwnL.nil _ _ _ _, by repeat (first | exact Ext.refl _ | assumption | apply Ext.alloc | apply Ext.drewN | apply Ext.drew), by first | exact Nat.le_refl _ | exact Nat.le_succ _⟩
  | some ad =>
    have kn := fun (w : World) (l c : Nat) => keq w (some ad) l c
    simp only [Option.isNone_some] at kn
    clear keq
    have ho : OwnL (w.alloc (.cells #[] 60)) w.heap.size 60 20 (.slice (some ⟨w.heap.size, 0, none⟩) 0 0) [] := ⟨World.ownsRow_lit w #[] 0 (Nat.le_refl _) (Nat.zero_le _) (by simp), fun c hc => by cases hc⟩
    go_enter Tryd.func40, Tryd.ntmps40
    go_wp2_with (at_builtin; refine wpl_append_d rfl _ _ 22 rfl elemT_22 w.heap.size rfl ho rfl rfl (hs.ext ((Ext.refl w).alloc _)) h1 (by simpa using hb) (by decide) (by simp) ?_; intro v' W' ho' hg' hd'; have he' := ext_own ((Ext.refl w).alloc _) ho (Nat.le_refl _) hg'; clear hg')
    go_ret
    exact ⟨_, rfl, by simpa using ho', he', hd'⟩
end Go.Proofs.YtdllnneeopbmdaaDoor.F

/- Addresses, prefixes and rows as data, and their cells. No condition. -/
set_option linter.unusedSimpArgs false
namespace Go.Proofs.YtdllnneeopbmdaaDoor.D
open Go Go.Proofs.YtdllnneeopbmdaaDoor.A

structure B16 where
  l : List Nat
  len : l.length = 16
  rng : ∀ x ∈ l, x < 256
  deriving DecidableEq
structure Adr where
  ver : Int
  b : B16
  deriving DecidableEq
structure Pfx where
  adr : Adr
  bits : Int
  deriving DecidableEq
structure Rw where
  p : Pfx
  hop : Int
  deriving DecidableEq

def zerB : B16 := ⟨List.replicate 16 0, rfl, by decide⟩
def zerA : Adr := ⟨0, zerB⟩
def zerP : Pfx := ⟨zerA, 0⟩
def zerR : Rw := ⟨zerP, 0⟩

def u8c (x : Nat) : AV := .int .u8 (x : Int)
def bav (b : B16) : List AV := b.l.map u8c
def aav (a : Adr) : List AV := .int .i64 a.ver :: bav a.b
def pav (p : Pfx) : List AV := .int .i64 p.adr.ver :: (bav p.adr.b ++ [.int .i64 p.bits])
def rav (r : Rw) : List AV := .int .i64 r.p.adr.ver :: (bav r.p.adr.b ++ [.int .i64 r.p.bits, .int .i64 r.hop])

theorem bav_zer : bav zerB = [.int .u8 0, .int .u8 0, .int .u8 0, .int .u8 0, .int .u8 0, .int .u8 0, .int .u8 0, .int .u8 0, .int .u8 0, .int .u8 0, .int .u8 0, .int .u8 0, .int .u8 0, .int .u8 0, .int .u8 0, .int .u8 0] := rfl
theorem aav_zer : aav zerA = [.int .i64 0, .int .u8 0, .int .u8 0, .int .u8 0, .int .u8 0, .int .u8 0, .int .u8 0, .int .u8 0, .int .u8 0, .int .u8 0, .int .u8 0, .int .u8 0, .int .u8 0, .int .u8 0, .int .u8 0, .int .u8 0, .int .u8 0] := rfl
theorem pav_zer : pav zerP = [.int .i64 0, .int .u8 0, .int .u8 0, .int .u8 0, .int .u8 0, .int .u8 0, .int .u8 0, .int .u8 0, .int .u8 0, .int .u8 0, .int .u8 0, .int .u8 0, .int .u8 0, .int .u8 0, .int .u8 0, .int .u8 0, .int .u8 0, .int .i64 0] := rfl
theorem rav_zer : rav zerR = [.int .i64 0, .int .u8 0, .int .u8 0, .int .u8 0, .int .u8 0, .int .u8 0, .int .u8 0, .int .u8 0, .int .u8 0, .int .u8 0, .int .u8 0, .int .u8 0, .int .u8 0, .int .u8 0, .int .u8 0, .int .u8 0, .int .u8 0, .int .i64 0, .int .i64 0] := rfl

theorem bav_len (b : B16) : (bav b).length = 16 := by simp [bav, b.len]
theorem aav_len (a : Adr) : (aav a).length = 17 := by simp [aav, bav_len]
theorem pav_len (p : Pfx) : (pav p).length = 18 := by simp [pav, bav_len]
theorem rav_len (r : Rw) : (rav r).length = 19 := by simp [rav, bav_len]
theorem bav_data (b : B16) : dataL (bav b) = true := by
  simp only [dataL, bav, List.all_map, List.all_eq_true, Function.comp]
  intro x _; rfl
theorem all_data (l r : List AV) : dataL (l ++ r) = (dataL l && dataL r) := by simp [dataL]
theorem aav_data (a : Adr) : dataL (aav a) = true := by
  have := bav_data a.b; simp only [dataL, aav, List.all_cons, AV.isData, Bool.true_and] at *; exact this
theorem pav_data (p : Pfx) : dataL (pav p) = true := by
  have := bav_data p.adr.b
  simp only [dataL, pav, List.all_cons, AV.isData, Bool.true_and, List.all_append, List.all_nil, Bool.and_true] at *; exact this
theorem rav_data (r : Rw) : dataL (rav r) = true := by
  have := bav_data r.p.adr.b
  simp only [dataL, rav, List.all_cons, AV.isData, Bool.true_and, List.all_append, List.all_nil, Bool.and_true] at *; exact this
theorem below_append (m : Nat) : ∀ l r, belowL m (l ++ r) = (belowL m l && belowL m r)
  | [], r => by simp [belowL]
  | a :: l, r => by simp only [List.cons_append, belowL, below_append m l r, Bool.and_assoc]
theorem below_data (m : Nat) : ∀ {l : List AV}, dataL l = true → belowL m l = true
  | [], _ => rfl
  | a :: l, h => by
    simp only [dataL, List.all_cons, Bool.and_eq_true] at h
    simp only [belowL, below_data m (l := l) h.2, Bool.and_true]
    cases a <;> first | rfl | (have := h.1; cases this)
theorem bav_below (m : Nat) (b : B16) : belowL m (bav b) = true := below_data m (bav_data b)
theorem aav_below (m : Nat) (b : Adr) : belowL m (aav b) = true := below_data m (aav_data b)
theorem pav_below (m : Nat) (b : Pfx) : belowL m (pav b) = true := below_data m (pav_data b)
theorem rav_below (m : Nat) (b : Rw) : belowL m (rav b) = true := below_data m (rav_data b)

theorem pc_all (l : List AV) (n : Nat) (h : l.length = n) : piece l 0 n = some l := by
  unfold piece; rw [if_pos (by omega)]; subst h; simp
theorem bav_p (b : B16) : piece (bav b) 0 16 = some (bav b) := pc_all _ _ (bav_len b)
theorem aav_p (a : Adr) : piece (aav a) 0 17 = some (aav a) := pc_all _ _ (aav_len a)
theorem pav_p (p : Pfx) : piece (pav p) 0 18 = some (pav p) := pc_all _ _ (pav_len p)
theorem rav_p (r : Rw) : piece (rav r) 0 19 = some (rav r) := pc_all _ _ (rav_len r)
theorem aav_v (a : Adr) : piece (aav a) 0 1 = some [.int .i64 a.ver] := by
  unfold piece; rw [if_pos (by rw [aav_len]; omega)]; rfl
theorem pav_v (a : Pfx) : piece (pav a) 0 1 = some [.int .i64 a.adr.ver] := by
  unfold piece; rw [if_pos (by rw [pav_len]; omega)]; rfl
theorem rav_v (a : Rw) : piece (rav a) 0 1 = some [.int .i64 a.p.adr.ver] := by
  unfold piece; rw [if_pos (by rw [rav_len]; omega)]; rfl
theorem aav_b (a : Adr) : piece (aav a) 1 16 = some (bav a.b) := by
  unfold piece; rw [if_pos (by rw [aav_len]; omega)]
  have := bav_len a.b
  simp only [aav, List.drop_succ_cons, List.drop_zero]
  rw [← this, List.take_length]
theorem pav_b (a : Pfx) : piece (pav a) 1 16 = some (bav a.adr.b) := by
  unfold piece; rw [if_pos (by rw [pav_len]; omega)]
  have := bav_len a.adr.b
  simp only [pav, List.drop_succ_cons, List.drop_zero]
  rw [← this, List.take_left]
theorem rav_b (a : Rw) : piece (rav a) 1 16 = some (bav a.p.adr.b) := by
  unfold piece; rw [if_pos (by rw [rav_len]; omega)]
  have := bav_len a.p.adr.b
  simp only [rav, List.drop_succ_cons, List.drop_zero]
  rw [← this, List.take_left]
theorem pav_a (a : Pfx) : piece (pav a) 0 17 = some (aav a.adr) := by
  unfold piece; rw [if_pos (by rw [pav_len]; omega)]
  have := bav_len a.adr.b
  simp only [pav, aav, List.take_succ_cons, List.drop_zero]
  rw [← this, List.take_left]
theorem rav_a (a : Rw) : piece (rav a) 0 17 = some (aav a.p.adr) := by
  unfold piece; rw [if_pos (by rw [rav_len]; omega)]
  have := bav_len a.p.adr.b
  simp only [rav, aav, List.take_succ_cons, List.drop_zero]
  rw [← this, List.take_left]
theorem drop16 (b : B16) (r : List AV) (n : Nat) : (bav b ++ r).drop (16 + n) = r.drop n := by
  rw [← bav_len b, List.drop_append]; simp
theorem pav_n (a : Pfx) : piece (pav a) 17 1 = some [.int .i64 a.bits] := by
  unfold piece; rw [if_pos (by rw [pav_len]; omega)]
  simp only [pav, List.drop_succ_cons]
  rw [show (16 : Nat) = 16 + 0 from rfl, drop16]; rfl
theorem rav_n (a : Rw) : piece (rav a) 17 1 = some [.int .i64 a.p.bits] := by
  unfold piece; rw [if_pos (by rw [rav_len]; omega)]
  simp only [rav, List.drop_succ_cons]
  rw [show (16 : Nat) = 16 + 0 from rfl, drop16]; rfl
theorem rav_h (a : Rw) : piece (rav a) 18 1 = some [.int .i64 a.hop] := by
  unfold piece; rw [if_pos (by rw [rav_len]; omega)]
  simp only [rav, List.drop_succ_cons]
  rw [show (17 : Nat) = 16 + 1 from rfl, drop16]; rfl
theorem rav_pf (a : Rw) : piece (rav a) 0 18 = some (pav a.p) := by
  unfold piece; rw [if_pos (by rw [rav_len]; omega)]
  have := bav_len a.p.adr.b
  simp only [rav, pav, List.take_succ_cons, List.drop_zero]
  rw [show (17 : Nat) = (bav a.p.adr.b).length + 1 by rw [this], List.take_length_add_append]; rfl

def B16.get (b : B16) (n : Nat) : Nat := b.l.getD n 0
theorem B16.get_lt (b : B16) (n : Nat) : b.get n < 256 := by
  unfold B16.get
  rw [List.getD_eq_getElem?_getD]
  cases h : b.l[n]? with
  | none => simp
  | some x => simpa using b.rng x (List.mem_of_getElem? h)
theorem B16.get_some (b : B16) {n : Nat} (h : n < 16) : b.l[n]? = some (b.get n) := by
  have h' : n < b.l.length := by rw [b.len]; exact h
  simp [B16.get, List.getElem?_eq_getElem h']
theorem bav_i (b : B16) (n : Nat) (h : n < 16) : piece (bav b) n 1 = some [.int .u8 (b.get n : Int)] := by
  unfold piece; rw [if_pos (by rw [bav_len]; omega)]
  have h' : n < (bav b).length := by rw [bav_len]; exact h
  rw [List.drop_eq_getElem_cons h']
  have : (bav b)[n]? = some (u8c (b.get n)) := by simp [bav, b.get_some h]
  rw [List.getElem?_eq_getElem h'] at this
  rw [Option.some.inj this]
  rfl
theorem B16.ext' {a b : B16} (h : ∀ n < 16, a.get n = b.get n) : a = b := by
  have : a.l = b.l := List.ext_getElem? fun n => by
    by_cases hn : n < 16
    · rw [a.get_some hn, b.get_some hn, h n hn]
    · rw [List.getElem?_eq_none (by rw [a.len]; omega), List.getElem?_eq_none (by rw [b.len]; omega)]
  cases a; cases b; simp only [B16.mk.injEq]; exact this
def B16.put (b : B16) (n v : Nat) : B16 := if h : v < 256 then ⟨b.l.set n v, by simp [b.len], fun x hx => by
  rcases List.mem_or_eq_of_mem_set hx with h' | h'
  · exact b.rng x h'
  · omega⟩ else b
theorem B16.get_put (b : B16) {n v k : Nat} (hn : n < 16) (hv : v < 256) : (b.put n v).get k = if k = n then v else b.get k := by
  unfold B16.put; rw [dif_pos hv]
  simp only [B16.get, List.getD_eq_getElem?_getD, List.getElem?_set]
  by_cases h : n = k
  · subst h; simp [b.len, hn]
  · rw [if_neg h, if_neg (fun e => h e.symm)]
theorem bav_put (b : B16) {n v : Nat} (hn : n < 16) (hv : v < 256) : ovr (bav b) n [.int .u8 (v : Int)] = some (bav (b.put n v)) := by
  unfold ovr
  rw [if_pos (by simp [bav_len]; omega)]
  unfold B16.put; rw [dif_pos hv]
  have h' : n < (bav b).length := by rw [bav_len]; exact hn
  show some ((bav b).take n ++ [u8c v] ++ (bav b).drop (n + 1)) = _
  simp only [bav, List.map_set]
  rw [List.set_eq_take_append_cons_drop, if_pos (by simpa [bav] using h')]
  simp
def gen (f : Nat → Nat) : B16 := ⟨(List.range 16).map (fun i => f i % 256), by simp, fun x hx => by
  obtain ⟨i, _, rfl⟩ := List.mem_map.1 hx; exact Nat.mod_lt _ (by decide)⟩
theorem gen_get (f : Nat → Nat) {n : Nat} (h : n < 16) : (gen f).get n = f n % 256 := by
  simp [gen, B16.get, List.getD_eq_getElem?_getD, h]

/-! ### Bits -/
def bit (b : B16) (k : Nat) : Bool := (b.get (k / 8)).testBit (7 - k % 8)
theorem byte_ext {x y : Nat} (hx : x < 256) (hy : y < 256) (h : ∀ j < 8, x.testBit j = y.testBit j) : x = y := by
  apply Nat.eq_of_testBit_eq
  intro j
  by_cases hj : j < 8
  · exact h j hj
  · rw [Nat.testBit_lt_two_pow (Nat.lt_of_lt_of_le hx (Nat.pow_le_pow_right (n := 2) (by decide) (show 8 ≤ j by omega))), Nat.testBit_lt_two_pow (Nat.lt_of_lt_of_le hy (Nat.pow_le_pow_right (n := 2) (by decide) (show 8 ≤ j by omega)))]
theorem bits_ext {a b : B16} (h : ∀ k < 128, bit a k = bit b k) : a = b := by
  apply B16.ext'
  intro n hn
  apply byte_ext (a.get_lt n) (b.get_lt n)
  intro j hj
  have := h (8 * n + (7 - j)) (by omega)
  unfold bit at this
  rw [show (8 * n + (7 - j)) / 8 = n by omega, show 7 - (8 * n + (7 - j)) % 8 = j by omega] at this
  exact this
def Clr (b : B16) (n : Nat) : Prop := ∀ k, n ≤ k → k < 128 → bit b k = false
instance {b : B16} {n : Nat} : Decidable (Clr b n) := decidable_of_iff (∀ k, k < 128 → n ≤ k → bit b k = false) ⟨fun h k h1 h2 => h k h2 h1, fun h k h1 h2 => h k h2 h1⟩
def width (v : Int) : Nat := if v = 4 then 32 else if v = 6 then 128 else 0
theorem width_le (v : Int) : width v ≤ 128 := by unfold width; split <;> (try split) <;> omega
def AddrOk (a : Adr) : Prop := width a.ver ≠ 0 ∧ Clr a.b (width a.ver)
instance {a : Adr} : Decidable (AddrOk a) := by unfold AddrOk; infer_instance
def PfxOk (p : Pfx) : Prop := AddrOk p.adr ∧ 0 ≤ p.bits ∧ p.bits ≤ width p.adr.ver ∧ Clr p.adr.b p.bits.toNat
instance {p : Pfx} : Decidable (PfxOk p) := by unfold PfxOk; infer_instance
def cutN (x n : Nat) : Nat := x / 2 ^ (8 - n) * 2 ^ (8 - n)
def cut (b : B16) (n : Nat) : B16 := gen fun i => cutN (b.get i) (n - 8 * i)
def Has (p : Pfx) (a : Adr) : Prop := PfxOk p ∧ AddrOk a ∧ p.adr.ver = a.ver ∧ cut a.b p.bits.toNat = p.adr.b
instance {p : Pfx} {a : Adr} : Decidable (Has p a) := by unfold Has; infer_instance
def Holds (p q : Pfx) : Prop := PfxOk q ∧ p.bits ≤ q.bits ∧ Has p q.adr
instance {p q : Pfx} : Decidable (Holds p q) := by unfold Holds; infer_instance
theorem cutN_le (x n : Nat) : cutN x n ≤ x := Nat.div_mul_le_self _ _
theorem cutN_bit (x n j : Nat) : (cutN x n).testBit j = (decide (8 - n ≤ j) && x.testBit j) := by
  unfold cutN
  rw [← Nat.shiftLeft_eq, ← Nat.shiftRight_eq_div_pow, Nat.testBit_shiftLeft, Nat.testBit_shiftRight]
  by_cases h : 8 - n ≤ j
  · simp [h, show 8 - n + (j - (8 - n)) = j by omega]
  · simp [h]
theorem cut_get (b : B16) (n : Nat) {i : Nat} (h : i < 16) : (cut b n).get i = cutN (b.get i) (n - 8 * i) := by
  unfold cut
  rw [gen_get _ h, Nat.mod_eq_of_lt (Nat.lt_of_le_of_lt (cutN_le _ _) (b.get_lt i))]
theorem cut_bit (b : B16) (n : Nat) {k : Nat} (h : k < 128) : bit (cut b n) k = (decide (k < n) && bit b k) := by
  unfold bit
  rw [cut_get b n (by omega), cutN_bit]
  congr 1
  apply decide_eq_decide.2
  omega
theorem has_bits {p : Pfx} {a : B16} {n : Nat} (hc : Clr p.adr.b n) : cut a n = p.adr.b ↔ ∀ i < n, i < 128 → bit p.adr.b i = bit a i := by
  constructor
  · intro h i hi h2
    rw [← h, cut_bit a n h2]; simp [hi]
  · intro h
    apply bits_ext
    intro k hk
    rw [cut_bit a n hk]
    by_cases hn : k < n
    · simp [hn, h k hn hk]
    · simp [hn, hc k (by omega) hk]

/-! ### Whole numbers in the machine -/
theorem quo8 (k : Nat) (h : k ≤ 9223372036854775807) : IntKind.i64.wrap ((k : Int).tdiv 8) = ((k / 8 : Nat) : Int) := by
  rw [IntWalk.i64_quo _ _ (by omega)]; omega
theorem rem8 (k : Nat) : (k : Int).tmod 8 = ((k % 8 : Nat) : Int) := by
  rw [Int.tmod_eq_emod_of_nonneg (by omega)]; omega
theorem sub7 (k : Nat) : IntKind.i64.wrap (7 - ((k % 8 : Nat) : Int)) = ((7 - k % 8 : Nat) : Int) := by
  rw [IntWalk.i64_in _ (by omega)]; omega
theorem shrN (x j : Nat) (h : j ≤ 8) : ((x : Int).fdiv (2 ^ (Nat.min j 8))) = ((x / 2 ^ j : Nat) : Int) := by
  rw [show Nat.min j 8 = j from Nat.min_eq_left h, Int.fdiv_eq_ediv_of_nonneg _ (Int.pow_nonneg (by decide))]
  simp
theorem and1 (x : Nat) (h : x < 256) : bits2 .and .u8 (x : Int) 1 = some ((x % 2 : Nat) : Int) := by
  have : ∀ x < 256, bits2 .and .u8 ((x : Nat) : Int) 1 = some ((x % 2 : Nat) : Int) := by decide +kernel
  exact this x h
theorem bit_and (b : B16) (k : Nat) : (((b.get (k / 8) / 2 ^ (7 - k % 8)) % 2 : Nat) : Int) = if bit b k then 1 else 0 := by
  unfold bit
  rw [Nat.testBit_eq_decide_div_mod_eq]
  have := Nat.mod_two_eq_zero_or_one (b.get (k / 8) / 2 ^ (7 - k % 8))
  rcases this with h | h <;> rw [h] <;> simp

theorem eqInts (k : IntKind) : ∀ (l r : List Int), l.length = r.length → eqCells (List.replicate l.length 1) (l.map (.int k)) (r.map (.int k)) = some (decide (l = r))
  | [], [], _ => rfl
  | a :: l, b :: r, h => by
    simp only [List.length_cons, List.replicate_succ, List.map_cons, eqCells, A.kindOk, if_true, eqCell, eqInts k l r (by simpa using h), List.cons.injEq, Option.some.injEq]
    by_cases h1 : a = b <;> by_cases h2 : l = r <;> simp [h1, h2]
  | [], _ :: _, h => by simp at h
  | _ :: _, [], h => by simp at h
theorem eqCells_append : ∀ (k1 k2 : List Nat) (a b c d : List AV), k1.length = a.length → a.length = c.length → eqCells (k1 ++ k2) (a ++ b) (c ++ d) = match eqCells k1 a c, eqCells k2 b d with
    | some x, some y => some (x && y)
    | _, _ => none
  | [], k2, [], b, [], d, _, _ => by
    simp only [List.nil_append, eqCells]
    cases eqCells k2 b d <;> simp
  | n :: k1, k2, x :: a, b, y :: c, d, h1, h2 => by
    simp only [List.cons_append, eqCells]
    rw [eqCells_append k1 k2 a b c d (by simpa using h1) (by simpa using h2)]
    cases A.kindOk n x <;> simp only [Bool.false_eq_true, if_false, if_true]
    cases eqCell x y <;> cases eqCells k1 a c <;> cases eqCells k2 b d <;> simp [Bool.and_assoc]
  | [], _, _ :: _, _, _, _, h, _ => by simp at h
  | _ :: _, _, [], _, _, _, h, _ => by simp at h
  | _, _, [], _, _ :: _, _, _, h => by simp at h
  | _, _, _ :: _, _, [], _, _, h => by simp at h
theorem bav_ints (b : B16) : bav b = (b.l.map (fun x : Nat => (x : Int))).map (.int .u8) := by simp only [bav, List.map_map]; rfl
theorem eq_bav (a b : B16) : eqCells [1, 1, 1, 1, 1, 1, 1, 1, 1, 1, 1, 1, 1, 1, 1, 1] (bav a) (bav b) = some (decide (a = b)) := by
  have h := eqInts .u8 (a.l.map fun x : Nat => (x : Int)) (b.l.map fun x : Nat => (x : Int)) (by simp [a.len, b.len])
  rw [← bav_ints, ← bav_ints] at h
  simp only [List.length_map, a.len] at h
  refine h.trans (congrArg some (decide_eq_decide.2 ?_))
  constructor
  · intro h
    have : a.l = b.l := List.map_inj_right (fun x y h => Int.ofNat.inj h) |>.1 h
    cases a; cases b; simp only [B16.mk.injEq]; exact this
  · intro h; rw [h]
theorem eq1 (k : IntKind) (x y : Int) : eqCells [1] [.int k x] [.int k y] = some (decide (x = y)) := by
  simp only [eqCells, A.kindOk, if_true, eqCell, Bool.and_true, Option.some.injEq]
  by_cases h : x = y <;> simp [h]
theorem eq2 (k : IntKind) (x y z w : Int) : eqCells [1, 1] [.int k x, .int k z] [.int k y, .int k w] = some (decide (x = y) && decide (z = w)) := by
  simp only [eqCells, A.kindOk, if_true, eqCell, Bool.and_true, Option.some.injEq]
  by_cases h : x = y <;> by_cases h2 : z = w <;> simp [h, h2]
theorem eq_aav (a b : Adr) : eqCells [1, 1, 1, 1, 1, 1, 1, 1, 1, 1, 1, 1, 1, 1, 1, 1, 1] (aav a) (aav b) = some (decide (a = b)) := by
  have := eqCells_append [1] [1, 1, 1, 1, 1, 1, 1, 1, 1, 1, 1, 1, 1, 1, 1, 1] [.int .i64 a.ver] (bav a.b) [.int .i64 b.ver] (bav b.b) rfl rfl
  rw [eq1, eq_bav] at this
  refine this.trans (congrArg some ?_)
  obtain ⟨v, x⟩ := a; obtain ⟨w, y⟩ := b
  by_cases h1 : v = w <;> by_cases h2 : x = y <;> simp [h1, h2]
theorem eq_pav (a b : Pfx) : eqCells [1, 1, 1, 1, 1, 1, 1, 1, 1, 1, 1, 1, 1, 1, 1, 1, 1, 1] (pav a) (pav b) = some (decide (a = b)) := by
  have := eqCells_append [1, 1, 1, 1, 1, 1, 1, 1, 1, 1, 1, 1, 1, 1, 1, 1, 1] [1] (aav a.adr) [.int .i64 a.bits] (aav b.adr) [.int .i64 b.bits] (by rw [aav_len]; rfl) (by rw [aav_len, aav_len])
  rw [eq1, eq_aav] at this
  refine this.trans (congrArg some ?_)
  obtain ⟨v, x⟩ := a; obtain ⟨w, y⟩ := b
  by_cases h1 : v = w <;> by_cases h2 : x = y <;> simp [h1, h2]
theorem eq_rav (a b : Rw) : eqCells [1, 1, 1, 1, 1, 1, 1, 1, 1, 1, 1, 1, 1, 1, 1, 1, 1, 1, 1] (rav a) (rav b) = some (decide (a = b)) := by
  have := eqCells_append [1, 1, 1, 1, 1, 1, 1, 1, 1, 1, 1, 1, 1, 1, 1, 1, 1, 1] [1] (pav a.p) [.int .i64 a.hop] (pav b.p) [.int .i64 b.hop] (by rw [pav_len]; rfl) (by rw [pav_len, pav_len])
  have e : ∀ a : Rw, pav a.p ++ [.int .i64 a.hop] = rav a := fun a => by simp [pav, rav]
  rw [eq1, eq_pav, e, e] at this
  refine this.trans (congrArg some ?_)
  obtain ⟨v, x⟩ := a; obtain ⟨w, y⟩ := b
  by_cases h1 : v = w <;> by_cases h2 : x = y <;> simp [h1, h2]

theorem and255 (x d : Nat) (hx : x < 256) (hd : d ≤ 8) : bits2 .and .u8 (x : Int) (IntKind.u8.wrap (255 * 2 ^ (Nat.min d 8))) = some ((x / 2 ^ d * 2 ^ d : Nat) : Int) := by
  have : ∀ x < 256, ∀ d < 9, bits2 .and .u8 ((x : Nat) : Int) (IntKind.u8.wrap (255 * 2 ^ (Nat.min d 8))) = some ((x / 2 ^ d * 2 ^ d : Nat) : Int) := by decide +kernel
  exact this x hx d (by omega)
def cutTo (b : B16) (n k : Nat) : B16 := gen fun i => if i < k then cutN (b.get i) (n - 8 * i) else b.get i
theorem cutTo_get (b : B16) (n k : Nat) {i : Nat} (h : i < 16) : (cutTo b n k).get i = if i < k then cutN (b.get i) (n - 8 * i) else b.get i := by
  unfold cutTo
  rw [gen_get _ h, Nat.mod_eq_of_lt]
  split
  · exact Nat.lt_of_le_of_lt (cutN_le _ _) (b.get_lt i)
  · exact b.get_lt i
theorem cutTo_0 (b : B16) (n : Nat) : cutTo b n 0 = b := B16.ext' fun i hi => by rw [cutTo_get _ _ _ hi, if_neg (by omega)]
theorem cutTo_16 (b : B16) (n : Nat) : cutTo b n 16 = cut b n := B16.ext' fun i hi => by rw [cutTo_get _ _ _ hi, if_pos hi, cut_get _ _ hi]
theorem cutTo_put (b : B16) (n k : Nat) {v : Nat} (hk : k < 16) (hv : v = cutN (b.get k) (n - 8 * k)) : (cutTo b n k).put k v = cutTo b n (k + 1) := B16.ext' fun i hi => by
  rw [B16.get_put _ hk (by rw [hv]; exact Nat.lt_of_le_of_lt (cutN_le _ _) (b.get_lt k)), cutTo_get _ _ _ hi, cutTo_get _ _ _ hi]
  by_cases h : i = k
  · subst h; simp [hv]
  · rw [if_neg h]
    by_cases h2 : i < k
    · rw [if_pos h2, if_pos (by omega)]
    · rw [if_neg h2, if_neg (by omega)]
theorem cutTo_same (b : B16) (n k : Nat) (hv : b.get k = cutN (b.get k) (n - 8 * k)) : cutTo b n k = cutTo b n (k + 1) := B16.ext' fun i hi => by
  rw [cutTo_get _ _ _ hi, cutTo_get _ _ _ hi]
  by_cases h : i = k
  · subst h; simp [← hv]
  · by_cases h2 : i < k
    · rw [if_pos h2, if_pos (by omega)]
    · rw [if_neg h2, if_neg (by omega)]
theorem bav_put0 (b : B16) {n : Nat} (hn : n < 16) : ovr (bav b) n [.int .u8 0] = some (bav (b.put n 0)) := bav_put b hn (by decide)
theorem ovr_all (l r : List AV) (h : l.length = r.length) : ovr l 0 r = some r := by
  unfold ovr; rw [if_pos (by omega)]; simp [h]
theorem bav_o (l : List AV) (b : B16) (h : l.length = 16) : ovr l 0 (bav b) = some (bav b) := ovr_all _ _ (by rw [h, bav_len])
theorem aav_o (l : List AV) (b : Adr) (h : l.length = 17) : ovr l 0 (aav b) = some (aav b) := ovr_all _ _ (by rw [h, aav_len])
theorem pav_o (l : List AV) (b : Pfx) (h : l.length = 18) : ovr l 0 (pav b) = some (pav b) := ovr_all _ _ (by rw [h, pav_len])
theorem rav_o (l : List AV) (b : Rw) (h : l.length = 19) : ovr l 0 (rav b) = some (rav b) := ovr_all _ _ (by rw [h, rav_len])
theorem aav_ob (a : Adr) (b : B16) : ovr (aav a) 1 (bav b) = some (aav ⟨a.ver, b⟩) := by
  unfold ovr; rw [if_pos (by rw [aav_len, bav_len]; omega)]
  simp only [aav, bav_len, List.take_succ_cons, List.take_zero, List.cons_append, List.nil_append, List.drop_succ_cons]
  rw [List.drop_eq_nil_of_le (by rw [bav_len]; omega)]; simp
theorem pav_oa (p : Pfx) (a : Adr) : ovr (pav p) 0 (aav a) = some (pav ⟨a, p.bits⟩) := by
  unfold ovr; rw [if_pos (by rw [pav_len, aav_len]; omega)]
  simp only [aav_len, List.take_zero, List.nil_append, Nat.zero_add]
  simp only [pav, aav, List.drop_succ_cons]
  rw [show (16 : Nat) = 16 + 0 from rfl, drop16]; rfl
theorem pav_on (p : Pfx) (n : Int) : ovr (pav p) 17 [.int .i64 n] = some (pav ⟨p.adr, n⟩) := by
  unfold ovr; rw [if_pos (by rw [pav_len]; simp)]
  have h := bav_len p.adr.b
  simp only [pav, List.take_succ_cons, List.length_cons, List.length_nil, List.drop_succ_cons]
  rw [show (bav p.adr.b ++ [AV.int IntKind.i64 p.bits]).take 16 = bav p.adr.b by rw [← h, List.take_left], show (17 : Nat) = 16 + 1 from rfl, drop16]; simp
theorem DB : (((((type_of% (@bav_len) ∧ type_of% (@aav_len)) ∧ (type_of% (@pav_len) ∧ type_of% (@rav_len))) ∧ ((type_of% (@bav_data) ∧ type_of% (@aav_data)) ∧ (type_of% (@pav_data) ∧ type_of% (@rav_data)))) ∧ (((type_of% (@bav_p) ∧ type_of% (@aav_p)) ∧ (type_of% (@pav_p) ∧ type_of% (@rav_p))) ∧ ((type_of% (@aav_v) ∧ type_of% (@pav_v)) ∧ (type_of% (@rav_v) ∧ (type_of% (@aav_b) ∧ type_of% (@pav_b)))))) ∧ ((((type_of% (@rav_b) ∧ type_of% (@pav_a)) ∧ (type_of% (@rav_a) ∧ type_of% (@pav_n))) ∧ ((type_of% (@rav_n) ∧ type_of% (@rav_h)) ∧ (type_of% (@rav_pf) ∧ (type_of% (@bav_o) ∧ type_of% (@pav_o))))) ∧ (((type_of% (@aav_o) ∧ type_of% (@rav_o)) ∧ (type_of% (@aav_ob) ∧ type_of% (@pav_oa))) ∧ ((type_of% (@pav_on) ∧ type_of% (@eq_bav)) ∧ (type_of% (@eq_aav) ∧ (type_of% (@eq_pav) ∧ type_of% (@eq_rav))))))) := ⟨⟨⟨⟨⟨@bav_len, @aav_len⟩, ⟨@pav_len, @rav_len⟩⟩, ⟨⟨@bav_data, @aav_data⟩, ⟨@pav_data, @rav_data⟩⟩⟩, ⟨⟨⟨@bav_p, @aav_p⟩, ⟨@pav_p, @rav_p⟩⟩, ⟨⟨@aav_v, @pav_v⟩, ⟨@rav_v, ⟨@aav_b, @pav_b⟩⟩⟩⟩⟩, ⟨⟨⟨⟨@rav_b, @pav_a⟩, ⟨@rav_a, @pav_n⟩⟩, ⟨⟨@rav_n, @rav_h⟩, ⟨@rav_pf, ⟨@bav_o, @pav_o⟩⟩⟩⟩, ⟨⟨⟨@aav_o, @rav_o⟩, ⟨@aav_ob, @pav_oa⟩⟩, ⟨⟨@pav_on, @eq_bav⟩, ⟨@eq_aav, ⟨@eq_pav, @eq_rav⟩⟩⟩⟩⟩⟩
theorem LPB : ((((type_of% (@refs_int) ∧ (type_of% (@refs_bool) ∧ type_of% (@refs_str))) ∧ ((type_of% (@refs_ro) ∧ type_of% (@refs_clip)) ∧ (type_of% (@refs_nilf) ∧ type_of% (@refs_nilp)))) ∧ ((type_of% (@refs_rp) ∧ (type_of% (@refs_yld) ∧ type_of% (@refs_refs))) ∧ ((type_of% (@refs_rq) ∧ type_of% (@belowR_nil)) ∧ (type_of% (@belowR_cons) ∧ type_of% (@refs_ptr))))) ∧ (((type_of% (@refs_lis) ∧ (type_of% (@refs_clo) ∧ type_of% (@refs_agg))) ∧ ((type_of% (@refs_tup) ∧ type_of% (@below_nil)) ∧ (type_of% (@below_cons) ∧ type_of% (@bref_dead)))) ∧ (((type_of% (@bref_box) ∧ type_of% (@bref_lst)) ∧ (type_of% (@ball_nil) ∧ type_of% (@ball_cons))) ∧ ((type_of% (@bav_below) ∧ type_of% (@aav_below)) ∧ (type_of% (@pav_below) ∧ type_of% (@rav_below)))))) := ⟨⟨⟨⟨@refs_int, ⟨@refs_bool, @refs_str⟩⟩, ⟨⟨@refs_ro, @refs_clip⟩, ⟨@refs_nilf, @refs_nilp⟩⟩⟩, ⟨⟨@refs_rp, ⟨@refs_yld, @refs_refs⟩⟩, ⟨⟨@refs_rq, @belowR_nil⟩, ⟨@belowR_cons, @refs_ptr⟩⟩⟩⟩, ⟨⟨⟨@refs_lis, ⟨@refs_clo, @refs_agg⟩⟩, ⟨⟨@refs_tup, @below_nil⟩, ⟨@below_cons, @bref_dead⟩⟩⟩, ⟨⟨⟨@bref_box, @bref_lst⟩, ⟨@ball_nil, @ball_cons⟩⟩, ⟨⟨@bav_below, @aav_below⟩, ⟨@pav_below, @rav_below⟩⟩⟩⟩⟩
end Go.Proofs.YtdllnneeopbmdaaDoor.D

/- The order of prefixes, as data. No condition. -/
set_option linter.unusedSimpArgs false
namespace Go.Proofs.YtdllnneeopbmdaaDoor.D
open Go Go.Proofs.YtdllnneeopbmdaaDoor.A
def lexL : List Int → List Int → Int
  | a :: l, b :: r => if a < b then -1 else if b < a then 1 else lexL l r
  | _, _ => 0
def ints (b : B16) : List Int := b.l.map fun x : Nat => (x : Int)
def key (p : Pfx) : List Int := p.adr.ver :: (ints p.adr.b ++ [p.bits])
def cmpP (p q : Pfx) : Int := lexL (key p) (key q)
theorem ints_len (b : B16) : (ints b).length = 16 := by simp [ints, b.len]
theorem key_len (p : Pfx) : (key p).length = 18 := by simp [key, ints_len]
theorem lex_bytes : ∀ (l r : List Nat), l.length = r.length → (∀ x ∈ l, x < 256) → (∀ x ∈ r, x < 256) → Lib.compareBytes (l.map Nat.toUInt8) (r.map Nat.toUInt8) = lexL (l.map fun x : Nat => (x : Int)) (r.map fun x : Nat => (x : Int))
  | [], [], _, _, _ => rfl
  | a :: l, b :: r, h, h1, h2 => by
    have ih := lex_bytes l r (by simpa using h) (fun x hx => h1 x (List.mem_cons_of_mem _ hx)) (fun x hx => h2 x (List.mem_cons_of_mem _ hx))
    have ha := h1 a List.mem_cons_self
    have hb := h2 b List.mem_cons_self
    simp only [List.map_cons, lexL, Lib.compareBytes, ih]
    have e : ∀ x y : Nat, x < 256 → y < 256 → (x.toUInt8 < y.toUInt8 ↔ (x : Int) < (y : Int)) := fun x y hx hy => by
      rw [UInt8.lt_iff_toNat_lt]
      simp only [Nat.toUInt8_eq, UInt8.toNat_ofNat', Nat.reducePow]
      rw [Nat.mod_eq_of_lt hx, Nat.mod_eq_of_lt hy]; omega
    simp only [e a b ha hb, e b a hb ha]
  | [], _ :: _, h, _, _ => by simp at h
  | _ :: _, [], h, _, _ => by simp at h
def brows (b : B16) : List (List AV) := (bav b).map fun c => [c]
theorem brows_bytes (b : B16) : (brows b).mapM A.byteOf = some (b.l.map Nat.toUInt8) := by
  unfold brows bav
  rw [List.map_map]
  have : ∀ l : List Nat, (l.map ((fun c => [c]) ∘ u8c)).mapM A.byteOf = some (l.map Nat.toUInt8) := fun l => by
    induction l with
    | nil => rfl
    | cons a l ih => rw [List.map_cons, mapO_cons, ih]; rfl
  exact this b.l
theorem cmp_b16 (a b : B16) : pCmp [.ro (brows a), .ro (brows b)] [] = some (.int .i64 (lexL (ints a) (ints b)), []) := by
  simp only [pCmp, rowsOf, brows_bytes]
  rw [Lib.cmp_eq]
  exact congrArg (fun x => some (AV.int .i64 x, [])) (lex_bytes a.l b.l (by rw [a.len, b.len]) a.rng b.rng)
theorem lex_range : ∀ l r, lexL l r = -1 ∨ lexL l r = 0 ∨ lexL l r = 1
  | a :: l, b :: r => by
    unfold lexL
    split
    · exact Or.inl rfl
    · split
      · exact Or.inr (Or.inr rfl)
      · exact lex_range l r
  | [], _ => Or.inr (Or.inl rfl)
  | _ :: _, [] => Or.inr (Or.inl rfl)
theorem lex_append : ∀ (a b c d : List Int), a.length = b.length → lexL (a ++ c) (b ++ d) = if lexL a b ≠ 0 then lexL a b else lexL c d
  | [], [], c, d, _ => by simp [lexL]
  | x :: a, y :: b, c, d, h => by
    simp only [List.cons_append, lexL, lex_append a b c d (by simpa using h)]
    by_cases h1 : x < y
    · simp [h1]
    · by_cases h2 : y < x
      · simp [h1, h2]
      · simp [h1, h2]
  | [], _ :: _, _, _, h => by simp at h
  | _ :: _, [], _, _, h => by simp at h
theorem mutIds_data {l : List AV} (h : dataL l = true) : mutIds l = [] := by
  induction l with
  | nil => rfl
  | cons a l ih =>
    simp only [data_cons, Bool.and_eq_true] at h
    cases a <;> first | exact ih h.2 | (have := h.1; cases this)
theorem mutIds_pav (p : Pfx) : mutIds (pav p) = [] := mutIds_data (pav_data p)
theorem mutIds_aav (p : Adr) : mutIds (aav p) = [] := mutIds_data (aav_data p)
theorem mutIds_rav (p : Rw) : mutIds (rav p) = [] := mutIds_data (rav_data p)
theorem mutIds_bav (p : B16) : mutIds (bav p) = [] := mutIds_data (bav_data p)
theorem lex_anti : ∀ l r : List Int, lexL l r = - lexL r l
  | a :: l, b :: r => by
    simp only [lexL]
    by_cases h1 : a < b
    · simp [h1, show ¬ b < a by omega]
    · by_cases h2 : b < a
      · simp [h1, h2]
      · simp [h1, h2, lex_anti l r]
  | [], [] => rfl
  | [], _ :: _ => rfl
  | _ :: _, [] => rfl
theorem lex_self (l : List Int) : lexL l l = 0 := by
  have := lex_anti l l; omega
theorem lex_zero : ∀ {l r : List Int}, l.length = r.length → lexL l r = 0 → l = r
  | [], [], _, _ => rfl
  | a :: l, b :: r, h, h0 => by
    simp only [lexL] at h0
    by_cases h1 : a < b
    · simp [h1] at h0
    · by_cases h2 : b < a
      · simp [h1, h2] at h0
      · simp only [h1, h2, if_false] at h0
        rw [lex_zero (by simpa using h) h0, show a = b by omega]
  | [], _ :: _, h, _ => by simp at h
  | _ :: _, [], h, _ => by simp at h
theorem lex_trans : ∀ {l r s : List Int}, l.length = r.length → r.length = s.length → lexL l r < 0 → lexL r s < 0 → lexL l s < 0
  | [], [], [], _, _, h, _ => by simp [lexL] at h
  | a :: l, b :: r, c :: s, h1, h2, h3, h4 => by
    simp only [lexL] at h3 h4 ⊢
    have ih := lex_trans (l := l) (r := r) (s := s) (by simpa using h1) (by simpa using h2)
    by_cases e1 : a < b
    · by_cases e2 : b < c
      · simp [show a < c by omega]
      · by_cases e3 : c < b
        · simp [e2, e3] at h4
        · simp [show a < c by omega]
    · by_cases e2 : b < a
      · simp [e1, e2] at h3
      · simp only [e1, e2, if_false] at h3
        by_cases e3 : b < c
        · simp [show a < c by omega]
        · by_cases e4 : c < b
          · simp [e3, e4] at h4
          · simp only [e3, e4, if_false] at h4
            simp only [show ¬ a < c by omega, show ¬ c < a by omega, if_false]
            exact ih h3 h4
  | [], _ :: _, _, h, _, _, _ => by simp at h
  | _ :: _, [], _, h, _, _, _ => by simp at h
  | _, [], _ :: _, _, h, _, _ => by simp at h
  | _, _ :: _, [], _, h, _, _ => by simp at h
theorem key_inj {p q : Pfx} (h : key p = key q) : p = q := by
  obtain ⟨⟨v, ⟨l, hl, _⟩⟩, n⟩ := p
  obtain ⟨⟨w, ⟨r, hr, _⟩⟩, m⟩ := q
  simp only [key, ints, List.cons.injEq] at h
  obtain ⟨rfl, h⟩ := h
  obtain ⟨h1, h2⟩ := List.append_inj h (by simp [hl, hr])
  have h3 : l = r := (List.map_inj_right (fun x y h => Int.ofNat.inj h)).1 h1
  subst h3
  simp only [List.cons.injEq, and_true] at h2
  subst h2; rfl
theorem cmp_anti (p q : Pfx) : cmpP p q = - cmpP q p := lex_anti _ _
theorem cmp_self (p : Pfx) : cmpP p p = 0 := lex_self _
theorem cmp_zero {p q : Pfx} (h : cmpP p q = 0) : p = q := key_inj (lex_zero (by rw [key_len, key_len]) h)
theorem cmp_trans {p q r : Pfx} (h1 : cmpP p q < 0) (h2 : cmpP q r < 0) : cmpP p r < 0 := lex_trans (by rw [key_len, key_len]) (by rw [key_len, key_len]) h1 h2
theorem cmp_range (p q : Pfx) : cmpP p q = -1 ∨ cmpP p q = 0 ∨ cmpP p q = 1 := lex_range _ _
end Go.Proofs.YtdllnneeopbmdaaDoor.D
namespace Go.Proofs.YtdllnneeopbmdaaDoor.F
open Go Go.Proofs.YtdllnneeopbmdaaDoor.A Go.Proofs.YtdllnneeopbmdaaDoor.D
def cmpI (a b : Int) : Int := if a < b then -1 else if b < a then 1 else 0
theorem lex1 (a b : Int) : lexL [a] [b] = cmpI a b := by simp only [lexL, cmpI]
theorem cmp_key (p q : Pfx) : cmpP p q = if cmpI p.adr.ver q.adr.ver ≠ 0 then cmpI p.adr.ver q.adr.ver else if lexL (ints p.adr.b) (ints q.adr.b) ≠ 0 then lexL (ints p.adr.b) (ints q.adr.b) else cmpI p.bits q.bits := by
  have := lex_append [p.adr.ver] [q.adr.ver] (ints p.adr.b ++ [p.bits]) (ints q.adr.b ++ [q.bits]) rfl
  rw [lex_append (ints p.adr.b) (ints q.adr.b) _ _ (by rw [ints_len, ints_len]), lex1, lex1] at this
  exact this
end Go.Proofs.YtdllnneeopbmdaaDoor.F

/- What the evaluator is told of a comparison, ahead of the sort. No condition. -/
namespace Go.Proofs.YtdllnneeopbmdaaDoor.F0
open Go Go.Proofs.YtdllnneeopbmdaaDoor.A Go.Proofs.YtdllnneeopbmdaaDoor.F
def fns : FuncId → Option AFunc
  | 66 => some f66
  | 68 => some f68
  | 69 => some f69
  | 70 => some f70
  | 92 => some f92
  | 93 => some f93
  | 96 => some f96
  | 101 => some f101
  | _ => none
def prims : FuncId → Option (List AV → List Blk → Option (AV × List Blk))
  | 102 => some (pCmp)
  | _ => none
def E : Env := ⟨fns, prims⟩
theorem envOk : EnvOk Tryd.prog G E := by
  refine ⟨fun f af _ h => ?_, fun f p h => ?_⟩
  · show ∃ fm g, _
    change fns f = some af at h
    unfold fns at h
    split at h
    · cases h; exact ⟨Tryd.f66, f66, Tryd.func66, by kernel_rfl, c66⟩
    · cases h; exact ⟨Tryd.f68, f68, Tryd.func68, by kernel_rfl, c68⟩
    · cases h; exact ⟨Tryd.f69, f69, Tryd.func69, by kernel_rfl, c69⟩
    · cases h; exact ⟨Tryd.f70, f70, Tryd.func70, by kernel_rfl, c70⟩
    · cases h; exact ⟨Tryd.f92, f92, Tryd.func92, by kernel_rfl, c92⟩
    · cases h; exact ⟨Tryd.f93, f93, Tryd.func93, by kernel_rfl, c93⟩
    · cases h; exact ⟨Tryd.f96, f96, Tryd.func96, by kernel_rfl, c96⟩
    · cases h; exact ⟨Tryd.f101, f101, Tryd.func101, by kernel_rfl, c101⟩
    · cases h
  · change prims f = some p at h
    unfold prims at h
    split at h
    · cases h; exact pCmp_ok Tryd.func102 (by kernel_rfl) (by kernel_rfl) (by kernel_rfl) (by kernel_rfl)
    · cases h
end Go.Proofs.YtdllnneeopbmdaaDoor.F0

/- The comparison of prefixes, ahead of the sort. No condition. -/
set_option linter.unusedSimpArgs false
namespace Go.Proofs.YtdllnneeopbmdaaDoor.F0
open Go Go.Proofs.YtdllnneeopbmdaaDoor.A Go.Proofs.YtdllnneeopbmdaaDoor.D Go.Proofs.YtdllnneeopbmdaaDoor.F
theorem e_cmp_isNaN_int (v : Int) : LV E 101 [.int .i64 v] = some (.bool false) := by
  rw [LV_R (fn := f101) rfl rfl rfl]
  simp only [f101, RB, pickV, eqbV, notV, negV, convV, faddrV, fldV, idxV, eqaggV, iaddrV, isnilV, nilckV, cloV, extrV, slenV, minV, sidxV, abin, cmpInt, params, growLists, fillCells, newAt, rdPtr, wrPtr, AV.cells, asVal, lenOf, boundOf, rowsOf, argIds, freshIn, scalar1, setAll, AV.isData, AV.isYld, Nat.reduceAdd, Nat.reduceMul, Nat.reduceSub, Nat.reduceEqDiff, Nat.reduceLeDiff, Nat.reduceLT, Int.reduceNeg, ↓reduceIte, reduceCtorEq, Int.reduceEq, Int.reduceLT, Int.reduceLE, Int.reduceBEq, Int.reduceBNe, Int.reduceToNat, IntKind.bits, Int.reduceAdd, Int.reduceSub, Int.reduceMul, Int.reduceTDiv, Int.reduceTMod, bne_self_eq_false]
theorem e_cmp_Compare_int (a b : Int) : LV E 92 [.int .i64 a, .int .i64 b] = some (.int .i64 (cmpI a b)) := by
  rw [LV_R (fn := f92) rfl rfl rfl]
  simp only [f92, RB, pickV, eqbV, notV, negV, convV, faddrV, fldV, idxV, eqaggV, iaddrV, isnilV, nilckV, cloV, extrV, slenV, minV, sidxV, abin, cmpInt, params, growLists, fillCells, newAt, rdPtr, wrPtr, AV.cells, asVal, lenOf, boundOf, rowsOf, argIds, freshIn, scalar1, setAll, AV.isData, AV.isYld, Nat.reduceAdd, Nat.reduceMul, Nat.reduceSub, Nat.reduceEqDiff, Nat.reduceLeDiff, Nat.reduceLT, Int.reduceNeg, ↓reduceIte, reduceCtorEq, Int.reduceEq, Int.reduceLT, Int.reduceLE, Int.reduceBEq, Int.reduceBNe, Int.reduceToNat, IntKind.bits, Int.reduceAdd, Int.reduceSub, Int.reduceMul, Int.reduceTDiv, Int.reduceTMod, e_cmp_isNaN_int]
  (repeat' (first
    | (refine Ci_cases (fun h => ?_) (fun h => ?_) <;> simp only [h, RB, pickV, eqbV, notV, negV, convV, faddrV, fldV, idxV, eqaggV, iaddrV, isnilV, nilckV, cloV, extrV, slenV, minV, sidxV, abin, cmpInt, params, growLists, fillCells, newAt, rdPtr, wrPtr, AV.cells, asVal, lenOf, boundOf, rowsOf, argIds, freshIn, scalar1, setAll, AV.isData, AV.isYld, Nat.reduceAdd, Nat.reduceMul, Nat.reduceSub, Nat.reduceEqDiff, Nat.reduceLeDiff, Nat.reduceLT, Int.reduceNeg, ↓reduceIte, reduceCtorEq, Int.reduceEq, Int.reduceLT, Int.reduceLE, Int.reduceBEq, Int.reduceBNe, Int.reduceToNat, IntKind.bits, Int.reduceAdd, Int.reduceSub, Int.reduceMul, Int.reduceTDiv, Int.reduceTMod])
    | (refine Gi_cases (fun h => ?_) (fun h => ?_) <;> simp only [h, RB, pickV, eqbV, notV, negV, convV, faddrV, fldV, idxV, eqaggV, iaddrV, isnilV, nilckV, cloV, extrV, slenV, minV, sidxV, abin, cmpInt, params, growLists, fillCells, newAt, rdPtr, wrPtr, AV.cells, asVal, lenOf, boundOf, rowsOf, argIds, freshIn, scalar1, setAll, AV.isData, AV.isYld, Nat.reduceAdd, Nat.reduceMul, Nat.reduceSub, Nat.reduceEqDiff, Nat.reduceLeDiff, Nat.reduceLT, Int.reduceNeg, ↓reduceIte, reduceCtorEq, Int.reduceEq, Int.reduceLT, Int.reduceLE, Int.reduceBEq, Int.reduceBNe, Int.reduceToNat, IntKind.bits, Int.reduceAdd, Int.reduceSub, Int.reduceMul, Int.reduceTDiv, Int.reduceTMod])
    | (refine Gj_cases (fun h => ?_) (fun h => ?_) <;> simp only [h, RB, pickV, eqbV, notV, negV, convV, faddrV, fldV, idxV, eqaggV, iaddrV, isnilV, nilckV, cloV, extrV, slenV, minV, sidxV, abin, cmpInt, params, growLists, fillCells, newAt, rdPtr, wrPtr, AV.cells, asVal, lenOf, boundOf, rowsOf, argIds, freshIn, scalar1, setAll, AV.isData, AV.isYld, Nat.reduceAdd, Nat.reduceMul, Nat.reduceSub, Nat.reduceEqDiff, Nat.reduceLeDiff, Nat.reduceLT, Int.reduceNeg, ↓reduceIte, reduceCtorEq, Int.reduceEq, Int.reduceLT, Int.reduceLE, Int.reduceBEq, Int.reduceBNe, Int.reduceToNat, IntKind.bits, Int.reduceAdd, Int.reduceSub, Int.reduceMul, Int.reduceTDiv, Int.reduceTMod])))
  all_goals (simp only [decide_eq_true_eq, decide_eq_false_iff_not] at *; simp only [cmpI, Option.some.injEq, AV.int.injEq, true_and]; (repeat split) <;> omega)
theorem e_bytes_Compare (a b : B16) : LV E 93 [.ro (brows a), .ro (brows b)] = some (.int .i64 (lexL (ints a) (ints b))) := by
  rw [LV_R (fn := f93) rfl rfl rfl]
  have h : LV E 102 [.ro (brows a), .ro (brows b)] = some (.int .i64 (lexL (ints a) (ints b))) := by
    rw [LV_prim (p := pCmp) rfl, cmp_b16]; rfl
  simp only [f93, RB, pickV, eqbV, notV, negV, convV, faddrV, fldV, idxV, eqaggV, iaddrV, isnilV, nilckV, cloV, extrV, slenV, minV, sidxV, abin, cmpInt, params, growLists, fillCells, newAt, rdPtr, wrPtr, AV.cells, asVal, lenOf, boundOf, rowsOf, argIds, freshIn, scalar1, setAll, AV.isData, AV.isYld, Nat.reduceAdd, Nat.reduceMul, Nat.reduceSub, Nat.reduceEqDiff, Nat.reduceLeDiff, Nat.reduceLT, Int.reduceNeg, ↓reduceIte, reduceCtorEq, Int.reduceEq, Int.reduceLT, Int.reduceLE, Int.reduceBEq, Int.reduceBNe, Int.reduceToNat, IntKind.bits, Int.reduceAdd, Int.reduceSub, Int.reduceMul, Int.reduceTDiv, Int.reduceTMod, h]
theorem e_cmp_Or_int (a b c : Int) : LV E 69 [.clip [[.int .i64 a], [.int .i64 b], [.int .i64 c]]] = some (.int .i64 (if a ≠ 0 then a else if b ≠ 0 then b else c)) := by
  rw [LV_R (fn := f69) rfl rfl rfl]
  simp only [f69, RB, pickV, eqbV, notV, negV, convV, faddrV, fldV, idxV, eqaggV, iaddrV, isnilV, nilckV, cloV, extrV, slenV, minV, sidxV, abin, cmpInt, params, growLists, fillCells, newAt, rdPtr, wrPtr, AV.cells, asVal, lenOf, boundOf, rowsOf, argIds, freshIn, scalar1, setAll, AV.isData, AV.isYld, Nat.reduceAdd, Nat.reduceMul, Nat.reduceSub, Nat.reduceEqDiff, Nat.reduceLeDiff, Nat.reduceLT, Int.reduceNeg, ↓reduceIte, reduceCtorEq, Int.reduceEq, Int.reduceLT, Int.reduceLE, Int.reduceBEq, Int.reduceBNe, Int.reduceToNat, IntKind.bits, Int.reduceAdd, Int.reduceSub, Int.reduceMul, Int.reduceTDiv, Int.reduceTMod]
  by_cases ha : a = 0
  · subst ha
    by_cases hb : b = 0
    · subst hb
      by_cases hc : c = 0
      · subst hc
        simp only [RB, pickV, eqbV, notV, negV, convV, faddrV, fldV, idxV, eqaggV, iaddrV, isnilV, nilckV, cloV, extrV, slenV, minV, sidxV, abin, cmpInt, params, growLists, fillCells, newAt, rdPtr, wrPtr, AV.cells, asVal, lenOf, boundOf, rowsOf, argIds, freshIn, scalar1, setAll, AV.isData, AV.isYld, Nat.reduceAdd, Nat.reduceMul, Nat.reduceSub, Nat.reduceEqDiff, Nat.reduceLeDiff, Nat.reduceLT, Int.reduceNeg, ↓reduceIte, reduceCtorEq, Int.reduceEq, Int.reduceLT, Int.reduceLE, Int.reduceBEq, Int.reduceBNe, Int.reduceToNat, IntKind.bits, Int.reduceAdd, Int.reduceSub, Int.reduceMul, Int.reduceTDiv, Int.reduceTMod, W_go, LPB, bne_self_eq_false, Nat.le_refl, IntWalk.i64_in]
      · simp only [RB, pickV, eqbV, notV, negV, convV, faddrV, fldV, idxV, eqaggV, iaddrV, isnilV, nilckV, cloV, extrV, slenV, minV, sidxV, abin, cmpInt, params, growLists, fillCells, newAt, rdPtr, wrPtr, AV.cells, asVal, lenOf, boundOf, rowsOf, argIds, freshIn, scalar1, setAll, AV.isData, AV.isYld, Nat.reduceAdd, Nat.reduceMul, Nat.reduceSub, Nat.reduceEqDiff, Nat.reduceLeDiff, Nat.reduceLT, Int.reduceNeg, ↓reduceIte, reduceCtorEq, Int.reduceEq, Int.reduceLT, Int.reduceLE, Int.reduceBEq, Int.reduceBNe, Int.reduceToNat, IntKind.bits, Int.reduceAdd, Int.reduceSub, Int.reduceMul, Int.reduceTDiv, Int.reduceTMod, W_go, LPB, bne_self_eq_false, bne_iff_ne.2 hc, Nat.le_refl]
    · simp only [RB, pickV, eqbV, notV, negV, convV, faddrV, fldV, idxV, eqaggV, iaddrV, isnilV, nilckV, cloV, extrV, slenV, minV, sidxV, abin, cmpInt, params, growLists, fillCells, newAt, rdPtr, wrPtr, AV.cells, asVal, lenOf, boundOf, rowsOf, argIds, freshIn, scalar1, setAll, AV.isData, AV.isYld, Nat.reduceAdd, Nat.reduceMul, Nat.reduceSub, Nat.reduceEqDiff, Nat.reduceLeDiff, Nat.reduceLT, Int.reduceNeg, ↓reduceIte, reduceCtorEq, Int.reduceEq, Int.reduceLT, Int.reduceLE, Int.reduceBEq, Int.reduceBNe, Int.reduceToNat, IntKind.bits, Int.reduceAdd, Int.reduceSub, Int.reduceMul, Int.reduceTDiv, Int.reduceTMod, W_go, LPB, bne_self_eq_false, bne_iff_ne.2 hb, hb]
  · simp only [RB, pickV, eqbV, notV, negV, convV, faddrV, fldV, idxV, eqaggV, iaddrV, isnilV, nilckV, cloV, extrV, slenV, minV, sidxV, abin, cmpInt, params, growLists, fillCells, newAt, rdPtr, wrPtr, AV.cells, asVal, lenOf, boundOf, rowsOf, argIds, freshIn, scalar1, setAll, AV.isData, AV.isYld, Nat.reduceAdd, Nat.reduceMul, Nat.reduceSub, Nat.reduceEqDiff, Nat.reduceLeDiff, Nat.reduceLT, Int.reduceNeg, ↓reduceIte, reduceCtorEq, Int.reduceEq, Int.reduceLT, Int.reduceLE, Int.reduceBEq, Int.reduceBNe, Int.reduceToNat, IntKind.bits, Int.reduceAdd, Int.reduceSub, Int.reduceMul, Int.reduceTDiv, Int.reduceTMod, W_go, LPB, bne_self_eq_false, bne_iff_ne.2 ha, ha]
theorem e_prefix_Compare (p q : Pfx) : LV E 66 [.agg (pav p), .agg (pav q)] = some (.int .i64 (cmpP p q)) := by
  rw [LV_R (fn := f66) rfl rfl rfl]
  have hb : ∀ b : B16, (bav b).map (fun c => [c]) = brows b := fun _ => rfl
  simp only [f66, RB, pickV, eqbV, notV, negV, convV, faddrV, fldV, idxV, eqaggV, iaddrV, isnilV, nilckV, cloV, extrV, slenV, minV, sidxV, abin, cmpInt, params, growLists, fillCells, newAt, rdPtr, wrPtr, AV.cells, asVal, lenOf, boundOf, rowsOf, argIds, freshIn, scalar1, setAll, AV.isData, AV.isYld, Nat.reduceAdd, Nat.reduceMul, Nat.reduceSub, Nat.reduceEqDiff, Nat.reduceLeDiff, Nat.reduceLT, Int.reduceNeg, ↓reduceIte, reduceCtorEq, Int.reduceEq, Int.reduceLT, Int.reduceLE, Int.reduceBEq, Int.reduceBNe, Int.reduceToNat, IntKind.bits, Int.reduceAdd, Int.reduceSub, Int.reduceMul, Int.reduceTDiv, Int.reduceTMod, DB, e_cmp_Compare_int, aop, O_buildSlq, quietOk, hb, e_bytes_Compare, e_cmp_Or_int, fillRows, asData]
  rw [cmp_key]
end Go.Proofs.YtdllnneeopbmdaaDoor.F0

/- Counts, counted prefixes and tallies as data, and their cells. No condition. -/
set_option linter.unusedSimpArgs false
namespace Go.Proofs.YtdllnneeopbmdaaDoor.D
open Go Go.Proofs.YtdllnneeopbmdaaDoor.A
structure Cnt where
  pk : Int
  by' : Int
  deriving DecidableEq
structure Cd where
  p : Pfx
  c : Cnt
  deriving DecidableEq
def zerN : Cnt := ⟨0, 0⟩
def zerD : Cd := ⟨zerP, zerN⟩
def nav (c : Cnt) : List AV := [.int .u64 c.pk, .int .u64 c.by']
def dav (r : Cd) : List AV := .int .i64 r.p.adr.ver :: (bav r.p.adr.b ++ (.int .i64 r.p.bits :: nav r.c))
theorem nav_zer : nav zerN = [.int .u64 0, .int .u64 0] := rfl
theorem dav_zer : dav zerD = .int .i64 0 :: .int .u8 0 :: .int .u8 0 :: .int .u8 0 :: .int .u8 0 :: .int .u8 0 :: .int .u8 0 :: .int .u8 0 :: .int .u8 0 :: .int .u8 0 :: .int .u8 0 :: .int .u8 0 :: .int .u8 0 :: .int .u8 0 :: .int .u8 0 :: .int .u8 0 :: .int .u8 0 :: .int .i64 0 :: nav zerN := rfl
theorem dav_eq (r : Cd) : dav r = pav r.p ++ nav r.c := by simp [dav, pav]
theorem nav_len (c : Cnt) : (nav c).length = 2 := rfl
theorem dav_len (r : Cd) : (dav r).length = 20 := by simp [dav, bav_len, nav_len]
theorem nav_data (c : Cnt) : dataL (nav c) = true := rfl
theorem dav_data (r : Cd) : dataL (dav r) = true := by rw [dav_eq, all_data, pav_data, nav_data]; rfl
theorem nav_below (m : Nat) (b : Cnt) : belowL m (nav b) = true := below_data m (nav_data b)
theorem dav_below (m : Nat) (b : Cd) : belowL m (dav b) = true := below_data m (dav_data b)
theorem nav_p (c : Cnt) : piece (nav c) 0 2 = some (nav c) := pc_all _ _ (nav_len c)
theorem dav_p (r : Cd) : piece (dav r) 0 20 = some (dav r) := pc_all _ _ (dav_len r)
theorem nav_0 (c : Cnt) : piece (nav c) 0 1 = some [.int .u64 c.pk] := rfl
theorem nav_1 (c : Cnt) : piece (nav c) 1 1 = some [.int .u64 c.by'] := rfl
theorem dav_pf (r : Cd) : piece (dav r) 0 18 = some (pav r.p) := by
  unfold piece; rw [if_pos (by rw [dav_len]; omega), dav_eq]
  simp only [List.drop_zero, Option.some.injEq]
  rw [← pav_len r.p, List.take_left]
theorem dav_c (r : Cd) : piece (dav r) 18 2 = some (nav r.c) := by
  unfold piece; rw [if_pos (by rw [dav_len]; omega), dav_eq]
  rw [← pav_len r.p, List.drop_left]; rfl
theorem dav_0 (r : Cd) : piece (dav r) 18 1 = some [.int .u64 r.c.pk] := by
  unfold piece; rw [if_pos (by rw [dav_len]; omega), dav_eq]
  rw [← pav_len r.p, List.drop_left]; rfl
theorem dav_1 (r : Cd) : piece (dav r) 19 1 = some [.int .u64 r.c.by'] := by
  unfold piece; rw [if_pos (by rw [dav_len]; omega), dav_eq]
  rw [← List.drop_drop (i := 1) (j := 18), ← pav_len r.p, List.drop_left]; rfl
theorem nav_o (l : List AV) (c : Cnt) (h : l.length = 2) : ovr l 0 (nav c) = some (nav c) := ovr_all _ _ (by rw [h, nav_len])
theorem nav_o0 (c : Cnt) (x : Int) : ovr (nav c) 0 [.int .u64 x] = some (nav ⟨x, c.by'⟩) := rfl
theorem nav_o1 (c : Cnt) (x : Int) : ovr (nav c) 1 [.int .u64 x] = some (nav ⟨c.pk, x⟩) := rfl
theorem dav_o (l : List AV) (r : Cd) (h : l.length = 20) : ovr l 0 (dav r) = some (dav r) := ovr_all _ _ (by rw [h, dav_len])
theorem dav_oc (r : Cd) (c : Cnt) : ovr (dav r) 18 (nav c) = some (dav ⟨r.p, c⟩) := by
  unfold ovr; rw [if_pos (by rw [dav_len, nav_len]; omega)]
  rw [dav_eq, dav_eq, show (18 : Nat) = (pav r.p).length by rw [pav_len], List.take_left]
  rw [show (pav r.p).length + (nav c).length = (pav r.p ++ nav r.c).length by simp [nav_len], List.drop_length, List.append_nil]
theorem dav_op (r : Cd) (p : Pfx) : ovr (dav r) 0 (pav p) = some (dav ⟨p, r.c⟩) := by
  unfold ovr; rw [if_pos (by rw [dav_len, pav_len]; omega)]
  rw [dav_eq, dav_eq, List.take_zero, List.nil_append, pav_len, Nat.zero_add, show (18 : Nat) = (pav r.p).length by rw [pav_len], List.drop_left]
theorem eq_nav (a b : Cnt) : eqCells [1, 1] (nav a) (nav b) = some (decide (a = b)) := by
  obtain ⟨v, x⟩ := a; obtain ⟨w, y⟩ := b
  refine (eq2 .u64 v w x y).trans (congrArg some ?_)
  by_cases h1 : v = w <;> by_cases h2 : x = y <;> simp [h1, h2]
theorem eq_dav (a b : Cd) : eqCells [1, 1, 1, 1, 1, 1, 1, 1, 1, 1, 1, 1, 1, 1, 1, 1, 1, 1, 1, 1] (dav a) (dav b) = some (decide (a = b)) := by
  have := eqCells_append [1, 1, 1, 1, 1, 1, 1, 1, 1, 1, 1, 1, 1, 1, 1, 1, 1, 1] [1, 1] (pav a.p) (nav a.c) (pav b.p) (nav b.c) (by rw [pav_len]; rfl) (by rw [pav_len, pav_len])
  rw [eq_nav, eq_pav, ← dav_eq, ← dav_eq] at this
  refine this.trans (congrArg some ?_)
  obtain ⟨v, x⟩ := a; obtain ⟨w, y⟩ := b
  by_cases h1 : v = w <;> by_cases h2 : x = y <;> simp [h1, h2]

def drows (l : List Cd) : List (List AV) := l.map dav
def dow (l : List Cd) (i : Nat) : Cd := l.getD i zerD
theorem drows_len (l : List Cd) : (drows l).length = l.length := by simp [drows]
theorem dow_some (l : List Cd) {i : Nat} (h : i < l.length) : l[i]? = some (dow l i) := by simp [dow, List.getD_eq_getElem?_getD, h]
theorem drows_get (l : List Cd) {i : Nat} (h : i < l.length) : (drows l)[i]? = some (dav (dow l i)) := by
  rw [drows, List.getElem?_map, dow_some l h]; rfl
theorem drows_fit (l : List Cd) : headFits 20 (drows l) = true := by
  cases l with
  | nil => rfl
  | cons a l => simp [headFits, drows, dav_len]
theorem drows_snoc (l : List Cd) (r : Cd) : drows l ++ [dav r] = drows (l ++ [r]) := by simp [drows]
theorem drows_append (l r : List Cd) : drows l ++ drows r = drows (l ++ r) := by simp [drows]
theorem drows_take (l : List Cd) (n : Nat) : (drows l).take n = drows (l.take n) := by simp [drows, List.map_take]
theorem drows_drop (l : List Cd) (n : Nat) : (drows l).drop n = drows (l.drop n) := by simp [drows, List.map_drop]
theorem drows_all (l : List Cd) : (drows l).take l.length = drows l := by rw [← drows_len l, List.take_length]
theorem tn_p (x : AV) (c : Cnt) : piece (x :: nav c) 0 3 = some (x :: nav c) := rfl
theorem tn_c (x : AV) (c : Cnt) : piece (x :: nav c) 1 2 = some (nav c) := rfl
theorem tn_o (l : List AV) (x : AV) (c : Cnt) (h : l.length = 3) : ovr l 0 (x :: nav c) = some (x :: nav c) := ovr_all _ _ (by rw [h]; rfl)
theorem tn_or (x y : AV) (c : Cnt) : ovr (x :: nav c) 0 [y] = some (y :: nav c) := rfl
theorem tn_oc (x : AV) (c d : Cnt) : ovr (x :: nav c) 1 (nav d) = some (x :: nav d) := rfl
theorem nav_exp (fr : Bool) (bs : List Blk) (c : Cnt) : (nav c).mapM (expCell fr bs) = some (nav c) := rfl
theorem nav_snap (bs : List Blk) (c : Cnt) : (nav c).mapM (snapCell bs) = some (nav c) := rfl
theorem nav_takeL (b : Bool) (s : Nat) (bs : List Blk) (c : Cnt) : takeL b s (nav c) bs = some (nav c, bs) := rfl
theorem nav_ids (c : Cnt) : mutIds (nav c) = [] := rfl
theorem drows_nil : drows [] = [] := rfl
theorem take_tal_f (s : Nat) (bs : List Blk) (e : TypeId) (k : Nat) (rows : List (List AV)) (c : Cnt) : takeRes false s (.agg (.fresh e k rows :: nav c)) bs = some (.agg (.ro rows :: nav c), bs) := rfl
theorem take_tal_t (s : Nat) (bs : List Blk) (e : TypeId) (k : Nat) (rows : List (List AV)) (c : Cnt) : takeRes true s (.agg (.fresh e k rows :: nav c)) bs = (newAt bs s (.lst 0 0 e k rows)).map fun bs' => (.agg (.lis s 0 0 rows.length :: nav c), bs') := by
  show (takeL true s (.fresh e k rows :: nav c) bs).map _ = _
  rw [takeL_fresh_t]
  cases newAt bs s (.lst 0 0 e k rows) <;> rfl
theorem expIn_tal (fr : Bool) (bs : List Blk) (a b c d : Nat) (n : Cnt) : expIn fr bs (.agg (.lis a b c d :: nav n)) = (expCell false bs (.lis a b c d)).map fun x => .agg (x :: nav n) := by
  show ((AV.lis a b c d :: nav n).mapM (expCell false bs)).map AV.agg = _
  rw [List.mapM_cons, nav_exp]
  cases expCell false bs (.lis a b c d) <;> rfl
theorem snap_tal (bs : List Blk) (a b c d : Nat) (n : Cnt) : snap bs (.agg (.lis a b c d :: nav n)) = (rowsOf bs (.lis a b c d)).map fun x => .agg (.ro x :: nav n) := by
  show ((AV.lis a b c d :: nav n).mapM (snapCell bs)).map AV.agg = _
  rw [List.mapM_cons, nav_snap]
  show (((rowsOf bs (.lis a b c d)).map AV.ro).bind _).map _ = _
  cases rowsOf bs (.lis a b c d) <;> rfl
theorem DB3 : (((((type_of% (@nav_len) ∧ type_of% (@dav_len)) ∧ (type_of% (@nav_data) ∧ (type_of% (@dav_data) ∧ type_of% (@nav_p)))) ∧ ((type_of% (@dav_p) ∧ type_of% (@nav_0)) ∧ (type_of% (@nav_1) ∧ (type_of% (@dav_pf) ∧ type_of% (@dav_c))))) ∧ (((type_of% (@dav_0) ∧ type_of% (@dav_1)) ∧ (type_of% (@nav_o) ∧ (type_of% (@nav_o0) ∧ type_of% (@nav_o1)))) ∧ ((type_of% (@dav_o) ∧ (type_of% (@dav_oc) ∧ type_of% (@dav_op))) ∧ (type_of% (@eq_nav) ∧ (type_of% (@eq_dav) ∧ type_of% (@drows_len)))))) ∧ ((((type_of% (@drows_fit) ∧ type_of% (@drows_snoc)) ∧ (type_of% (@drows_append) ∧ (type_of% (@drows_take) ∧ type_of% (@drows_drop)))) ∧ ((type_of% (@tn_p) ∧ type_of% (@tn_c)) ∧ (type_of% (@tn_o) ∧ (type_of% (@tn_or) ∧ type_of% (@tn_oc))))) ∧ (((type_of% (@nav_exp) ∧ type_of% (@nav_snap)) ∧ (type_of% (@nav_takeL) ∧ (type_of% (@nav_ids) ∧ type_of% (@nav_below)))) ∧ ((type_of% (@dav_below) ∧ (type_of% (@drows_nil) ∧ type_of% (@take_tal_f))) ∧ (type_of% (@take_tal_t) ∧ (type_of% (@expIn_tal) ∧ type_of% (@snap_tal))))))) := ⟨⟨⟨⟨⟨@nav_len, @dav_len⟩, ⟨@nav_data, ⟨@dav_data, @nav_p⟩⟩⟩, ⟨⟨@dav_p, @nav_0⟩, ⟨@nav_1, ⟨@dav_pf, @dav_c⟩⟩⟩⟩, ⟨⟨⟨@dav_0, @dav_1⟩, ⟨@nav_o, ⟨@nav_o0, @nav_o1⟩⟩⟩, ⟨⟨@dav_o, ⟨@dav_oc, @dav_op⟩⟩, ⟨@eq_nav, ⟨@eq_dav, @drows_len⟩⟩⟩⟩⟩, ⟨⟨⟨⟨@drows_fit, @drows_snoc⟩, ⟨@drows_append, ⟨@drows_take, @drows_drop⟩⟩⟩, ⟨⟨@tn_p, @tn_c⟩, ⟨@tn_o, ⟨@tn_or, @tn_oc⟩⟩⟩⟩, ⟨⟨⟨@nav_exp, @nav_snap⟩, ⟨@nav_takeL, ⟨@nav_ids, @nav_below⟩⟩⟩, ⟨⟨@dav_below, ⟨@drows_nil, @take_tal_f⟩⟩, ⟨@take_tal_t, ⟨@expIn_tal, @snap_tal⟩⟩⟩⟩⟩⟩
end Go.Proofs.YtdllnneeopbmdaaDoor.D

/- Rows of a tally by bytes: the order, as data and as the program tells it, ahead of the sort. No condition. -/
set_option linter.unusedSimpArgs false
namespace Go.Proofs.YtdllnneeopbmdaaDoor.D
open Go Go.Proofs.YtdllnneeopbmdaaDoor.A Go.Proofs.YtdllnneeopbmdaaDoor.F
instance : Inhabited Cd := ⟨zerD⟩
def cmpT (a b : Cd) : Int := if cmpI b.c.by' a.c.by' ≠ 0 then cmpI b.c.by' a.c.by' else if cmpI b.c.pk a.c.pk ≠ 0 then cmpI b.c.pk a.c.pk else cmpP a.p b.p
theorem cmpI_cases (a b : Int) : (cmpI a b = -1 ∧ a < b) ∨ (cmpI a b = 1 ∧ b < a) ∨ (cmpI a b = 0 ∧ a = b) := by
  unfold cmpI
  by_cases h1 : a < b
  · exact .inl ⟨by rw [if_pos h1], h1⟩
  · by_cases h2 : b < a
    · exact .inr (.inl ⟨by rw [if_neg h1, if_pos h2], h2⟩)
    · exact .inr (.inr ⟨by rw [if_neg h1, if_neg h2], by omega⟩)
theorem cmpT_lt (a b : Cd) : ltOf cmpT a b = true ↔ b.c.by' < a.c.by' ∨ (b.c.by' = a.c.by' ∧ (b.c.pk < a.c.pk ∨ (b.c.pk = a.c.pk ∧ cmpP a.p b.p < 0))) := by
  unfold ltOf cmpT
  rw [decide_eq_true_eq]
  rcases cmpI_cases b.c.by' a.c.by' with ⟨h, h'⟩ | ⟨h, h'⟩ | ⟨h, h'⟩ <;> rw [h]
  · simp; omega
  · simp; omega
  · rcases cmpI_cases b.c.pk a.c.pk with ⟨k, k'⟩ | ⟨k, k'⟩ | ⟨k, k'⟩ <;> rw [k] <;> simp <;> omega
theorem cmpT_swo : Sort.SWO (ltOf cmpT) where
  irrefl x := by
    rw [← Bool.not_eq_true, cmpT_lt, cmp_self]; omega
  trans x y z h1 h2 := by
    rw [cmpT_lt] at *
    have := @cmp_trans x.p y.p z.p
    omega
  ntrans x y z h1 h2 := by
    rw [← Bool.not_eq_true, cmpT_lt] at *
    have t := @cmp_trans x.p y.p z.p
    have t2 := @cmp_trans z.p y.p x.p
    have a1 := cmp_anti x.p y.p
    have a2 := cmp_anti y.p z.p
    have a3 := cmp_anti x.p z.p
    have z1 := @cmp_zero x.p y.p
    have z2 := @cmp_zero y.p z.p
    intro h3
    by_cases e1 : cmpP x.p y.p = 0
    · have := z1 e1; rw [this] at h1 h3; omega
    · by_cases e2 : cmpP y.p z.p = 0
      · have := z2 e2; rw [← this] at h3 h2; omega
      · omega
theorem cmpT_tot (x y : Cd) (h1 : ltOf cmpT x y = false) (h2 : ltOf cmpT y x = false) : x = y := by
  rw [← Bool.not_eq_true, cmpT_lt] at *
  have a1 := cmp_anti x.p y.p
  have z1 := @cmp_zero x.p y.p
  obtain ⟨p, a, b⟩ := x
  obtain ⟨q, c, d⟩ := y
  simp only at *
  have e1 : b = d := by omega
  have e2 : a = c := by omega
  have e3 : p = q := z1 (by omega)
  subst e1; subst e2; subst e3; rfl
theorem pav_inj {p q : Pfx} (h : pav p = pav q) : p = q := by
  have h1 := eq_pav p q
  have h2 := eq_pav p p
  rw [← h, h2] at h1
  simpa using h1
theorem dav_inj (x y : Cd) (h : dav x = dav y) : x = y := by
  have h1 := eq_dav x y
  have h2 := eq_dav x x
  rw [← h, h2] at h1
  simpa using h1
theorem bav_plain (b : B16) : ∀ a ∈ bav b, plainA a = true := fun a h => by
  unfold bav at h
  obtain ⟨x, _, rfl⟩ := List.mem_map.1 h; rfl
theorem pav_plain (p : Pfx) : ∀ a ∈ pav p, plainA a = true := fun a h => by
  unfold pav at h
  simp only [List.mem_cons, List.mem_append, List.not_mem_nil, or_false] at h
  rcases h with rfl | h | rfl
  · rfl
  · exact bav_plain _ a h
  · rfl
theorem dav_plain (r : Cd) : ∀ a ∈ dav r, plainA a = true := fun a h => by
  rw [dav_eq] at h
  rcases List.mem_append.1 h with h | h
  · exact pav_plain _ a h
  · unfold nav at h
    simp only [List.mem_cons, List.not_mem_nil, or_false] at h
    rcases h with rfl | rfl <;> rfl
end Go.Proofs.YtdllnneeopbmdaaDoor.D
namespace Go.Proofs.YtdllnneeopbmdaaDoor.F0
open Go Go.Proofs.YtdllnneeopbmdaaDoor.A Go.Proofs.YtdllnneeopbmdaaDoor.D Go.Proofs.YtdllnneeopbmdaaDoor.F
theorem e96 (v : Int) : LV E 96 [.int .u64 v] = some (.bool false) := by
  rw [LV_R (fn := f96) rfl rfl rfl]
  simp only [f96, RB, pickV, eqbV, notV, negV, convV, faddrV, fldV, idxV, eqaggV, iaddrV, isnilV, nilckV, cloV, extrV, slenV, minV, sidxV, abin, cmpInt, params, growLists, fillCells, newAt, rdPtr, wrPtr, AV.cells, asVal, lenOf, boundOf, rowsOf, argIds, freshIn, scalar1, setAll, AV.isData, AV.isYld, Nat.reduceAdd, Nat.reduceMul, Nat.reduceSub, Nat.reduceEqDiff, Nat.reduceLeDiff, Nat.reduceLT, Int.reduceNeg, ↓reduceIte, reduceCtorEq, Int.reduceEq, Int.reduceLT, Int.reduceLE, Int.reduceBEq, Int.reduceBNe, Int.reduceToNat, IntKind.bits, Int.reduceAdd, Int.reduceSub, Int.reduceMul, Int.reduceTDiv, Int.reduceTMod, bne_self_eq_false]
theorem e70 (a b : Int) : LV E 70 [.int .u64 a, .int .u64 b] = some (.int .i64 (cmpI a b)) := by
  rw [LV_R (fn := f70) rfl rfl rfl]
  simp only [f70, RB, pickV, eqbV, notV, negV, convV, faddrV, fldV, idxV, eqaggV, iaddrV, isnilV, nilckV, cloV, extrV, slenV, minV, sidxV, abin, cmpInt, params, growLists, fillCells, newAt, rdPtr, wrPtr, AV.cells, asVal, lenOf, boundOf, rowsOf, argIds, freshIn, scalar1, setAll, AV.isData, AV.isYld, Nat.reduceAdd, Nat.reduceMul, Nat.reduceSub, Nat.reduceEqDiff, Nat.reduceLeDiff, Nat.reduceLT, Int.reduceNeg, ↓reduceIte, reduceCtorEq, Int.reduceEq, Int.reduceLT, Int.reduceLE, Int.reduceBEq, Int.reduceBNe, Int.reduceToNat, IntKind.bits, Int.reduceAdd, Int.reduceSub, Int.reduceMul, Int.reduceTDiv, Int.reduceTMod, e96]
  (repeat' (first
    | (refine Ci_cases (fun h => ?_) (fun h => ?_) <;> simp only [h, RB, pickV, eqbV, notV, negV, convV, faddrV, fldV, idxV, eqaggV, iaddrV, isnilV, nilckV, cloV, extrV, slenV, minV, sidxV, abin, cmpInt, params, growLists, fillCells, newAt, rdPtr, wrPtr, AV.cells, asVal, lenOf, boundOf, rowsOf, argIds, freshIn, scalar1, setAll, AV.isData, AV.isYld, Nat.reduceAdd, Nat.reduceMul, Nat.reduceSub, Nat.reduceEqDiff, Nat.reduceLeDiff, Nat.reduceLT, Int.reduceNeg, ↓reduceIte, reduceCtorEq, Int.reduceEq, Int.reduceLT, Int.reduceLE, Int.reduceBEq, Int.reduceBNe, Int.reduceToNat, IntKind.bits, Int.reduceAdd, Int.reduceSub, Int.reduceMul, Int.reduceTDiv, Int.reduceTMod])
    | (refine Gi_cases (fun h => ?_) (fun h => ?_) <;> simp only [h, RB, pickV, eqbV, notV, negV, convV, faddrV, fldV, idxV, eqaggV, iaddrV, isnilV, nilckV, cloV, extrV, slenV, minV, sidxV, abin, cmpInt, params, growLists, fillCells, newAt, rdPtr, wrPtr, AV.cells, asVal, lenOf, boundOf, rowsOf, argIds, freshIn, scalar1, setAll, AV.isData, AV.isYld, Nat.reduceAdd, Nat.reduceMul, Nat.reduceSub, Nat.reduceEqDiff, Nat.reduceLeDiff, Nat.reduceLT, Int.reduceNeg, ↓reduceIte, reduceCtorEq, Int.reduceEq, Int.reduceLT, Int.reduceLE, Int.reduceBEq, Int.reduceBNe, Int.reduceToNat, IntKind.bits, Int.reduceAdd, Int.reduceSub, Int.reduceMul, Int.reduceTDiv, Int.reduceTMod])
    | (refine Gj_cases (fun h => ?_) (fun h => ?_) <;> simp only [h, RB, pickV, eqbV, notV, negV, convV, faddrV, fldV, idxV, eqaggV, iaddrV, isnilV, nilckV, cloV, extrV, slenV, minV, sidxV, abin, cmpInt, params, growLists, fillCells, newAt, rdPtr, wrPtr, AV.cells, asVal, lenOf, boundOf, rowsOf, argIds, freshIn, scalar1, setAll, AV.isData, AV.isYld, Nat.reduceAdd, Nat.reduceMul, Nat.reduceSub, Nat.reduceEqDiff, Nat.reduceLeDiff, Nat.reduceLT, Int.reduceNeg, ↓reduceIte, reduceCtorEq, Int.reduceEq, Int.reduceLT, Int.reduceLE, Int.reduceBEq, Int.reduceBNe, Int.reduceToNat, IntKind.bits, Int.reduceAdd, Int.reduceSub, Int.reduceMul, Int.reduceTDiv, Int.reduceTMod])))
  all_goals (simp only [decide_eq_true_eq, decide_eq_false_iff_not] at *; simp only [cmpI, Option.some.injEq, AV.int.injEq, true_and]; (repeat split) <;> omega)
theorem e68 (a b : Cd) : LV E 68 [.agg (dav a), .agg (dav b)] = some (.int .i64 (cmpT a b)) := by
  rw [LV_R (fn := f68) rfl rfl rfl]
  simp only [f68, RB, pickV, eqbV, notV, negV, convV, faddrV, fldV, idxV, eqaggV, iaddrV, isnilV, nilckV, cloV, extrV, slenV, minV, sidxV, abin, cmpInt, params, growLists, fillCells, newAt, rdPtr, wrPtr, AV.cells, asVal, lenOf, boundOf, rowsOf, argIds, freshIn, scalar1, setAll, AV.isData, AV.isYld, Nat.reduceAdd, Nat.reduceMul, Nat.reduceSub, Nat.reduceEqDiff, Nat.reduceLeDiff, Nat.reduceLT, Int.reduceNeg, ↓reduceIte, reduceCtorEq, Int.reduceEq, Int.reduceLT, Int.reduceLE, Int.reduceBEq, Int.reduceBNe, Int.reduceToNat, IntKind.bits, Int.reduceAdd, Int.reduceSub, Int.reduceMul, Int.reduceTDiv, Int.reduceTMod, DB, DB3, e_prefix_Compare, e70, e_cmp_Or_int, aop, O_buildSlq, quietOk, fillRows, asData]
  rfl
def sort67_ren : Go.Shelf.Ren := ⟨fun | 6 => 67 | 15 => 95 | 14 => 94 | 28 => 111 | 29 => 112 | 20 => 103 | 21 => 104 | 22 => 105 | 23 => 106 | 24 => 107 | 25 => 108 | 26 => 109 | 27 => 110 | 46 => 114 | 47 => 115 | 48 => 116 | 49 => 117 | 50 => 118 | 57 => 119 | n => n, fun | 22 => 22 | 24 => 60 | 25 => 121 | 3 => 3 | 39 => 147 | 0 => 0 | 53 => 161 | 55 => 23 | 4 => 4 | 46 => 155 | 45 => 154 | 50 => 110 | 5 => 5 | 9 => 9 | 66 => 164 | 70 => 168 | 76 => 170 | 77 => 171 | n => n, fun | n => n⟩
theorem sort67 : Go.Proofs.SlLaysF0.n6 Tryd.prog sort67_ren := {
  mixed := by kernel_rfl,
  f6 := ⟨Tryd.f67.name, by decide, Tryd.func67.trans (congrArg some (by kernel_rfl))⟩,
  f14 := ⟨Tryd.f94.name, by decide, Tryd.func94.trans (congrArg some (by kernel_rfl))⟩,
  f15 := Tryd.func95.trans (congrArg some (by kernel_rfl)),
  f20 := ⟨Tryd.f103.name, by decide, Tryd.func103.trans (congrArg some (by kernel_rfl))⟩,
  f21 := ⟨Tryd.f104.name, by decide, Tryd.func104.trans (congrArg some (by kernel_rfl))⟩,
  f22 := ⟨Tryd.f105.name, by decide, Tryd.func105.trans (congrArg some (by kernel_rfl))⟩,
  f23 := ⟨Tryd.f106.name, by decide, Tryd.func106.trans (congrArg some (by kernel_rfl))⟩,
  f24 := ⟨Tryd.f107.name, by decide, Tryd.func107.trans (congrArg some (by kernel_rfl))⟩,
  f25 := ⟨Tryd.f108.name, by decide, Tryd.func108.trans (congrArg some (by kernel_rfl))⟩,
  f26 := ⟨Tryd.f109.name, by decide, Tryd.func109.trans (congrArg some (by kernel_rfl))⟩,
  f27 := ⟨Tryd.f110.name, by decide, Tryd.func110.trans (congrArg some (by kernel_rfl))⟩,
  f28 := Tryd.func111.trans (congrArg some (by kernel_rfl)),
  f29 := Tryd.func112.trans (congrArg some (by kernel_rfl)),
  f46 := ⟨Tryd.f114.name, by decide, Tryd.func114.trans (congrArg some (by kernel_rfl))⟩,
  f47 := Tryd.func115.trans (congrArg some (by kernel_rfl)),
  f48 := Tryd.func116.trans (congrArg some (by kernel_rfl)),
  f49 := ⟨Tryd.f117.name, by decide, Tryd.func117.trans (congrArg some (by kernel_rfl))⟩,
  f50 := ⟨Tryd.f118.name, by decide, Tryd.func118.trans (congrArg some (by kernel_rfl))⟩,
  f57 := ⟨Tryd.f119.name, by decide, Tryd.func119.trans (congrArg some (by kernel_rfl))⟩,
  t0 := Tryd.underlying0,
  a0 := Tryd.isAgg0,
  z0 := Tryd.sizeOf0,
  v0 := Tryd.zeroValue0,
  t3 := Tryd.underlying3,
  a3 := Tryd.isAgg3,
  z3 := Tryd.sizeOf3,
  v3 := Tryd.zeroValue3,
  t4 := Tryd.underlying4,
  a4 := Tryd.isAgg4,
  z4 := Tryd.sizeOf4,
  v4 := Tryd.zeroValue4,
  t5 := Tryd.underlying5,
  a5 := Tryd.isAgg5,
  z5 := Tryd.sizeOf5,
  v5 := Tryd.zeroValue5,
  t9 := Tryd.underlying9,
  a9 := Tryd.isAgg9,
  z9 := Tryd.sizeOf9,
  v9 := Tryd.zeroValue9,
  t22 := Tryd.underlying22,
  a22 := Tryd.isAgg22,
  z22 := Tryd.sizeOf22,
  v22 := Tryd.zeroValue22,
  t25 := Tryd.underlying121,
  a25 := Tryd.isAgg121,
  z25 := Tryd.sizeOf121,
  v25 := Tryd.zeroValue121,
  t39 := Tryd.underlying147,
  a39 := Tryd.isAgg147,
  z39 := Tryd.sizeOf147,
  v39 := Tryd.zeroValue147,
  t45 := Tryd.underlying154,
  a45 := Tryd.isAgg154,
  z45 := Tryd.sizeOf154,
  v45 := Tryd.zeroValue154,
  t46 := Tryd.underlying155,
  a46 := Tryd.isAgg155,
  z46 := Tryd.sizeOf155,
  v46 := Tryd.zeroValue155,
  t50 := Tryd.underlying110,
  a50 := Tryd.isAgg110,
  z50 := Tryd.sizeOf110,
  v50 := Tryd.zeroValue110,
  t53 := Tryd.underlying161,
  a53 := Tryd.isAgg161,
  z53 := Tryd.sizeOf161,
  v53 := Tryd.zeroValue161,
  t55 := Tryd.underlying23,
  a55 := Tryd.isAgg23,
  z55 := Tryd.sizeOf23,
  v55 := Tryd.zeroValue23,
  t66 := Tryd.underlying164,
  a66 := Tryd.isAgg164,
  z66 := Tryd.sizeOf164,
  v66 := Tryd.zeroValue164,
  t70 := Tryd.underlying168,
  a70 := Tryd.isAgg168,
  z70 := Tryd.sizeOf168,
  v70 := Tryd.zeroValue168,
  t76 := Tryd.underlying170,
  a76 := Tryd.isAgg170,
  z76 := Tryd.sizeOf170,
  v76 := Tryd.zeroValue170,
  t77 := Tryd.underlying171,
  a77 := Tryd.isAgg171,
  z77 := Tryd.sizeOf171,
  v77 := Tryd.zeroValue171 }
theorem sort_ok : PrimOk Tryd.prog G 67 (pSort dav (decOf dav) cmpT 60 20 68) :=
  pSort_ok (ρ := sort67_ren) sort67 (ent_of Tryd.func67 (by kernel_rfl) (c := _) rfl) Tryd.isAgg60 Tryd.sizeOf60 dav_len dav_plain decOf_ok cmpT_swo cmpT_tot envOk e68 (ent_of Tryd.func68 (by kernel_rfl) (c := _) rfl)
end Go.Proofs.YtdllnneeopbmdaaDoor.F0

/- What the evaluator is told of the functions. No condition. -/
namespace Go.Proofs.YtdllnneeopbmdaaDoor.F
open Go Go.Proofs.YtdllnneeopbmdaaDoor.A
def fns : FuncId → Option AFunc
  | 3 => some f3
  | 9 => some f9
  | 10 => some f10
  | 11 => some f11
  | 12 => some f12
  | 13 => some f13
  | 14 => some f14
  | 15 => some f15
  | 16 => some f16
  | 17 => some f17
  | 21 => some f21
  | 22 => some f22
  | 25 => some f25
  | 26 => some f26
  | 27 => some f27
  | 30 => some f30
  | 31 => some f31
  | 32 => some f32
  | 33 => some f33
  | 34 => some f34
  | 35 => some f35
  | 36 => some f36
  | 37 => some f37
  | 38 => some f38
  | 39 => some f39
  | 41 => some f41
  | 42 => some f42
  | 43 => some f43
  | 44 => some f44
  | 45 => some f45
  | 46 => some f46
  | 47 => some f47
  | 50 => some f50
  | 51 => some f51
  | 52 => some f52
  | 57 => some f57
  | 58 => some f58
  | 59 => some f59
  | 60 => some f60
  | 65 => some f65
  | 66 => some f66
  | 68 => some f68
  | 69 => some f69
  | 70 => some f70
  | 71 => some f71
  | 72 => some f72
  | 73 => some f73
  | 74 => some f74
  | 75 => some f75
  | 76 => some f76
  | 77 => some f77
  | 78 => some f78
  | 79 => some f79
  | 80 => some f80
  | 81 => some f81
  | 82 => some f82
  | 85 => some f85
  | 86 => some f86
  | 91 => some f91
  | 92 => some f92
  | 93 => some f93
  | 96 => some f96
  | 97 => some f97
  | 98 => some f98
  | 99 => some f99
  | 101 => some f101
  | _ => none
noncomputable def prims : FuncId → Option (List AV → List Blk → Option (AV × List Blk))
  | 40 => some (pClone 60 20 48)
  | 67 => some (pSort D.dav (decOf D.dav) D.cmpT 60 20 68)
  | 102 => some (pCmp)
  | _ => none
noncomputable def E : Env := ⟨fns, prims⟩
theorem envOk : EnvOk Tryd.prog G E := by
  refine ⟨fun f af _ h => ?_, fun f p h => ?_⟩
  · show ∃ fm g, _
    change fns f = some af at h
    unfold fns at h
    split at h
    · cases h; exact ⟨Tryd.f3, f3, Tryd.func3, by kernel_rfl, c3⟩
    · cases h; exact ⟨Tryd.f9, f9, Tryd.func9, by kernel_rfl, c9⟩
    · cases h; exact ⟨Tryd.f10, f10, Tryd.func10, by kernel_rfl, c10⟩
    · cases h; exact ⟨Tryd.f11, f11, Tryd.func11, by kernel_rfl, c11⟩
    · cases h; exact ⟨Tryd.f12, f12, Tryd.func12, by kernel_rfl, c12⟩
    · cases h; exact ⟨Tryd.f13, f13, Tryd.func13, by kernel_rfl, c13⟩
    · cases h; exact ⟨Tryd.f14, f14, Tryd.func14, by kernel_rfl, c14⟩
    · cases h; exact ⟨Tryd.f15, f15, Tryd.func15, by kernel_rfl, c15⟩
    · cases h; exact ⟨Tryd.f16, f16, Tryd.func16, by kernel_rfl, c16⟩
    · cases h; exact ⟨Tryd.f17, f17, Tryd.func17, by kernel_rfl, c17⟩
    · cases h; exact ⟨Tryd.f21, f21, Tryd.func21, by kernel_rfl, c21⟩
    · cases h; exact ⟨Tryd.f22, f22, Tryd.func22, by kernel_rfl, c22⟩
    · cases h; exact ⟨Tryd.f25, f25, Tryd.func25, by kernel_rfl, c25⟩
    · cases h; exact ⟨Tryd.f26, f26, Tryd.func26, by kernel_rfl, c26⟩
    · cases h; exact ⟨Tryd.f27, f27, Tryd.func27, by kernel_rfl, c27⟩
    · cases h; exact ⟨Tryd.f30, f30, Tryd.func30, by kernel_rfl, c30⟩
    · cases h; exact ⟨Tryd.f31, f31, Tryd.func31, by kernel_rfl, c31⟩
    · cases h; exact ⟨Tryd.f32, f32, Tryd.func32, by kernel_rfl, c32⟩
    · cases h; exact ⟨Tryd.f33, f33, Tryd.func33, by kernel_rfl, c33⟩
    · cases h; exact ⟨Tryd.f34, f34, Tryd.func34, by kernel_rfl, c34⟩
    · cases h; exact ⟨Tryd.f35, f35, Tryd.func35, by kernel_rfl, c35⟩
    · cases h; exact ⟨Tryd.f36, f36, Tryd.func36, by kernel_rfl, c36⟩
    · cases h; exact ⟨Tryd.f37, f37, Tryd.func37, by kernel_rfl, c37⟩
    · cases h; exact ⟨Tryd.f38, f38, Tryd.func38, by kernel_rfl, c38⟩
    · cases h; exact ⟨Tryd.f39, f39, Tryd.func39, by kernel_rfl, c39⟩
    · cases h; exact ⟨Tryd.f41, f41, Tryd.func41, by kernel_rfl, c41⟩
    · cases h; exact ⟨Tryd.f42, f42, Tryd.func42, by kernel_rfl, c42⟩
    · cases h; exact ⟨Tryd.f43, f43, Tryd.func43, by kernel_rfl, c43⟩
    · cases h; exact ⟨Tryd.f44, f44, Tryd.func44, by kernel_rfl, c44⟩
    · cases h; exact ⟨Tryd.f45, f45, Tryd.func45, by kernel_rfl, c45⟩
    · cases h; exact ⟨Tryd.f46, f46, Tryd.func46, by kernel_rfl, c46⟩
    · cases h; exact ⟨Tryd.f47, f47, Tryd.func47, by kernel_rfl, c47⟩
    · cases h; exact ⟨Tryd.f50, f50, Tryd.func50, by kernel_rfl, c50⟩
    · cases h; exact ⟨Tryd.f51, f51, Tryd.func51, by kernel_rfl, c51⟩
    · cases h; exact ⟨Tryd.f52, f52, Tryd.func52, by kernel_rfl, c52⟩
    · cases h; exact ⟨Tryd.f57, f57, Tryd.func57, by kernel_rfl, c57⟩
    · cases h; exact ⟨Tryd.f58, f58, Tryd.func58, by kernel_rfl, c58⟩
    · cases h; exact ⟨Tryd.f59, f59, Tryd.func59, by kernel_rfl, c59⟩
    · cases h; exact ⟨Tryd.f60, f60, Tryd.func60, by kernel_rfl, c60⟩
    · cases h; exact ⟨Tryd.f65, f65, Tryd.func65, by kernel_rfl, c65⟩
    · cases h; exact ⟨Tryd.f66, f66, Tryd.func66, by kernel_rfl, c66⟩
    · cases h; exact ⟨Tryd.f68, f68, Tryd.func68, by kernel_rfl, c68⟩
    · cases h; exact ⟨Tryd.f69, f69, Tryd.func69, by kernel_rfl, c69⟩
    · cases h; exact ⟨Tryd.f70, f70, Tryd.func70, by kernel_rfl, c70⟩
    · cases h; exact ⟨Tryd.f71, f71, Tryd.func71, by kernel_rfl, c71⟩
    · cases h; exact ⟨Tryd.f72, f72, Tryd.func72, by kernel_rfl, c72⟩
    · cases h; exact ⟨Tryd.f73, f73, Tryd.func73, by kernel_rfl, c73⟩
    · cases h; exact ⟨Tryd.f74, f74, Tryd.func74, by kernel_rfl, c74⟩
    · cases h; exact ⟨Tryd.f75, f75, Tryd.func75, by kernel_rfl, c75⟩
    · cases h; exact ⟨Tryd.f76, f76, Tryd.func76, by kernel_rfl, c76⟩
    · cases h; exact ⟨Tryd.f77, f77, Tryd.func77, by kernel_rfl, c77⟩
    · cases h; exact ⟨Tryd.f78, f78, Tryd.func78, by kernel_rfl, c78⟩
    · cases h; exact ⟨Tryd.f79, f79, Tryd.func79, by kernel_rfl, c79⟩
    · cases h; exact ⟨Tryd.f80, f80, Tryd.func80, by kernel_rfl, c80⟩
    · cases h; exact ⟨Tryd.f81, f81, Tryd.func81, by kernel_rfl, c81⟩
    · cases h; exact ⟨Tryd.f82, f82, Tryd.func82, by kernel_rfl, c82⟩
    · cases h; exact ⟨Tryd.f85, f85, Tryd.func85, by kernel_rfl, c85⟩
    · cases h; exact ⟨Tryd.f86, f86, Tryd.func86, by kernel_rfl, c86⟩
    · cases h; exact ⟨Tryd.f91, f91, Tryd.func91, by kernel_rfl, c91⟩
    · cases h; exact ⟨Tryd.f92, f92, Tryd.func92, by kernel_rfl, c92⟩
    · cases h; exact ⟨Tryd.f93, f93, Tryd.func93, by kernel_rfl, c93⟩
    · cases h; exact ⟨Tryd.f96, f96, Tryd.func96, by kernel_rfl, c96⟩
    · cases h; exact ⟨Tryd.f97, f97, Tryd.func97, by kernel_rfl, c97⟩
    · cases h; exact ⟨Tryd.f98, f98, Tryd.func98, by kernel_rfl, c98⟩
    · cases h; exact ⟨Tryd.f99, f99, Tryd.func99, by kernel_rfl, c99⟩
    · cases h; exact ⟨Tryd.f101, f101, Tryd.func101, by kernel_rfl, c101⟩
    · cases h
  · change prims f = some p at h
    unfold prims at h
    split at h
    · cases h; exact pClone_ok (ent_of Tryd.func40 (by kernel_rfl) (c := _) rfl) clone_f40
    · cases h; exact F0.sort_ok
    · cases h; exact pCmp_ok Tryd.func102 (by kernel_rfl) (by kernel_rfl) (by kernel_rfl) (by kernel_rfl)
    · cases h
end Go.Proofs.YtdllnneeopbmdaaDoor.F

/- The program's prefixes: what its functions tell. No condition. -/
set_option linter.unusedSimpArgs false
namespace Go.Proofs.YtdllnneeopbmdaaDoor.F
open Go Go.Proofs.YtdllnneeopbmdaaDoor.A Go.Proofs.YtdllnneeopbmdaaDoor.D
theorem e_prefix_Width (v : Int) : LV E 85 [.int .i64 v] = some (.int .i64 (width v)) := by
  rw [LV_R (fn := f85) rfl rfl rfl]
  simp only [f85, RB, pickV, eqbV, notV, negV, convV, faddrV, fldV, idxV, eqaggV, iaddrV, isnilV, nilckV, cloV, extrV, slenV, minV, sidxV, abin, cmpInt, params, growLists, fillCells, newAt, rdPtr, wrPtr, AV.cells, asVal, lenOf, boundOf, rowsOf, argIds, freshIn, scalar1, setAll, AV.isData, AV.isYld, Nat.reduceAdd, Nat.reduceMul, Nat.reduceSub, Nat.reduceEqDiff, Nat.reduceLeDiff, Nat.reduceLT, Int.reduceNeg, ↓reduceIte, reduceCtorEq, Int.reduceEq, Int.reduceLT, Int.reduceLE, Int.reduceBEq, Int.reduceBNe, Int.reduceToNat, IntKind.bits, Int.reduceAdd, Int.reduceSub, Int.reduceMul, Int.reduceTDiv, Int.reduceTMod]
  (repeat' (first
    | (refine Ci_cases (fun h => ?_) (fun h => ?_) <;> simp only [h, RB, pickV, eqbV, notV, negV, convV, faddrV, fldV, idxV, eqaggV, iaddrV, isnilV, nilckV, cloV, extrV, slenV, minV, sidxV, abin, cmpInt, params, growLists, fillCells, newAt, rdPtr, wrPtr, AV.cells, asVal, lenOf, boundOf, rowsOf, argIds, freshIn, scalar1, setAll, AV.isData, AV.isYld, Nat.reduceAdd, Nat.reduceMul, Nat.reduceSub, Nat.reduceEqDiff, Nat.reduceLeDiff, Nat.reduceLT, Int.reduceNeg, ↓reduceIte, reduceCtorEq, Int.reduceEq, Int.reduceLT, Int.reduceLE, Int.reduceBEq, Int.reduceBNe, Int.reduceToNat, IntKind.bits, Int.reduceAdd, Int.reduceSub, Int.reduceMul, Int.reduceTDiv, Int.reduceTMod])
    | (refine Gi_cases (fun h => ?_) (fun h => ?_) <;> simp only [h, RB, pickV, eqbV, notV, negV, convV, faddrV, fldV, idxV, eqaggV, iaddrV, isnilV, nilckV, cloV, extrV, slenV, minV, sidxV, abin, cmpInt, params, growLists, fillCells, newAt, rdPtr, wrPtr, AV.cells, asVal, lenOf, boundOf, rowsOf, argIds, freshIn, scalar1, setAll, AV.isData, AV.isYld, Nat.reduceAdd, Nat.reduceMul, Nat.reduceSub, Nat.reduceEqDiff, Nat.reduceLeDiff, Nat.reduceLT, Int.reduceNeg, ↓reduceIte, reduceCtorEq, Int.reduceEq, Int.reduceLT, Int.reduceLE, Int.reduceBEq, Int.reduceBNe, Int.reduceToNat, IntKind.bits, Int.reduceAdd, Int.reduceSub, Int.reduceMul, Int.reduceTDiv, Int.reduceTMod])
    | (refine Gj_cases (fun h => ?_) (fun h => ?_) <;> simp only [h, RB, pickV, eqbV, notV, negV, convV, faddrV, fldV, idxV, eqaggV, iaddrV, isnilV, nilckV, cloV, extrV, slenV, minV, sidxV, abin, cmpInt, params, growLists, fillCells, newAt, rdPtr, wrPtr, AV.cells, asVal, lenOf, boundOf, rowsOf, argIds, freshIn, scalar1, setAll, AV.isData, AV.isYld, Nat.reduceAdd, Nat.reduceMul, Nat.reduceSub, Nat.reduceEqDiff, Nat.reduceLeDiff, Nat.reduceLT, Int.reduceNeg, ↓reduceIte, reduceCtorEq, Int.reduceEq, Int.reduceLT, Int.reduceLE, Int.reduceBEq, Int.reduceBNe, Int.reduceToNat, IntKind.bits, Int.reduceAdd, Int.reduceSub, Int.reduceMul, Int.reduceTDiv, Int.reduceTMod])))
  · simp only [decide_eq_true_eq] at h
    simp [width, show v ≠ 4 by omega, show v ≠ 6 by omega]
  · simp only [decide_eq_true_eq, decide_eq_false_iff_not] at *
    simp [width, show v ≠ 4 by omega, show v ≠ 6 by omega]
  · simp only [decide_eq_false_iff_not] at *
    have : v = 0 ∨ v = 1 ∨ v = 2 ∨ v = 3 ∨ v = 4 ∨ v = 5 ∨ v = 6 := by omega
    rcases this with rfl | rfl | rfl | rfl | rfl | rfl | rfl <;> simp [RB, pickV, eqbV, notV, negV, convV, faddrV, fldV, idxV, eqaggV, iaddrV, isnilV, nilckV, cloV, extrV, slenV, minV, sidxV, abin, cmpInt, params, growLists, fillCells, newAt, rdPtr, wrPtr, AV.cells, asVal, lenOf, boundOf, rowsOf, argIds, freshIn, scalar1, setAll, AV.isData, AV.isYld, Nat.reduceAdd, Nat.reduceMul, Nat.reduceSub, Nat.reduceEqDiff, Nat.reduceLeDiff, Nat.reduceLT, Int.reduceNeg, ↓reduceIte, reduceCtorEq, Int.reduceEq, Int.reduceLT, Int.reduceLE, Int.reduceBEq, Int.reduceBNe, Int.reduceToNat, IntKind.bits, Int.reduceAdd, Int.reduceSub, Int.reduceMul, Int.reduceTDiv, Int.reduceTMod, piece, width]
theorem e_cmp_isNaN_int (v : Int) : LV E 101 [.int .i64 v] = some (.bool false) := by
  rw [LV_R (fn := f101) rfl rfl rfl]
  simp only [f101, RB, pickV, eqbV, notV, negV, convV, faddrV, fldV, idxV, eqaggV, iaddrV, isnilV, nilckV, cloV, extrV, slenV, minV, sidxV, abin, cmpInt, params, growLists, fillCells, newAt, rdPtr, wrPtr, AV.cells, asVal, lenOf, boundOf, rowsOf, argIds, freshIn, scalar1, setAll, AV.isData, AV.isYld, Nat.reduceAdd, Nat.reduceMul, Nat.reduceSub, Nat.reduceEqDiff, Nat.reduceLeDiff, Nat.reduceLT, Int.reduceNeg, ↓reduceIte, reduceCtorEq, Int.reduceEq, Int.reduceLT, Int.reduceLE, Int.reduceBEq, Int.reduceBNe, Int.reduceToNat, IntKind.bits, Int.reduceAdd, Int.reduceSub, Int.reduceMul, Int.reduceTDiv, Int.reduceTMod, bne_self_eq_false]
theorem e_cmp_Compare_int (a b : Int) : LV E 92 [.int .i64 a, .int .i64 b] = some (.int .i64 (cmpI a b)) := by
  rw [LV_R (fn := f92) rfl rfl rfl]
  simp only [f92, RB, pickV, eqbV, notV, negV, convV, faddrV, fldV, idxV, eqaggV, iaddrV, isnilV, nilckV, cloV, extrV, slenV, minV, sidxV, abin, cmpInt, params, growLists, fillCells, newAt, rdPtr, wrPtr, AV.cells, asVal, lenOf, boundOf, rowsOf, argIds, freshIn, scalar1, setAll, AV.isData, AV.isYld, Nat.reduceAdd, Nat.reduceMul, Nat.reduceSub, Nat.reduceEqDiff, Nat.reduceLeDiff, Nat.reduceLT, Int.reduceNeg, ↓reduceIte, reduceCtorEq, Int.reduceEq, Int.reduceLT, Int.reduceLE, Int.reduceBEq, Int.reduceBNe, Int.reduceToNat, IntKind.bits, Int.reduceAdd, Int.reduceSub, Int.reduceMul, Int.reduceTDiv, Int.reduceTMod, e_cmp_isNaN_int]
  (repeat' (first
    | (refine Ci_cases (fun h => ?_) (fun h => ?_) <;> simp only [h, RB, pickV, eqbV, notV, negV, convV, faddrV, fldV, idxV, eqaggV, iaddrV, isnilV, nilckV, cloV, extrV, slenV, minV, sidxV, abin, cmpInt, params, growLists, fillCells, newAt, rdPtr, wrPtr, AV.cells, asVal, lenOf, boundOf, rowsOf, argIds, freshIn, scalar1, setAll, AV.isData, AV.isYld, Nat.reduceAdd, Nat.reduceMul, Nat.reduceSub, Nat.reduceEqDiff, Nat.reduceLeDiff, Nat.reduceLT, Int.reduceNeg, ↓reduceIte, reduceCtorEq, Int.reduceEq, Int.reduceLT, Int.reduceLE, Int.reduceBEq, Int.reduceBNe, Int.reduceToNat, IntKind.bits, Int.reduceAdd, Int.reduceSub, Int.reduceMul, Int.reduceTDiv, Int.reduceTMod])
    | (refine Gi_cases (fun h => ?_) (fun h => ?_) <;> simp only [h, RB, pickV, eqbV, notV, negV, convV, faddrV, fldV, idxV, eqaggV, iaddrV, isnilV, nilckV, cloV, extrV, slenV, minV, sidxV, abin, cmpInt, params, growLists, fillCells, newAt, rdPtr, wrPtr, AV.cells, asVal, lenOf, boundOf, rowsOf, argIds, freshIn, scalar1, setAll, AV.isData, AV.isYld, Nat.reduceAdd, Nat.reduceMul, Nat.reduceSub, Nat.reduceEqDiff, Nat.reduceLeDiff, Nat.reduceLT, Int.reduceNeg, ↓reduceIte, reduceCtorEq, Int.reduceEq, Int.reduceLT, Int.reduceLE, Int.reduceBEq, Int.reduceBNe, Int.reduceToNat, IntKind.bits, Int.reduceAdd, Int.reduceSub, Int.reduceMul, Int.reduceTDiv, Int.reduceTMod])
    | (refine Gj_cases (fun h => ?_) (fun h => ?_) <;> simp only [h, RB, pickV, eqbV, notV, negV, convV, faddrV, fldV, idxV, eqaggV, iaddrV, isnilV, nilckV, cloV, extrV, slenV, minV, sidxV, abin, cmpInt, params, growLists, fillCells, newAt, rdPtr, wrPtr, AV.cells, asVal, lenOf, boundOf, rowsOf, argIds, freshIn, scalar1, setAll, AV.isData, AV.isYld, Nat.reduceAdd, Nat.reduceMul, Nat.reduceSub, Nat.reduceEqDiff, Nat.reduceLeDiff, Nat.reduceLT, Int.reduceNeg, ↓reduceIte, reduceCtorEq, Int.reduceEq, Int.reduceLT, Int.reduceLE, Int.reduceBEq, Int.reduceBNe, Int.reduceToNat, IntKind.bits, Int.reduceAdd, Int.reduceSub, Int.reduceMul, Int.reduceTDiv, Int.reduceTMod])))
  all_goals (simp only [decide_eq_true_eq, decide_eq_false_iff_not] at *; simp only [cmpI, Option.some.injEq, AV.int.injEq, true_and]; (repeat split) <;> omega)
theorem e_prefix_clear (b : B16) (n : Nat) : LV E 86 [.agg (bav b), .int .i64 (n : Int)] = some (.bool (decide (Clr b n))) := by
  rw [LV_R (fn := f86) rfl rfl rfl]
  simp only [f86, RB, pickV, eqbV, notV, negV, convV, faddrV, fldV, idxV, eqaggV, iaddrV, isnilV, nilckV, cloV, extrV, slenV, minV, sidxV, abin, cmpInt, params, growLists, fillCells, newAt, rdPtr, wrPtr, AV.cells, asVal, lenOf, boundOf, rowsOf, argIds, freshIn, scalar1, setAll, AV.isData, AV.isYld, Nat.reduceAdd, Nat.reduceMul, Nat.reduceSub, Nat.reduceEqDiff, Nat.reduceLeDiff, Nat.reduceLT, Int.reduceNeg, ↓reduceIte, reduceCtorEq, Int.reduceEq, Int.reduceLT, Int.reduceLE, Int.reduceBEq, Int.reduceBNe, Int.reduceToNat, IntKind.bits, Int.reduceAdd, Int.reduceSub, Int.reduceMul, Int.reduceTDiv, Int.reduceTMod, DB]
  refine W_rec (ι := Nat) (M := fun k => [(2, .ptr 0 0 0 0), (5, .int .i64 (k : Int))]) (H := fun _ => ⟨[.box 0 31 (bav b)], []⟩) (r := fun k => some (AV.bool (decide (Clr b k)))) (μ := fun k => 128 - k) (fun i => ?_) (fun k ih => ?_) n
  · simp [LPB]
  by_cases hk : k < 128
  · have f1 : (k : Int) < 128 := by omega
    have f2 : k / 8 < 16 := by omega
    have f3 : ((k / 8 : Nat) : Int) < 16 := by omega
    have f4 : (0 : Int) ≤ ((k / 8 : Nat) : Int) := by omega
    have f5 : (0 : Int) ≤ ((7 - k % 8 : Nat) : Int) := by omega
    have f6 : IntKind.i64.wrap ((k : Int) + 1) = ((k + 1 : Nat) : Int) := by rw [IntWalk.i64_in _ (by omega)] <;> omega
    cases hb : bit b k with
    | true =>
      simp only [RB, pickV, eqbV, notV, negV, convV, faddrV, fldV, idxV, eqaggV, iaddrV, isnilV, nilckV, cloV, extrV, slenV, minV, sidxV, abin, cmpInt, params, growLists, fillCells, newAt, rdPtr, wrPtr, AV.cells, asVal, lenOf, boundOf, rowsOf, argIds, freshIn, scalar1, setAll, AV.isData, AV.isYld, Nat.reduceAdd, Nat.reduceMul, Nat.reduceSub, Nat.reduceEqDiff, Nat.reduceLeDiff, Nat.reduceLT, Int.reduceNeg, ↓reduceIte, reduceCtorEq, Int.reduceEq, Int.reduceLT, Int.reduceLE, Int.reduceBEq, Int.reduceBNe, Int.reduceToNat, IntKind.bits, Int.reduceAdd, Int.reduceSub, Int.reduceMul, Int.reduceTDiv, Int.reduceTMod, DB, f1, f3, f4, f5, quo8 k (by omega), rem8, sub7, bav_i b (k / 8) f2, shrN _ (7 - k % 8) (by omega), and1 _ (Nat.lt_of_le_of_lt (Nat.div_le_self _ _) (b.get_lt (k / 8))), bit_and, hb]
      rw [decide_eq_false fun hc => by rw [hc k (Nat.le_refl _) hk] at hb; cases hb]
    | false =>
      simp only [RB, pickV, eqbV, notV, negV, convV, faddrV, fldV, idxV, eqaggV, iaddrV, isnilV, nilckV, cloV, extrV, slenV, minV, sidxV, abin, cmpInt, params, growLists, fillCells, newAt, rdPtr, wrPtr, AV.cells, asVal, lenOf, boundOf, rowsOf, argIds, freshIn, scalar1, setAll, AV.isData, AV.isYld, Nat.reduceAdd, Nat.reduceMul, Nat.reduceSub, Nat.reduceEqDiff, Nat.reduceLeDiff, Nat.reduceLT, Int.reduceNeg, ↓reduceIte, reduceCtorEq, Int.reduceEq, Int.reduceLT, Int.reduceLE, Int.reduceBEq, Int.reduceBNe, Int.reduceToNat, IntKind.bits, Int.reduceAdd, Int.reduceSub, Int.reduceMul, Int.reduceTDiv, Int.reduceTMod, DB, f1, f3, f4, f5, quo8 k (by omega), rem8, sub7, bav_i b (k / 8) f2, shrN _ (7 - k % 8) (by omega), and1 _ (Nat.lt_of_le_of_lt (Nat.div_le_self _ _) (b.get_lt (k / 8))), bit_and, hb, f6]
      rw [ih (k + 1) (by omega)]
      congr 2
      refine decide_eq_decide.2 ⟨fun h j h1 h2 => ?_, fun h j h1 h2 => h j (by omega) h2⟩
      rcases Nat.lt_or_eq_of_le h1 with h3 | rfl
      · exact h j h3 h2
      · exact hb
  · simp only [RB, pickV, eqbV, notV, negV, convV, faddrV, fldV, idxV, eqaggV, iaddrV, isnilV, nilckV, cloV, extrV, slenV, minV, sidxV, abin, cmpInt, params, growLists, fillCells, newAt, rdPtr, wrPtr, AV.cells, asVal, lenOf, boundOf, rowsOf, argIds, freshIn, scalar1, setAll, AV.isData, AV.isYld, Nat.reduceAdd, Nat.reduceMul, Nat.reduceSub, Nat.reduceEqDiff, Nat.reduceLeDiff, Nat.reduceLT, Int.reduceNeg, ↓reduceIte, reduceCtorEq, Int.reduceEq, Int.reduceLT, Int.reduceLE, Int.reduceBEq, Int.reduceBNe, Int.reduceToNat, IntKind.bits, Int.reduceAdd, Int.reduceSub, Int.reduceMul, Int.reduceTDiv, Int.reduceTMod, DB, show ¬ (k : Int) < 128 by omega]
    rw [decide_eq_true (show Clr b k from fun j h1 h2 => absurd h2 (by omega))]
theorem e_prefix_CheckAddr (a : Adr) : LV E 76 [.agg (aav a)] = some (.int .i64 (if AddrOk a then 0 else 150)) := by
  rw [LV_R (fn := f76) rfl rfl rfl]
  simp only [f76, RB, pickV, eqbV, notV, negV, convV, faddrV, fldV, idxV, eqaggV, iaddrV, isnilV, nilckV, cloV, extrV, slenV, minV, sidxV, abin, cmpInt, params, growLists, fillCells, newAt, rdPtr, wrPtr, AV.cells, asVal, lenOf, boundOf, rowsOf, argIds, freshIn, scalar1, setAll, AV.isData, AV.isYld, Nat.reduceAdd, Nat.reduceMul, Nat.reduceSub, Nat.reduceEqDiff, Nat.reduceLeDiff, Nat.reduceLT, Int.reduceNeg, ↓reduceIte, reduceCtorEq, Int.reduceEq, Int.reduceLT, Int.reduceLE, Int.reduceBEq, Int.reduceBNe, Int.reduceToNat, IntKind.bits, Int.reduceAdd, Int.reduceSub, Int.reduceMul, Int.reduceTDiv, Int.reduceTMod, DB, e_prefix_Width, e_prefix_clear]
  (repeat' (first
    | (refine Ci_cases (fun h => ?_) (fun h => ?_) <;> simp only [h, RB, pickV, eqbV, notV, negV, convV, faddrV, fldV, idxV, eqaggV, iaddrV, isnilV, nilckV, cloV, extrV, slenV, minV, sidxV, abin, cmpInt, params, growLists, fillCells, newAt, rdPtr, wrPtr, AV.cells, asVal, lenOf, boundOf, rowsOf, argIds, freshIn, scalar1, setAll, AV.isData, AV.isYld, Nat.reduceAdd, Nat.reduceMul, Nat.reduceSub, Nat.reduceEqDiff, Nat.reduceLeDiff, Nat.reduceLT, Int.reduceNeg, ↓reduceIte, reduceCtorEq, Int.reduceEq, Int.reduceLT, Int.reduceLE, Int.reduceBEq, Int.reduceBNe, Int.reduceToNat, IntKind.bits, Int.reduceAdd, Int.reduceSub, Int.reduceMul, Int.reduceTDiv, Int.reduceTMod, DB, e_prefix_Width, e_prefix_clear])
    | (refine Gi_cases (fun h => ?_) (fun h => ?_) <;> simp only [h, RB, pickV, eqbV, notV, negV, convV, faddrV, fldV, idxV, eqaggV, iaddrV, isnilV, nilckV, cloV, extrV, slenV, minV, sidxV, abin, cmpInt, params, growLists, fillCells, newAt, rdPtr, wrPtr, AV.cells, asVal, lenOf, boundOf, rowsOf, argIds, freshIn, scalar1, setAll, AV.isData, AV.isYld, Nat.reduceAdd, Nat.reduceMul, Nat.reduceSub, Nat.reduceEqDiff, Nat.reduceLeDiff, Nat.reduceLT, Int.reduceNeg, ↓reduceIte, reduceCtorEq, Int.reduceEq, Int.reduceLT, Int.reduceLE, Int.reduceBEq, Int.reduceBNe, Int.reduceToNat, IntKind.bits, Int.reduceAdd, Int.reduceSub, Int.reduceMul, Int.reduceTDiv, Int.reduceTMod, DB, e_prefix_Width, e_prefix_clear])
    | (refine Gj_cases (fun h => ?_) (fun h => ?_) <;> simp only [h, RB, pickV, eqbV, notV, negV, convV, faddrV, fldV, idxV, eqaggV, iaddrV, isnilV, nilckV, cloV, extrV, slenV, minV, sidxV, abin, cmpInt, params, growLists, fillCells, newAt, rdPtr, wrPtr, AV.cells, asVal, lenOf, boundOf, rowsOf, argIds, freshIn, scalar1, setAll, AV.isData, AV.isYld, Nat.reduceAdd, Nat.reduceMul, Nat.reduceSub, Nat.reduceEqDiff, Nat.reduceLeDiff, Nat.reduceLT, Int.reduceNeg, ↓reduceIte, reduceCtorEq, Int.reduceEq, Int.reduceLT, Int.reduceLE, Int.reduceBEq, Int.reduceBNe, Int.reduceToNat, IntKind.bits, Int.reduceAdd, Int.reduceSub, Int.reduceMul, Int.reduceTDiv, Int.reduceTMod, DB, e_prefix_Width, e_prefix_clear])))
  all_goals simp_all [AddrOk]
theorem e_prefix_clear' (b : B16) {n : Int} (h : 0 ≤ n) : LV E 86 [.agg (bav b), .int .i64 n] = some (.bool (decide (Clr b n.toNat))) := by
  rw [show n = (n.toNat : Int) by omega, e_prefix_clear]; rfl
theorem e_prefix_Check (p : Pfx) : LV E 57 [.agg (pav p)] = some (.int .i64 (if PfxOk p then 0 else 151)) := by
  rw [LV_R (fn := f57) rfl rfl rfl]
  simp only [f57, RB, pickV, eqbV, notV, negV, convV, faddrV, fldV, idxV, eqaggV, iaddrV, isnilV, nilckV, cloV, extrV, slenV, minV, sidxV, abin, cmpInt, params, growLists, fillCells, newAt, rdPtr, wrPtr, AV.cells, asVal, lenOf, boundOf, rowsOf, argIds, freshIn, scalar1, setAll, AV.isData, AV.isYld, Nat.reduceAdd, Nat.reduceMul, Nat.reduceSub, Nat.reduceEqDiff, Nat.reduceLeDiff, Nat.reduceLT, Int.reduceNeg, ↓reduceIte, reduceCtorEq, Int.reduceEq, Int.reduceLT, Int.reduceLE, Int.reduceBEq, Int.reduceBNe, Int.reduceToNat, IntKind.bits, Int.reduceAdd, Int.reduceSub, Int.reduceMul, Int.reduceTDiv, Int.reduceTMod, DB, e_prefix_CheckAddr]
  by_cases h1 : AddrOk p.adr
  · by_cases h2 : p.bits < 0
    · simp only [RB, pickV, eqbV, notV, negV, convV, faddrV, fldV, idxV, eqaggV, iaddrV, isnilV, nilckV, cloV, extrV, slenV, minV, sidxV, abin, cmpInt, params, growLists, fillCells, newAt, rdPtr, wrPtr, AV.cells, asVal, lenOf, boundOf, rowsOf, argIds, freshIn, scalar1, setAll, AV.isData, AV.isYld, Nat.reduceAdd, Nat.reduceMul, Nat.reduceSub, Nat.reduceEqDiff, Nat.reduceLeDiff, Nat.reduceLT, Int.reduceNeg, ↓reduceIte, reduceCtorEq, Int.reduceEq, Int.reduceLT, Int.reduceLE, Int.reduceBEq, Int.reduceBNe, Int.reduceToNat, IntKind.bits, Int.reduceAdd, Int.reduceSub, Int.reduceMul, Int.reduceTDiv, Int.reduceTMod, DB, e_prefix_CheckAddr, e_prefix_Width, h1, h2]
      simp [PfxOk, h1, show ¬ 0 ≤ p.bits by omega]
    · by_cases h3 : (width p.adr.ver : Int) < p.bits
      · simp only [RB, pickV, eqbV, notV, negV, convV, faddrV, fldV, idxV, eqaggV, iaddrV, isnilV, nilckV, cloV, extrV, slenV, minV, sidxV, abin, cmpInt, params, growLists, fillCells, newAt, rdPtr, wrPtr, AV.cells, asVal, lenOf, boundOf, rowsOf, argIds, freshIn, scalar1, setAll, AV.isData, AV.isYld, Nat.reduceAdd, Nat.reduceMul, Nat.reduceSub, Nat.reduceEqDiff, Nat.reduceLeDiff, Nat.reduceLT, Int.reduceNeg, ↓reduceIte, reduceCtorEq, Int.reduceEq, Int.reduceLT, Int.reduceLE, Int.reduceBEq, Int.reduceBNe, Int.reduceToNat, IntKind.bits, Int.reduceAdd, Int.reduceSub, Int.reduceMul, Int.reduceTDiv, Int.reduceTMod, DB, e_prefix_CheckAddr, e_prefix_Width, h1, h2, h3]
        simp [PfxOk, h1, show ¬ p.bits ≤ width p.adr.ver by omega]
      · simp only [RB, pickV, eqbV, notV, negV, convV, faddrV, fldV, idxV, eqaggV, iaddrV, isnilV, nilckV, cloV, extrV, slenV, minV, sidxV, abin, cmpInt, params, growLists, fillCells, newAt, rdPtr, wrPtr, AV.cells, asVal, lenOf, boundOf, rowsOf, argIds, freshIn, scalar1, setAll, AV.isData, AV.isYld, Nat.reduceAdd, Nat.reduceMul, Nat.reduceSub, Nat.reduceEqDiff, Nat.reduceLeDiff, Nat.reduceLT, Int.reduceNeg, ↓reduceIte, reduceCtorEq, Int.reduceEq, Int.reduceLT, Int.reduceLE, Int.reduceBEq, Int.reduceBNe, Int.reduceToNat, IntKind.bits, Int.reduceAdd, Int.reduceSub, Int.reduceMul, Int.reduceTDiv, Int.reduceTMod, DB, e_prefix_CheckAddr, e_prefix_Width, h1, h2, h3, e_prefix_clear' _ (Int.not_lt.1 h2)]
        by_cases h4 : Clr p.adr.b p.bits.toNat
        · simp only [RB, pickV, eqbV, notV, negV, convV, faddrV, fldV, idxV, eqaggV, iaddrV, isnilV, nilckV, cloV, extrV, slenV, minV, sidxV, abin, cmpInt, params, growLists, fillCells, newAt, rdPtr, wrPtr, AV.cells, asVal, lenOf, boundOf, rowsOf, argIds, freshIn, scalar1, setAll, AV.isData, AV.isYld, Nat.reduceAdd, Nat.reduceMul, Nat.reduceSub, Nat.reduceEqDiff, Nat.reduceLeDiff, Nat.reduceLT, Int.reduceNeg, ↓reduceIte, reduceCtorEq, Int.reduceEq, Int.reduceLT, Int.reduceLE, Int.reduceBEq, Int.reduceBNe, Int.reduceToNat, IntKind.bits, Int.reduceAdd, Int.reduceSub, Int.reduceMul, Int.reduceTDiv, Int.reduceTMod, h4]
          simp [PfxOk, h1, h4, Int.not_lt.1 h2, Int.not_lt.1 h3]
        · simp only [RB, pickV, eqbV, notV, negV, convV, faddrV, fldV, idxV, eqaggV, iaddrV, isnilV, nilckV, cloV, extrV, slenV, minV, sidxV, abin, cmpInt, params, growLists, fillCells, newAt, rdPtr, wrPtr, AV.cells, asVal, lenOf, boundOf, rowsOf, argIds, freshIn, scalar1, setAll, AV.isData, AV.isYld, Nat.reduceAdd, Nat.reduceMul, Nat.reduceSub, Nat.reduceEqDiff, Nat.reduceLeDiff, Nat.reduceLT, Int.reduceNeg, ↓reduceIte, reduceCtorEq, Int.reduceEq, Int.reduceLT, Int.reduceLE, Int.reduceBEq, Int.reduceBNe, Int.reduceToNat, IntKind.bits, Int.reduceAdd, Int.reduceSub, Int.reduceMul, Int.reduceTDiv, Int.reduceTMod, h4]
          simp [PfxOk, h1, h4]
  · simp only [RB, pickV, eqbV, notV, negV, convV, faddrV, fldV, idxV, eqaggV, iaddrV, isnilV, nilckV, cloV, extrV, slenV, minV, sidxV, abin, cmpInt, params, growLists, fillCells, newAt, rdPtr, wrPtr, AV.cells, asVal, lenOf, boundOf, rowsOf, argIds, freshIn, scalar1, setAll, AV.isData, AV.isYld, Nat.reduceAdd, Nat.reduceMul, Nat.reduceSub, Nat.reduceEqDiff, Nat.reduceLeDiff, Nat.reduceLT, Int.reduceNeg, ↓reduceIte, reduceCtorEq, Int.reduceEq, Int.reduceLT, Int.reduceLE, Int.reduceBEq, Int.reduceBNe, Int.reduceToNat, IntKind.bits, Int.reduceAdd, Int.reduceSub, Int.reduceMul, Int.reduceTDiv, Int.reduceTMod, DB, e_prefix_CheckAddr, h1]
    simp [PfxOk, h1]
theorem e_prefix_cut (b : B16) (n : Nat) (hn : n ≤ 9223372036854775807) : LV E 99 [.agg (bav b), .int .i64 (n : Int)] = some (.agg (bav (cut b n))) := by
  rw [LV_R (fn := f99) rfl rfl rfl]
  simp only [f99, RB, pickV, eqbV, notV, negV, convV, faddrV, fldV, idxV, eqaggV, iaddrV, isnilV, nilckV, cloV, extrV, slenV, minV, sidxV, abin, cmpInt, params, growLists, fillCells, newAt, rdPtr, wrPtr, AV.cells, asVal, lenOf, boundOf, rowsOf, argIds, freshIn, scalar1, setAll, AV.isData, AV.isYld, Nat.reduceAdd, Nat.reduceMul, Nat.reduceSub, Nat.reduceEqDiff, Nat.reduceLeDiff, Nat.reduceLT, Int.reduceNeg, ↓reduceIte, reduceCtorEq, Int.reduceEq, Int.reduceLT, Int.reduceLE, Int.reduceBEq, Int.reduceBNe, Int.reduceToNat, IntKind.bits, Int.reduceAdd, Int.reduceSub, Int.reduceMul, Int.reduceTDiv, Int.reduceTMod, DB]
  rw [← cutTo_0 b n]
  refine (W_rec (ι := {k : Nat // k ≤ 16}) (M := fun k => [(1, .int .i64 (n : Int)), (2, .ptr 0 0 0 0), (4, .ptr 1 0 0 0), (7, .int .i64 (k.1 : Int))])
    (H := fun k => ⟨[.box 0 31 (bav (cutTo b n k.1)), .box 0 31 [.int .u8 0, .int .u8 0, .int .u8 0, .int .u8 0, .int .u8 0, .int .u8 0, .int .u8 0, .int .u8 0, .int .u8 0, .int .u8 0, .int .u8 0, .int .u8 0, .int .u8 0, .int .u8 0, .int .u8 0, .int .u8 0]], []⟩)
    (r := fun _ => some (AV.agg (bav (cut b n)))) (μ := fun k => 16 - k.1) (fun i => ?_) (fun k ih => ?_) ⟨0, by omega⟩).trans (by rw [cutTo_0])
  · simp [LPB]
  obtain ⟨k, hk16⟩ := k
  by_cases hk : k < 16
  · have ih := ih ⟨k + 1, by omega⟩ (by simp only; omega)
    simp only at ih
    have f1 : (k : Int) < 16 := by omega
    have f2 : IntKind.i64.wrap (8 * (k : Int)) = ((8 * k : Nat) : Int) := by rw [IntWalk.i64_in _ (by omega)] <;> omega
    have f3 : IntKind.i64.wrap ((n : Int) - ((8 * k : Nat) : Int)) = (n : Int) - ((8 * k : Nat) : Int) := IntWalk.i64_in _ (by omega)
    have f4 : (0 : Int) ≤ (k : Int) := by omega
    have f6 : IntKind.i64.wrap ((k : Int) + 1) = ((k + 1 : Nat) : Int) := by rw [IntWalk.i64_in _ (by omega)] <;> omega
    have g := cutTo_get b n k hk
    rw [if_neg (Nat.lt_irrefl k)] at g
    by_cases h1 : n ≤ 8 * k
    · simp only [RB, pickV, eqbV, notV, negV, convV, faddrV, fldV, idxV, eqaggV, iaddrV, isnilV, nilckV, cloV, extrV, slenV, minV, sidxV, abin, cmpInt, params, growLists, fillCells, newAt, rdPtr, wrPtr, AV.cells, asVal, lenOf, boundOf, rowsOf, argIds, freshIn, scalar1, setAll, AV.isData, AV.isYld, Nat.reduceAdd, Nat.reduceMul, Nat.reduceSub, Nat.reduceEqDiff, Nat.reduceLeDiff, Nat.reduceLT, Int.reduceNeg, ↓reduceIte, reduceCtorEq, Int.reduceEq, Int.reduceLT, Int.reduceLE, Int.reduceBEq, Int.reduceBNe, Int.reduceToNat, IntKind.bits, Int.reduceAdd, Int.reduceSub, Int.reduceMul, Int.reduceTDiv, Int.reduceTMod, DB, f1, f2, f3, f4, f6, show (n : Int) - ((8 * k : Nat) : Int) ≤ 0 by omega, bav_put0 _ hk]
      rw [cutTo_put b n k hk (by unfold cutN; rw [show 8 - (n - 8 * k) = 8 by omega, Nat.div_eq_of_lt (b.get_lt k), Nat.zero_mul])]
      exact ih
    · by_cases h2 : n < 8 * k + 8
      · have f7 : IntKind.i64.wrap (8 - ((n : Int) - ((8 * k : Nat) : Int))) = ((8 - (n - 8 * k) : Nat) : Int) := by rw [IntWalk.i64_in _ (by omega)] <;> omega
        have f8 : (0 : Int) ≤ ((8 - (n - 8 * k) : Nat) : Int) := by omega
        have f9 : b.get k / 2 ^ (8 - (n - 8 * k)) * 2 ^ (8 - (n - 8 * k)) < 256 := Nat.lt_of_le_of_lt (cutN_le _ _) (b.get_lt k)
        simp only [RB, pickV, eqbV, notV, negV, convV, faddrV, fldV, idxV, eqaggV, iaddrV, isnilV, nilckV, cloV, extrV, slenV, minV, sidxV, abin, cmpInt, params, growLists, fillCells, newAt, rdPtr, wrPtr, AV.cells, asVal, lenOf, boundOf, rowsOf, argIds, freshIn, scalar1, setAll, AV.isData, AV.isYld, Nat.reduceAdd, Nat.reduceMul, Nat.reduceSub, Nat.reduceEqDiff, Nat.reduceLeDiff, Nat.reduceLT, Int.reduceNeg, ↓reduceIte, reduceCtorEq, Int.reduceEq, Int.reduceLT, Int.reduceLE, Int.reduceBEq, Int.reduceBNe, Int.reduceToNat, IntKind.bits, Int.reduceAdd, Int.reduceSub, Int.reduceMul, Int.reduceTDiv, Int.reduceTMod, DB, f1, f2, f3, f4, f6, f7, f8, show ¬ (n : Int) - ((8 * k : Nat) : Int) ≤ 0 by omega, show (n : Int) - ((8 * k : Nat) : Int) < 8 by omega, bav_i _ k hk, g, and255 _ (8 - (n - 8 * k)) (b.get_lt k) (by omega), bav_put _ hk f9]
        rw [cutTo_put b n k hk (show b.get k / 2 ^ (8 - (n - 8 * k)) * 2 ^ (8 - (n - 8 * k)) = cutN (b.get k) (n - 8 * k) from rfl)]
        exact ih
      · simp only [RB, pickV, eqbV, notV, negV, convV, faddrV, fldV, idxV, eqaggV, iaddrV, isnilV, nilckV, cloV, extrV, slenV, minV, sidxV, abin, cmpInt, params, growLists, fillCells, newAt, rdPtr, wrPtr, AV.cells, asVal, lenOf, boundOf, rowsOf, argIds, freshIn, scalar1, setAll, AV.isData, AV.isYld, Nat.reduceAdd, Nat.reduceMul, Nat.reduceSub, Nat.reduceEqDiff, Nat.reduceLeDiff, Nat.reduceLT, Int.reduceNeg, ↓reduceIte, reduceCtorEq, Int.reduceEq, Int.reduceLT, Int.reduceLE, Int.reduceBEq, Int.reduceBNe, Int.reduceToNat, IntKind.bits, Int.reduceAdd, Int.reduceSub, Int.reduceMul, Int.reduceTDiv, Int.reduceTMod, DB, f1, f2, f3, f4, f6, show ¬ (n : Int) - ((8 * k : Nat) : Int) ≤ 0 by omega, show ¬ (n : Int) - ((8 * k : Nat) : Int) < 8 by omega]
        rw [cutTo_same b n k (by unfold cutN; rw [show 8 - (n - 8 * k) = 0 by omega]; simp)]
        exact ih
  · have : k = 16 := by omega
    subst this
    simp only [RB, pickV, eqbV, notV, negV, convV, faddrV, fldV, idxV, eqaggV, iaddrV, isnilV, nilckV, cloV, extrV, slenV, minV, sidxV, abin, cmpInt, params, growLists, fillCells, newAt, rdPtr, wrPtr, AV.cells, asVal, lenOf, boundOf, rowsOf, argIds, freshIn, scalar1, setAll, AV.isData, AV.isYld, Nat.reduceAdd, Nat.reduceMul, Nat.reduceSub, Nat.reduceEqDiff, Nat.reduceLeDiff, Nat.reduceLT, Int.reduceNeg, ↓reduceIte, reduceCtorEq, Int.reduceEq, Int.reduceLT, Int.reduceLE, Int.reduceBEq, Int.reduceBNe, Int.reduceToNat, IntKind.bits, Int.reduceAdd, Int.reduceSub, Int.reduceMul, Int.reduceTDiv, Int.reduceTMod, DB, show ¬ ((16 : Nat) : Int) < 16 by omega, cutTo_16]
theorem e_prefix_cut' (b : B16) {n : Int} (h : 0 ≤ n) (h' : n ≤ 128) : LV E 99 [.agg (bav b), .int .i64 n] = some (.agg (bav (cut b n.toNat))) := by
  rw [show n = (n.toNat : Int) by omega, e_prefix_cut _ _ (by omega)]; rfl
theorem e_prefix_Has (p : Pfx) (a : Adr) : LV E 77 [.agg (pav p), .agg (aav a)] = some (.bool (decide (Has p a))) := by
  rw [LV_R (fn := f77) rfl rfl rfl]
  simp only [f77, RB, pickV, eqbV, notV, negV, convV, faddrV, fldV, idxV, eqaggV, iaddrV, isnilV, nilckV, cloV, extrV, slenV, minV, sidxV, abin, cmpInt, params, growLists, fillCells, newAt, rdPtr, wrPtr, AV.cells, asVal, lenOf, boundOf, rowsOf, argIds, freshIn, scalar1, setAll, AV.isData, AV.isYld, Nat.reduceAdd, Nat.reduceMul, Nat.reduceSub, Nat.reduceEqDiff, Nat.reduceLeDiff, Nat.reduceLT, Int.reduceNeg, ↓reduceIte, reduceCtorEq, Int.reduceEq, Int.reduceLT, Int.reduceLE, Int.reduceBEq, Int.reduceBNe, Int.reduceToNat, IntKind.bits, Int.reduceAdd, Int.reduceSub, Int.reduceMul, Int.reduceTDiv, Int.reduceTMod, DB, e_prefix_Check]
  by_cases h1 : PfxOk p
  · by_cases h2 : AddrOk a
    · by_cases h3 : p.adr.ver = a.ver
      · have h4 : p.bits ≤ 128 := by have := h1.2.2.1; have := width_le p.adr.ver; omega
        simp only [RB, pickV, eqbV, notV, negV, convV, faddrV, fldV, idxV, eqaggV, iaddrV, isnilV, nilckV, cloV, extrV, slenV, minV, sidxV, abin, cmpInt, params, growLists, fillCells, newAt, rdPtr, wrPtr, AV.cells, asVal, lenOf, boundOf, rowsOf, argIds, freshIn, scalar1, setAll, AV.isData, AV.isYld, Nat.reduceAdd, Nat.reduceMul, Nat.reduceSub, Nat.reduceEqDiff, Nat.reduceLeDiff, Nat.reduceLT, Int.reduceNeg, ↓reduceIte, reduceCtorEq, Int.reduceEq, Int.reduceLT, Int.reduceLE, Int.reduceBEq, Int.reduceBNe, Int.reduceToNat, IntKind.bits, Int.reduceAdd, Int.reduceSub, Int.reduceMul, Int.reduceTDiv, Int.reduceTMod, DB, e_prefix_Check, e_prefix_CheckAddr, h1, h2, h3, bne_self_eq_false, e_prefix_cut' _ h1.2.1 h4]
        simp [Has, h1, h2, h3]
      · simp only [RB, pickV, eqbV, notV, negV, convV, faddrV, fldV, idxV, eqaggV, iaddrV, isnilV, nilckV, cloV, extrV, slenV, minV, sidxV, abin, cmpInt, params, growLists, fillCells, newAt, rdPtr, wrPtr, AV.cells, asVal, lenOf, boundOf, rowsOf, argIds, freshIn, scalar1, setAll, AV.isData, AV.isYld, Nat.reduceAdd, Nat.reduceMul, Nat.reduceSub, Nat.reduceEqDiff, Nat.reduceLeDiff, Nat.reduceLT, Int.reduceNeg, ↓reduceIte, reduceCtorEq, Int.reduceEq, Int.reduceLT, Int.reduceLE, Int.reduceBEq, Int.reduceBNe, Int.reduceToNat, IntKind.bits, Int.reduceAdd, Int.reduceSub, Int.reduceMul, Int.reduceTDiv, Int.reduceTMod, DB, e_prefix_Check, e_prefix_CheckAddr, h1, h2, bne_iff_ne.2 h3]
        simp [Has, h1, h2, h3]
    · simp only [RB, pickV, eqbV, notV, negV, convV, faddrV, fldV, idxV, eqaggV, iaddrV, isnilV, nilckV, cloV, extrV, slenV, minV, sidxV, abin, cmpInt, params, growLists, fillCells, newAt, rdPtr, wrPtr, AV.cells, asVal, lenOf, boundOf, rowsOf, argIds, freshIn, scalar1, setAll, AV.isData, AV.isYld, Nat.reduceAdd, Nat.reduceMul, Nat.reduceSub, Nat.reduceEqDiff, Nat.reduceLeDiff, Nat.reduceLT, Int.reduceNeg, ↓reduceIte, reduceCtorEq, Int.reduceEq, Int.reduceLT, Int.reduceLE, Int.reduceBEq, Int.reduceBNe, Int.reduceToNat, IntKind.bits, Int.reduceAdd, Int.reduceSub, Int.reduceMul, Int.reduceTDiv, Int.reduceTMod, DB, e_prefix_Check, e_prefix_CheckAddr, h1, h2]
      simp [Has, h1, h2]
  · simp only [RB, pickV, eqbV, notV, negV, convV, faddrV, fldV, idxV, eqaggV, iaddrV, isnilV, nilckV, cloV, extrV, slenV, minV, sidxV, abin, cmpInt, params, growLists, fillCells, newAt, rdPtr, wrPtr, AV.cells, asVal, lenOf, boundOf, rowsOf, argIds, freshIn, scalar1, setAll, AV.isData, AV.isYld, Nat.reduceAdd, Nat.reduceMul, Nat.reduceSub, Nat.reduceEqDiff, Nat.reduceLeDiff, Nat.reduceLT, Int.reduceNeg, ↓reduceIte, reduceCtorEq, Int.reduceEq, Int.reduceLT, Int.reduceLE, Int.reduceBEq, Int.reduceBNe, Int.reduceToNat, IntKind.bits, Int.reduceAdd, Int.reduceSub, Int.reduceMul, Int.reduceTDiv, Int.reduceTMod, DB, e_prefix_Check, h1]
    simp [Has, h1]
theorem e_prefix_Holds (p q : Pfx) : LV E 71 [.agg (pav p), .agg (pav q)] = some (.bool (decide (Holds p q))) := by
  rw [LV_R (fn := f71) rfl rfl rfl]
  simp only [f71, RB, pickV, eqbV, notV, negV, convV, faddrV, fldV, idxV, eqaggV, iaddrV, isnilV, nilckV, cloV, extrV, slenV, minV, sidxV, abin, cmpInt, params, growLists, fillCells, newAt, rdPtr, wrPtr, AV.cells, asVal, lenOf, boundOf, rowsOf, argIds, freshIn, scalar1, setAll, AV.isData, AV.isYld, Nat.reduceAdd, Nat.reduceMul, Nat.reduceSub, Nat.reduceEqDiff, Nat.reduceLeDiff, Nat.reduceLT, Int.reduceNeg, ↓reduceIte, reduceCtorEq, Int.reduceEq, Int.reduceLT, Int.reduceLE, Int.reduceBEq, Int.reduceBNe, Int.reduceToNat, IntKind.bits, Int.reduceAdd, Int.reduceSub, Int.reduceMul, Int.reduceTDiv, Int.reduceTMod, DB, e_prefix_Check]
  by_cases h1 : PfxOk q
  · by_cases h2 : p.bits ≤ q.bits
    · simp only [RB, pickV, eqbV, notV, negV, convV, faddrV, fldV, idxV, eqaggV, iaddrV, isnilV, nilckV, cloV, extrV, slenV, minV, sidxV, abin, cmpInt, params, growLists, fillCells, newAt, rdPtr, wrPtr, AV.cells, asVal, lenOf, boundOf, rowsOf, argIds, freshIn, scalar1, setAll, AV.isData, AV.isYld, Nat.reduceAdd, Nat.reduceMul, Nat.reduceSub, Nat.reduceEqDiff, Nat.reduceLeDiff, Nat.reduceLT, Int.reduceNeg, ↓reduceIte, reduceCtorEq, Int.reduceEq, Int.reduceLT, Int.reduceLE, Int.reduceBEq, Int.reduceBNe, Int.reduceToNat, IntKind.bits, Int.reduceAdd, Int.reduceSub, Int.reduceMul, Int.reduceTDiv, Int.reduceTMod, DB, e_prefix_Check, e_prefix_Has, h1, h2]
      simp [Holds, h1, h2]
    · simp only [RB, pickV, eqbV, notV, negV, convV, faddrV, fldV, idxV, eqaggV, iaddrV, isnilV, nilckV, cloV, extrV, slenV, minV, sidxV, abin, cmpInt, params, growLists, fillCells, newAt, rdPtr, wrPtr, AV.cells, asVal, lenOf, boundOf, rowsOf, argIds, freshIn, scalar1, setAll, AV.isData, AV.isYld, Nat.reduceAdd, Nat.reduceMul, Nat.reduceSub, Nat.reduceEqDiff, Nat.reduceLeDiff, Nat.reduceLT, Int.reduceNeg, ↓reduceIte, reduceCtorEq, Int.reduceEq, Int.reduceLT, Int.reduceLE, Int.reduceBEq, Int.reduceBNe, Int.reduceToNat, IntKind.bits, Int.reduceAdd, Int.reduceSub, Int.reduceMul, Int.reduceTDiv, Int.reduceTMod, DB, e_prefix_Check, h1, h2]
      simp [Holds, h1, h2]
  · simp only [RB, pickV, eqbV, notV, negV, convV, faddrV, fldV, idxV, eqaggV, iaddrV, isnilV, nilckV, cloV, extrV, slenV, minV, sidxV, abin, cmpInt, params, growLists, fillCells, newAt, rdPtr, wrPtr, AV.cells, asVal, lenOf, boundOf, rowsOf, argIds, freshIn, scalar1, setAll, AV.isData, AV.isYld, Nat.reduceAdd, Nat.reduceMul, Nat.reduceSub, Nat.reduceEqDiff, Nat.reduceLeDiff, Nat.reduceLT, Int.reduceNeg, ↓reduceIte, reduceCtorEq, Int.reduceEq, Int.reduceLT, Int.reduceLE, Int.reduceBEq, Int.reduceBNe, Int.reduceToNat, IntKind.bits, Int.reduceAdd, Int.reduceSub, Int.reduceMul, Int.reduceTDiv, Int.reduceTMod, DB, e_prefix_Check, h1]
    simp [Holds, h1]
end Go.Proofs.YtdllnneeopbmdaaDoor.F

/- The order of prefixes: what the program tells. No condition. -/
set_option linter.unusedSimpArgs false
namespace Go.Proofs.YtdllnneeopbmdaaDoor.F
open Go Go.Proofs.YtdllnneeopbmdaaDoor.A Go.Proofs.YtdllnneeopbmdaaDoor.D
theorem e_bytes_Compare (a b : B16) : LV E 93 [.ro (brows a), .ro (brows b)] = some (.int .i64 (lexL (ints a) (ints b))) := by
  rw [LV_R (fn := f93) rfl rfl rfl]
  have h : LV E 102 [.ro (brows a), .ro (brows b)] = some (.int .i64 (lexL (ints a) (ints b))) := by
    rw [LV_prim (p := pCmp) rfl, cmp_b16]; rfl
  simp only [f93, RB, pickV, eqbV, notV, negV, convV, faddrV, fldV, idxV, eqaggV, iaddrV, isnilV, nilckV, cloV, extrV, slenV, minV, sidxV, abin, cmpInt, params, growLists, fillCells, newAt, rdPtr, wrPtr, AV.cells, asVal, lenOf, boundOf, rowsOf, argIds, freshIn, scalar1, setAll, AV.isData, AV.isYld, Nat.reduceAdd, Nat.reduceMul, Nat.reduceSub, Nat.reduceEqDiff, Nat.reduceLeDiff, Nat.reduceLT, Int.reduceNeg, ↓reduceIte, reduceCtorEq, Int.reduceEq, Int.reduceLT, Int.reduceLE, Int.reduceBEq, Int.reduceBNe, Int.reduceToNat, IntKind.bits, Int.reduceAdd, Int.reduceSub, Int.reduceMul, Int.reduceTDiv, Int.reduceTMod, h]
theorem e_cmp_Or_int (a b c : Int) : LV E 69 [.clip [[.int .i64 a], [.int .i64 b], [.int .i64 c]]] = some (.int .i64 (if a ≠ 0 then a else if b ≠ 0 then b else c)) := by
  rw [LV_R (fn := f69) rfl rfl rfl]
  simp only [f69, RB, pickV, eqbV, notV, negV, convV, faddrV, fldV, idxV, eqaggV, iaddrV, isnilV, nilckV, cloV, extrV, slenV, minV, sidxV, abin, cmpInt, params, growLists, fillCells, newAt, rdPtr, wrPtr, AV.cells, asVal, lenOf, boundOf, rowsOf, argIds, freshIn, scalar1, setAll, AV.isData, AV.isYld, Nat.reduceAdd, Nat.reduceMul, Nat.reduceSub, Nat.reduceEqDiff, Nat.reduceLeDiff, Nat.reduceLT, Int.reduceNeg, ↓reduceIte, reduceCtorEq, Int.reduceEq, Int.reduceLT, Int.reduceLE, Int.reduceBEq, Int.reduceBNe, Int.reduceToNat, IntKind.bits, Int.reduceAdd, Int.reduceSub, Int.reduceMul, Int.reduceTDiv, Int.reduceTMod]
  by_cases ha : a = 0
  · subst ha
    by_cases hb : b = 0
    · subst hb
      by_cases hc : c = 0
      · subst hc
        simp only [RB, pickV, eqbV, notV, negV, convV, faddrV, fldV, idxV, eqaggV, iaddrV, isnilV, nilckV, cloV, extrV, slenV, minV, sidxV, abin, cmpInt, params, growLists, fillCells, newAt, rdPtr, wrPtr, AV.cells, asVal, lenOf, boundOf, rowsOf, argIds, freshIn, scalar1, setAll, AV.isData, AV.isYld, Nat.reduceAdd, Nat.reduceMul, Nat.reduceSub, Nat.reduceEqDiff, Nat.reduceLeDiff, Nat.reduceLT, Int.reduceNeg, ↓reduceIte, reduceCtorEq, Int.reduceEq, Int.reduceLT, Int.reduceLE, Int.reduceBEq, Int.reduceBNe, Int.reduceToNat, IntKind.bits, Int.reduceAdd, Int.reduceSub, Int.reduceMul, Int.reduceTDiv, Int.reduceTMod, W_go, LPB, bne_self_eq_false, Nat.le_refl, IntWalk.i64_in]
      · simp only [RB, pickV, eqbV, notV, negV, convV, faddrV, fldV, idxV, eqaggV, iaddrV, isnilV, nilckV, cloV, extrV, slenV, minV, sidxV, abin, cmpInt, params, growLists, fillCells, newAt, rdPtr, wrPtr, AV.cells, asVal, lenOf, boundOf, rowsOf, argIds, freshIn, scalar1, setAll, AV.isData, AV.isYld, Nat.reduceAdd, Nat.reduceMul, Nat.reduceSub, Nat.reduceEqDiff, Nat.reduceLeDiff, Nat.reduceLT, Int.reduceNeg, ↓reduceIte, reduceCtorEq, Int.reduceEq, Int.reduceLT, Int.reduceLE, Int.reduceBEq, Int.reduceBNe, Int.reduceToNat, IntKind.bits, Int.reduceAdd, Int.reduceSub, Int.reduceMul, Int.reduceTDiv, Int.reduceTMod, W_go, LPB, bne_self_eq_false, bne_iff_ne.2 hc, Nat.le_refl]
    · simp only [RB, pickV, eqbV, notV, negV, convV, faddrV, fldV, idxV, eqaggV, iaddrV, isnilV, nilckV, cloV, extrV, slenV, minV, sidxV, abin, cmpInt, params, growLists, fillCells, newAt, rdPtr, wrPtr, AV.cells, asVal, lenOf, boundOf, rowsOf, argIds, freshIn, scalar1, setAll, AV.isData, AV.isYld, Nat.reduceAdd, Nat.reduceMul, Nat.reduceSub, Nat.reduceEqDiff, Nat.reduceLeDiff, Nat.reduceLT, Int.reduceNeg, ↓reduceIte, reduceCtorEq, Int.reduceEq, Int.reduceLT, Int.reduceLE, Int.reduceBEq, Int.reduceBNe, Int.reduceToNat, IntKind.bits, Int.reduceAdd, Int.reduceSub, Int.reduceMul, Int.reduceTDiv, Int.reduceTMod, W_go, LPB, bne_self_eq_false, bne_iff_ne.2 hb, hb]
  · simp only [RB, pickV, eqbV, notV, negV, convV, faddrV, fldV, idxV, eqaggV, iaddrV, isnilV, nilckV, cloV, extrV, slenV, minV, sidxV, abin, cmpInt, params, growLists, fillCells, newAt, rdPtr, wrPtr, AV.cells, asVal, lenOf, boundOf, rowsOf, argIds, freshIn, scalar1, setAll, AV.isData, AV.isYld, Nat.reduceAdd, Nat.reduceMul, Nat.reduceSub, Nat.reduceEqDiff, Nat.reduceLeDiff, Nat.reduceLT, Int.reduceNeg, ↓reduceIte, reduceCtorEq, Int.reduceEq, Int.reduceLT, Int.reduceLE, Int.reduceBEq, Int.reduceBNe, Int.reduceToNat, IntKind.bits, Int.reduceAdd, Int.reduceSub, Int.reduceMul, Int.reduceTDiv, Int.reduceTMod, W_go, LPB, bne_self_eq_false, bne_iff_ne.2 ha, ha]
theorem e_prefix_Compare (p q : Pfx) : LV E 66 [.agg (pav p), .agg (pav q)] = some (.int .i64 (cmpP p q)) := by
  rw [LV_R (fn := f66) rfl rfl rfl]
  have hb : ∀ b : B16, (bav b).map (fun c => [c]) = brows b := fun _ => rfl
  simp only [f66, RB, pickV, eqbV, notV, negV, convV, faddrV, fldV, idxV, eqaggV, iaddrV, isnilV, nilckV, cloV, extrV, slenV, minV, sidxV, abin, cmpInt, params, growLists, fillCells, newAt, rdPtr, wrPtr, AV.cells, asVal, lenOf, boundOf, rowsOf, argIds, freshIn, scalar1, setAll, AV.isData, AV.isYld, Nat.reduceAdd, Nat.reduceMul, Nat.reduceSub, Nat.reduceEqDiff, Nat.reduceLeDiff, Nat.reduceLT, Int.reduceNeg, ↓reduceIte, reduceCtorEq, Int.reduceEq, Int.reduceLT, Int.reduceLE, Int.reduceBEq, Int.reduceBNe, Int.reduceToNat, IntKind.bits, Int.reduceAdd, Int.reduceSub, Int.reduceMul, Int.reduceTDiv, Int.reduceTMod, DB, e_cmp_Compare_int, aop, O_buildSlq, quietOk, hb, e_bytes_Compare, e_cmp_Or_int, fillRows, asData]
  rw [cmp_key]
end Go.Proofs.YtdllnneeopbmdaaDoor.F

/- The document's answer for prefixes: what its functions tell. No condition. -/
set_option linter.unusedSimpArgs false
namespace Go.Proofs.YtdllnneeopbmdaaDoor.F
open Go Go.Proofs.YtdllnneeopbmdaaDoor.A Go.Proofs.YtdllnneeopbmdaaDoor.D
theorem e_ref05_Width (v : Int) : LV E 72 [.int .i64 v] = some (.int .i64 (width v)) := by
  rw [LV_R (fn := f72) rfl rfl rfl]
  simp only [f72, RB, pickV, eqbV, notV, negV, convV, faddrV, fldV, idxV, eqaggV, iaddrV, isnilV, nilckV, cloV, extrV, slenV, minV, sidxV, abin, cmpInt, params, growLists, fillCells, newAt, rdPtr, wrPtr, AV.cells, asVal, lenOf, boundOf, rowsOf, argIds, freshIn, scalar1, setAll, AV.isData, AV.isYld, Nat.reduceAdd, Nat.reduceMul, Nat.reduceSub, Nat.reduceEqDiff, Nat.reduceLeDiff, Nat.reduceLT, Int.reduceNeg, ↓reduceIte, reduceCtorEq, Int.reduceEq, Int.reduceLT, Int.reduceLE, Int.reduceBEq, Int.reduceBNe, Int.reduceToNat, IntKind.bits, Int.reduceAdd, Int.reduceSub, Int.reduceMul, Int.reduceTDiv, Int.reduceTMod]
  by_cases h1 : v = 4
  · subst h1; simp only [RB, pickV, eqbV, notV, negV, convV, faddrV, fldV, idxV, eqaggV, iaddrV, isnilV, nilckV, cloV, extrV, slenV, minV, sidxV, abin, cmpInt, params, growLists, fillCells, newAt, rdPtr, wrPtr, AV.cells, asVal, lenOf, boundOf, rowsOf, argIds, freshIn, scalar1, setAll, AV.isData, AV.isYld, Nat.reduceAdd, Nat.reduceMul, Nat.reduceSub, Nat.reduceEqDiff, Nat.reduceLeDiff, Nat.reduceLT, Int.reduceNeg, ↓reduceIte, reduceCtorEq, Int.reduceEq, Int.reduceLT, Int.reduceLE, Int.reduceBEq, Int.reduceBNe, Int.reduceToNat, IntKind.bits, Int.reduceAdd, Int.reduceSub, Int.reduceMul, Int.reduceTDiv, Int.reduceTMod]; rfl
  · by_cases h2 : v = 6
    · subst h2; simp only [RB, pickV, eqbV, notV, negV, convV, faddrV, fldV, idxV, eqaggV, iaddrV, isnilV, nilckV, cloV, extrV, slenV, minV, sidxV, abin, cmpInt, params, growLists, fillCells, newAt, rdPtr, wrPtr, AV.cells, asVal, lenOf, boundOf, rowsOf, argIds, freshIn, scalar1, setAll, AV.isData, AV.isYld, Nat.reduceAdd, Nat.reduceMul, Nat.reduceSub, Nat.reduceEqDiff, Nat.reduceLeDiff, Nat.reduceLT, Int.reduceNeg, ↓reduceIte, reduceCtorEq, Int.reduceEq, Int.reduceLT, Int.reduceLE, Int.reduceBEq, Int.reduceBNe, Int.reduceToNat, IntKind.bits, Int.reduceAdd, Int.reduceSub, Int.reduceMul, Int.reduceTDiv, Int.reduceTMod]; rfl
    · simp only [RB, pickV, eqbV, notV, negV, convV, faddrV, fldV, idxV, eqaggV, iaddrV, isnilV, nilckV, cloV, extrV, slenV, minV, sidxV, abin, cmpInt, params, growLists, fillCells, newAt, rdPtr, wrPtr, AV.cells, asVal, lenOf, boundOf, rowsOf, argIds, freshIn, scalar1, setAll, AV.isData, AV.isYld, Nat.reduceAdd, Nat.reduceMul, Nat.reduceSub, Nat.reduceEqDiff, Nat.reduceLeDiff, Nat.reduceLT, Int.reduceNeg, ↓reduceIte, reduceCtorEq, Int.reduceEq, Int.reduceLT, Int.reduceLE, Int.reduceBEq, Int.reduceBNe, Int.reduceToNat, IntKind.bits, Int.reduceAdd, Int.reduceSub, Int.reduceMul, Int.reduceTDiv, Int.reduceTMod, beq_eq_false_iff_ne.2 h1, beq_eq_false_iff_ne.2 h2]
      simp [width, h1, h2]
def b01 (b : Bool) : Int := if b then 1 else 0
theorem e_ref05_at (b : B16) (k : Nat) (hk : k < 128) : LV E 73 [.agg (bav b), .int .i64 (k : Int)] = some (.int .i64 (b01 (bit b k))) := by
  rw [LV_R (fn := f73) rfl rfl rfl]
  have f2 : k / 8 < 16 := by omega
  have f3 : ((k / 8 : Nat) : Int) < 16 := by omega
  have f4 : (0 : Int) ≤ ((k / 8 : Nat) : Int) := by omega
  have f5 : (0 : Int) ≤ ((7 - k % 8 : Nat) : Int) := by omega
  have f6 : IntKind.u64.wrap ((7 - k % 8 : Nat) : Int) = ((7 - k % 8 : Nat) : Int) := IntWalk.u64_in _ (by omega)
  have f7 : IntKind.i64.wrap (b.get (k / 8) : Int) = (b.get (k / 8) : Int) := IntWalk.i64_in _ (by have := b.get_lt (k / 8); omega)
  have f8 : ((b.get (k / 8) : Int).fdiv (2 ^ (Nat.min (7 - k % 8) 64))) = ((b.get (k / 8) / 2 ^ (7 - k % 8) : Nat) : Int) := by
    rw [show Nat.min (7 - k % 8) 64 = 7 - k % 8 from Nat.min_eq_left (by omega), Int.fdiv_eq_ediv_of_nonneg _ (Int.pow_nonneg (by decide))]
    simp
  have f9 : ((b.get (k / 8) / 2 ^ (7 - k % 8) : Nat) : Int).tmod 2 = b01 (bit b k) := by
    rw [Int.tmod_eq_emod_of_nonneg (Int.natCast_nonneg _)]
    exact bit_and b k
  simp only [f73, RB, pickV, eqbV, notV, negV, convV, faddrV, fldV, idxV, eqaggV, iaddrV, isnilV, nilckV, cloV, extrV, slenV, minV, sidxV, abin, cmpInt, params, growLists, fillCells, newAt, rdPtr, wrPtr, AV.cells, asVal, lenOf, boundOf, rowsOf, argIds, freshIn, scalar1, setAll, AV.isData, AV.isYld, Nat.reduceAdd, Nat.reduceMul, Nat.reduceSub, Nat.reduceEqDiff, Nat.reduceLeDiff, Nat.reduceLT, Int.reduceNeg, ↓reduceIte, reduceCtorEq, Int.reduceEq, Int.reduceLT, Int.reduceLE, Int.reduceBEq, Int.reduceBNe, Int.reduceToNat, IntKind.bits, Int.reduceAdd, Int.reduceSub, Int.reduceMul, Int.reduceTDiv, Int.reduceTMod, DB, f3, f4, f5, f6, f7, f8, f9, quo8 k (by omega), rem8, sub7, bav_i b (k / 8) f2]
theorem b01_eq (b : Bool) : (b01 b == 1) = b := by cases b <;> rfl
theorem b01_ne (a b : Bool) : (b01 a != b01 b) = (a != b) := by cases a <;> cases b <;> rfl
theorem e_ref05_RightAddr (a : Adr) : LV E 43 [.agg (aav a)] = some (.bool (decide (AddrOk a))) := by
  rw [LV_R (fn := f43) rfl rfl rfl]
  simp only [f43, RB, pickV, eqbV, notV, negV, convV, faddrV, fldV, idxV, eqaggV, iaddrV, isnilV, nilckV, cloV, extrV, slenV, minV, sidxV, abin, cmpInt, params, growLists, fillCells, newAt, rdPtr, wrPtr, AV.cells, asVal, lenOf, boundOf, rowsOf, argIds, freshIn, scalar1, setAll, AV.isData, AV.isYld, Nat.reduceAdd, Nat.reduceMul, Nat.reduceSub, Nat.reduceEqDiff, Nat.reduceLeDiff, Nat.reduceLT, Int.reduceNeg, ↓reduceIte, reduceCtorEq, Int.reduceEq, Int.reduceLT, Int.reduceLE, Int.reduceBEq, Int.reduceBNe, Int.reduceToNat, IntKind.bits, Int.reduceAdd, Int.reduceSub, Int.reduceMul, Int.reduceTDiv, Int.reduceTMod, DB, e_ref05_Width]
  refine (W_rec (β := AV) (ι := Nat) (M := fun k => [(1, .ptr 0 0 0 0), (3, .int .i64 (width a.ver : Int)), (4, .int .i64 (k : Int))]) (H := fun _ => ⟨[.box 0 33 (aav a)], []⟩) (r := fun k => some (AV.bool (decide (width a.ver ≠ 0 ∧ Clr a.b k)))) (μ := fun k => 128 - k) (fun i => ?_) (fun k ih => ?_) (width a.ver)).trans ?_
  · simp [LPB]
  · by_cases hk : k < 128
    · have f1 : (k : Int) < 128 := by omega
      have f6 : IntKind.i64.wrap ((k : Int) + 1) = ((k + 1 : Nat) : Int) := by rw [IntWalk.i64_in _ (by omega)] <;> omega
      have ih := ih (k + 1) (by omega)
      cases hb : bit a.b k with
      | true =>
        simp only [RB, pickV, eqbV, notV, negV, convV, faddrV, fldV, idxV, eqaggV, iaddrV, isnilV, nilckV, cloV, extrV, slenV, minV, sidxV, abin, cmpInt, params, growLists, fillCells, newAt, rdPtr, wrPtr, AV.cells, asVal, lenOf, boundOf, rowsOf, argIds, freshIn, scalar1, setAll, AV.isData, AV.isYld, Nat.reduceAdd, Nat.reduceMul, Nat.reduceSub, Nat.reduceEqDiff, Nat.reduceLeDiff, Nat.reduceLT, Int.reduceNeg, ↓reduceIte, reduceCtorEq, Int.reduceEq, Int.reduceLT, Int.reduceLE, Int.reduceBEq, Int.reduceBNe, Int.reduceToNat, IntKind.bits, Int.reduceAdd, Int.reduceSub, Int.reduceMul, Int.reduceTDiv, Int.reduceTMod, DB, f1, e_ref05_at _ k hk, b01_eq, hb]
        rw [decide_eq_false fun hc => by rw [hc.2 k (Nat.le_refl _) hk] at hb; cases hb]
      | false =>
        simp only [RB, pickV, eqbV, notV, negV, convV, faddrV, fldV, idxV, eqaggV, iaddrV, isnilV, nilckV, cloV, extrV, slenV, minV, sidxV, abin, cmpInt, params, growLists, fillCells, newAt, rdPtr, wrPtr, AV.cells, asVal, lenOf, boundOf, rowsOf, argIds, freshIn, scalar1, setAll, AV.isData, AV.isYld, Nat.reduceAdd, Nat.reduceMul, Nat.reduceSub, Nat.reduceEqDiff, Nat.reduceLeDiff, Nat.reduceLT, Int.reduceNeg, ↓reduceIte, reduceCtorEq, Int.reduceEq, Int.reduceLT, Int.reduceLE, Int.reduceBEq, Int.reduceBNe, Int.reduceToNat, IntKind.bits, Int.reduceAdd, Int.reduceSub, Int.reduceMul, Int.reduceTDiv, Int.reduceTMod, DB, f1, e_ref05_at _ k hk, b01_eq, hb, f6]
        rw [ih]
        congr 2
        refine decide_eq_decide.2 (and_congr_right fun _ => ⟨fun h j h1 h2 => ?_, fun h j h1 h2 => h j (by omega) h2⟩)
        rcases Nat.lt_or_eq_of_le h1 with h3 | rfl
        · exact h j h3 h2
        · exact hb
    · simp only [RB, pickV, eqbV, notV, negV, convV, faddrV, fldV, idxV, eqaggV, iaddrV, isnilV, nilckV, cloV, extrV, slenV, minV, sidxV, abin, cmpInt, params, growLists, fillCells, newAt, rdPtr, wrPtr, AV.cells, asVal, lenOf, boundOf, rowsOf, argIds, freshIn, scalar1, setAll, AV.isData, AV.isYld, Nat.reduceAdd, Nat.reduceMul, Nat.reduceSub, Nat.reduceEqDiff, Nat.reduceLeDiff, Nat.reduceLT, Int.reduceNeg, ↓reduceIte, reduceCtorEq, Int.reduceEq, Int.reduceLT, Int.reduceLE, Int.reduceBEq, Int.reduceBNe, Int.reduceToNat, IntKind.bits, Int.reduceAdd, Int.reduceSub, Int.reduceMul, Int.reduceTDiv, Int.reduceTMod, DB, show ¬ (k : Int) < 128 by omega]
      congr 2
      refine decide_eq_decide.2 ⟨fun h => ⟨by omega, fun j h1 h2 => absurd h2 (by omega)⟩, fun h => by have := h.1; omega⟩
  · exact congrArg (fun b => some (AV.bool b)) (decide_eq_decide.2 Iff.rfl)
theorem e_ref05_Right (p : Pfx) : LV E 35 [.agg (pav p)] = some (.bool (decide (PfxOk p))) := by
  rw [LV_R (fn := f35) rfl rfl rfl]
  simp only [f35, RB, pickV, eqbV, notV, negV, convV, faddrV, fldV, idxV, eqaggV, iaddrV, isnilV, nilckV, cloV, extrV, slenV, minV, sidxV, abin, cmpInt, params, growLists, fillCells, newAt, rdPtr, wrPtr, AV.cells, asVal, lenOf, boundOf, rowsOf, argIds, freshIn, scalar1, setAll, AV.isData, AV.isYld, Nat.reduceAdd, Nat.reduceMul, Nat.reduceSub, Nat.reduceEqDiff, Nat.reduceLeDiff, Nat.reduceLT, Int.reduceNeg, ↓reduceIte, reduceCtorEq, Int.reduceEq, Int.reduceLT, Int.reduceLE, Int.reduceBEq, Int.reduceBNe, Int.reduceToNat, IntKind.bits, Int.reduceAdd, Int.reduceSub, Int.reduceMul, Int.reduceTDiv, Int.reduceTMod, DB, e_ref05_RightAddr]
  by_cases h1 : AddrOk p.adr
  · by_cases h2 : p.bits < 0
    · simp only [RB, pickV, eqbV, notV, negV, convV, faddrV, fldV, idxV, eqaggV, iaddrV, isnilV, nilckV, cloV, extrV, slenV, minV, sidxV, abin, cmpInt, params, growLists, fillCells, newAt, rdPtr, wrPtr, AV.cells, asVal, lenOf, boundOf, rowsOf, argIds, freshIn, scalar1, setAll, AV.isData, AV.isYld, Nat.reduceAdd, Nat.reduceMul, Nat.reduceSub, Nat.reduceEqDiff, Nat.reduceLeDiff, Nat.reduceLT, Int.reduceNeg, ↓reduceIte, reduceCtorEq, Int.reduceEq, Int.reduceLT, Int.reduceLE, Int.reduceBEq, Int.reduceBNe, Int.reduceToNat, IntKind.bits, Int.reduceAdd, Int.reduceSub, Int.reduceMul, Int.reduceTDiv, Int.reduceTMod, DB, e_ref05_Width, h1, h2]
      simp [PfxOk, h1, show ¬ 0 ≤ p.bits by omega]
    · by_cases h3 : (width p.adr.ver : Int) < p.bits
      · simp only [RB, pickV, eqbV, notV, negV, convV, faddrV, fldV, idxV, eqaggV, iaddrV, isnilV, nilckV, cloV, extrV, slenV, minV, sidxV, abin, cmpInt, params, growLists, fillCells, newAt, rdPtr, wrPtr, AV.cells, asVal, lenOf, boundOf, rowsOf, argIds, freshIn, scalar1, setAll, AV.isData, AV.isYld, Nat.reduceAdd, Nat.reduceMul, Nat.reduceSub, Nat.reduceEqDiff, Nat.reduceLeDiff, Nat.reduceLT, Int.reduceNeg, ↓reduceIte, reduceCtorEq, Int.reduceEq, Int.reduceLT, Int.reduceLE, Int.reduceBEq, Int.reduceBNe, Int.reduceToNat, IntKind.bits, Int.reduceAdd, Int.reduceSub, Int.reduceMul, Int.reduceTDiv, Int.reduceTMod, DB, e_ref05_Width, h1, h2, h3]
        simp [PfxOk, h1, show ¬ p.bits ≤ width p.adr.ver by omega]
      · simp only [RB, pickV, eqbV, notV, negV, convV, faddrV, fldV, idxV, eqaggV, iaddrV, isnilV, nilckV, cloV, extrV, slenV, minV, sidxV, abin, cmpInt, params, growLists, fillCells, newAt, rdPtr, wrPtr, AV.cells, asVal, lenOf, boundOf, rowsOf, argIds, freshIn, scalar1, setAll, AV.isData, AV.isYld, Nat.reduceAdd, Nat.reduceMul, Nat.reduceSub, Nat.reduceEqDiff, Nat.reduceLeDiff, Nat.reduceLT, Int.reduceNeg, ↓reduceIte, reduceCtorEq, Int.reduceEq, Int.reduceLT, Int.reduceLE, Int.reduceBEq, Int.reduceBNe, Int.reduceToNat, IntKind.bits, Int.reduceAdd, Int.reduceSub, Int.reduceMul, Int.reduceTDiv, Int.reduceTMod, DB, e_ref05_Width, h1, h2, h3]
        obtain ⟨ad, n⟩ := p
        simp only at *
        obtain ⟨n, rfl⟩ : ∃ m : Nat, n = (m : Int) := ⟨n.toNat, by omega⟩
        refine (W_rec (β := AV) (ι := Nat) (M := fun k => [(1, .ptr 0 0 0 0), (3, .int .i64 (k : Int))]) (H := fun _ => ⟨[.box 0 58 (pav ⟨ad, n⟩)], []⟩) (r := fun k => some (AV.bool (decide (Clr ad.b k)))) (μ := fun k => 128 - k) (fun i => ?_) (fun k ih => ?_) n).trans ?_
        · simp [LPB]
        · by_cases hk : k < 128
          · have f1 : (k : Int) < 128 := by omega
            have f6 : IntKind.i64.wrap ((k : Int) + 1) = ((k + 1 : Nat) : Int) := by rw [IntWalk.i64_in _ (by omega)] <;> omega
            have ih := ih (k + 1) (by omega)
            cases hb : bit ad.b k with
            | true =>
              simp only [RB, pickV, eqbV, notV, negV, convV, faddrV, fldV, idxV, eqaggV, iaddrV, isnilV, nilckV, cloV, extrV, slenV, minV, sidxV, abin, cmpInt, params, growLists, fillCells, newAt, rdPtr, wrPtr, AV.cells, asVal, lenOf, boundOf, rowsOf, argIds, freshIn, scalar1, setAll, AV.isData, AV.isYld, Nat.reduceAdd, Nat.reduceMul, Nat.reduceSub, Nat.reduceEqDiff, Nat.reduceLeDiff, Nat.reduceLT, Int.reduceNeg, ↓reduceIte, reduceCtorEq, Int.reduceEq, Int.reduceLT, Int.reduceLE, Int.reduceBEq, Int.reduceBNe, Int.reduceToNat, IntKind.bits, Int.reduceAdd, Int.reduceSub, Int.reduceMul, Int.reduceTDiv, Int.reduceTMod, DB, f1, e_ref05_at _ k hk, b01_eq, hb]
              rw [decide_eq_false fun hc => by rw [hc k (Nat.le_refl _) hk] at hb; cases hb]
            | false =>
              simp only [RB, pickV, eqbV, notV, negV, convV, faddrV, fldV, idxV, eqaggV, iaddrV, isnilV, nilckV, cloV, extrV, slenV, minV, sidxV, abin, cmpInt, params, growLists, fillCells, newAt, rdPtr, wrPtr, AV.cells, asVal, lenOf, boundOf, rowsOf, argIds, freshIn, scalar1, setAll, AV.isData, AV.isYld, Nat.reduceAdd, Nat.reduceMul, Nat.reduceSub, Nat.reduceEqDiff, Nat.reduceLeDiff, Nat.reduceLT, Int.reduceNeg, ↓reduceIte, reduceCtorEq, Int.reduceEq, Int.reduceLT, Int.reduceLE, Int.reduceBEq, Int.reduceBNe, Int.reduceToNat, IntKind.bits, Int.reduceAdd, Int.reduceSub, Int.reduceMul, Int.reduceTDiv, Int.reduceTMod, DB, f1, e_ref05_at _ k hk, b01_eq, hb, f6]
              rw [ih]
              congr 2
              refine decide_eq_decide.2 ⟨fun h j h1 h2 => ?_, fun h j h1 h2 => h j (by omega) h2⟩
              rcases Nat.lt_or_eq_of_le h1 with h3 | rfl
              · exact h j h3 h2
              · exact hb
          · simp only [RB, pickV, eqbV, notV, negV, convV, faddrV, fldV, idxV, eqaggV, iaddrV, isnilV, nilckV, cloV, extrV, slenV, minV, sidxV, abin, cmpInt, params, growLists, fillCells, newAt, rdPtr, wrPtr, AV.cells, asVal, lenOf, boundOf, rowsOf, argIds, freshIn, scalar1, setAll, AV.isData, AV.isYld, Nat.reduceAdd, Nat.reduceMul, Nat.reduceSub, Nat.reduceEqDiff, Nat.reduceLeDiff, Nat.reduceLT, Int.reduceNeg, ↓reduceIte, reduceCtorEq, Int.reduceEq, Int.reduceLT, Int.reduceLE, Int.reduceBEq, Int.reduceBNe, Int.reduceToNat, IntKind.bits, Int.reduceAdd, Int.reduceSub, Int.reduceMul, Int.reduceTDiv, Int.reduceTMod, DB, show ¬ (k : Int) < 128 by omega]
            rw [decide_eq_true (show Clr ad.b k from fun j h1 h2 => absurd h2 (by omega))]
        · congr 2
          refine decide_eq_decide.2 ⟨fun h => ⟨h1, by simp, by simpa using h3, by simpa using h⟩, fun h => by simpa using h.2.2.2⟩
  · simp only [RB, pickV, eqbV, notV, negV, convV, faddrV, fldV, idxV, eqaggV, iaddrV, isnilV, nilckV, cloV, extrV, slenV, minV, sidxV, abin, cmpInt, params, growLists, fillCells, newAt, rdPtr, wrPtr, AV.cells, asVal, lenOf, boundOf, rowsOf, argIds, freshIn, scalar1, setAll, AV.isData, AV.isYld, Nat.reduceAdd, Nat.reduceMul, Nat.reduceSub, Nat.reduceEqDiff, Nat.reduceLeDiff, Nat.reduceLT, Int.reduceNeg, ↓reduceIte, reduceCtorEq, Int.reduceEq, Int.reduceLT, Int.reduceLE, Int.reduceBEq, Int.reduceBNe, Int.reduceToNat, IntKind.bits, Int.reduceAdd, Int.reduceSub, Int.reduceMul, Int.reduceTDiv, Int.reduceTMod, DB, h1]
    simp [PfxOk, h1]
def Agree (b c : B16) (k n : Nat) : Prop := ∀ i, k ≤ i → i < n → bit b i = bit c i
noncomputable instance {b c : B16} {k n : Nat} : Decidable (Agree b c k n) := Classical.propDecidable _
theorem e_ref05_Has (p : Pfx) (a : Adr) : LV E 44 [.agg (pav p), .agg (aav a)] = some (.bool (decide (Has p a))) := by
  rw [LV_R (fn := f44) rfl rfl rfl]
  simp only [f44, RB, pickV, eqbV, notV, negV, convV, faddrV, fldV, idxV, eqaggV, iaddrV, isnilV, nilckV, cloV, extrV, slenV, minV, sidxV, abin, cmpInt, params, growLists, fillCells, newAt, rdPtr, wrPtr, AV.cells, asVal, lenOf, boundOf, rowsOf, argIds, freshIn, scalar1, setAll, AV.isData, AV.isYld, Nat.reduceAdd, Nat.reduceMul, Nat.reduceSub, Nat.reduceEqDiff, Nat.reduceLeDiff, Nat.reduceLT, Int.reduceNeg, ↓reduceIte, reduceCtorEq, Int.reduceEq, Int.reduceLT, Int.reduceLE, Int.reduceBEq, Int.reduceBNe, Int.reduceToNat, IntKind.bits, Int.reduceAdd, Int.reduceSub, Int.reduceMul, Int.reduceTDiv, Int.reduceTMod, DB, e_ref05_Right]
  by_cases h1 : PfxOk p
  · by_cases h2 : AddrOk a
    · by_cases h3 : p.adr.ver = a.ver
      · simp only [RB, pickV, eqbV, notV, negV, convV, faddrV, fldV, idxV, eqaggV, iaddrV, isnilV, nilckV, cloV, extrV, slenV, minV, sidxV, abin, cmpInt, params, growLists, fillCells, newAt, rdPtr, wrPtr, AV.cells, asVal, lenOf, boundOf, rowsOf, argIds, freshIn, scalar1, setAll, AV.isData, AV.isYld, Nat.reduceAdd, Nat.reduceMul, Nat.reduceSub, Nat.reduceEqDiff, Nat.reduceLeDiff, Nat.reduceLT, Int.reduceNeg, ↓reduceIte, reduceCtorEq, Int.reduceEq, Int.reduceLT, Int.reduceLE, Int.reduceBEq, Int.reduceBNe, Int.reduceToNat, IntKind.bits, Int.reduceAdd, Int.reduceSub, Int.reduceMul, Int.reduceTDiv, Int.reduceTMod, DB, e_ref05_RightAddr, h1, h2, h3, bne_self_eq_false]
        have h4 : p.bits ≤ 128 := by have := h1.2.2.1; have := width_le p.adr.ver; omega
        have h0 := h1.2.1
        have hc := h1.2.2.2
        have e : decide (Has p a) = decide (Agree p.adr.b a.b 0 p.bits.toNat) := by
          refine decide_eq_decide.2 ⟨fun h i _ hi => (has_bits hc).1 h.2.2.2 i hi (by omega), fun h => ⟨h1, h2, h3, (has_bits hc).2 fun i hi _ => h i (Nat.zero_le _) hi⟩⟩
        rw [e]
        refine (W_rec (β := AV) (ι := Nat) (M := fun k => [(2, .ptr 0 0 0 0), (3, .ptr 1 0 0 0), (5, .int .i64 (k : Int))]) (H := fun _ => ⟨[.box 0 58 (pav p), .box 0 33 (aav a)], []⟩) (r := fun k => some (AV.bool (decide (Agree p.adr.b a.b k p.bits.toNat)))) (μ := fun k => 128 - k) (fun i => ?_) (fun k ih => ?_) 0).trans ?_
        · simp [LPB]
        · by_cases hk : (k : Int) < p.bits
          · have f6 : IntKind.i64.wrap ((k : Int) + 1) = ((k + 1 : Nat) : Int) := by rw [IntWalk.i64_in _ (by omega)] <;> omega
            have ih := ih (k + 1) (by omega)
            by_cases hb : bit p.adr.b k = bit a.b k
            · simp only [RB, pickV, eqbV, notV, negV, convV, faddrV, fldV, idxV, eqaggV, iaddrV, isnilV, nilckV, cloV, extrV, slenV, minV, sidxV, abin, cmpInt, params, growLists, fillCells, newAt, rdPtr, wrPtr, AV.cells, asVal, lenOf, boundOf, rowsOf, argIds, freshIn, scalar1, setAll, AV.isData, AV.isYld, Nat.reduceAdd, Nat.reduceMul, Nat.reduceSub, Nat.reduceEqDiff, Nat.reduceLeDiff, Nat.reduceLT, Int.reduceNeg, ↓reduceIte, reduceCtorEq, Int.reduceEq, Int.reduceLT, Int.reduceLE, Int.reduceBEq, Int.reduceBNe, Int.reduceToNat, IntKind.bits, Int.reduceAdd, Int.reduceSub, Int.reduceMul, Int.reduceTDiv, Int.reduceTMod, DB, e_ref05_at _ k (show k < 128 by omega), hk, b01_ne, hb, bne_self_eq_false, f6]
              rw [ih]
              congr 2
              refine decide_eq_decide.2 ⟨fun h j h1 h2 => ?_, fun h j h1 h2 => h j (by omega) h2⟩
              rcases Nat.lt_or_eq_of_le h1 with h3 | rfl
              · exact h j h3 h2
              · exact hb
            · simp only [RB, pickV, eqbV, notV, negV, convV, faddrV, fldV, idxV, eqaggV, iaddrV, isnilV, nilckV, cloV, extrV, slenV, minV, sidxV, abin, cmpInt, params, growLists, fillCells, newAt, rdPtr, wrPtr, AV.cells, asVal, lenOf, boundOf, rowsOf, argIds, freshIn, scalar1, setAll, AV.isData, AV.isYld, Nat.reduceAdd, Nat.reduceMul, Nat.reduceSub, Nat.reduceEqDiff, Nat.reduceLeDiff, Nat.reduceLT, Int.reduceNeg, ↓reduceIte, reduceCtorEq, Int.reduceEq, Int.reduceLT, Int.reduceLE, Int.reduceBEq, Int.reduceBNe, Int.reduceToNat, IntKind.bits, Int.reduceAdd, Int.reduceSub, Int.reduceMul, Int.reduceTDiv, Int.reduceTMod, DB, e_ref05_at _ k (show k < 128 by omega), hk, b01_ne, bne_iff_ne.2 hb]
              rw [decide_eq_false fun hc => hb (hc k (Nat.le_refl _) (by omega))]
          · simp only [RB, pickV, eqbV, notV, negV, convV, faddrV, fldV, idxV, eqaggV, iaddrV, isnilV, nilckV, cloV, extrV, slenV, minV, sidxV, abin, cmpInt, params, growLists, fillCells, newAt, rdPtr, wrPtr, AV.cells, asVal, lenOf, boundOf, rowsOf, argIds, freshIn, scalar1, setAll, AV.isData, AV.isYld, Nat.reduceAdd, Nat.reduceMul, Nat.reduceSub, Nat.reduceEqDiff, Nat.reduceLeDiff, Nat.reduceLT, Int.reduceNeg, ↓reduceIte, reduceCtorEq, Int.reduceEq, Int.reduceLT, Int.reduceLE, Int.reduceBEq, Int.reduceBNe, Int.reduceToNat, IntKind.bits, Int.reduceAdd, Int.reduceSub, Int.reduceMul, Int.reduceTDiv, Int.reduceTMod, DB, hk]
            rw [decide_eq_true (show Agree p.adr.b a.b k p.bits.toNat from fun j h1 h2 => absurd h2 (by omega))]
        · rfl
      · simp only [RB, pickV, eqbV, notV, negV, convV, faddrV, fldV, idxV, eqaggV, iaddrV, isnilV, nilckV, cloV, extrV, slenV, minV, sidxV, abin, cmpInt, params, growLists, fillCells, newAt, rdPtr, wrPtr, AV.cells, asVal, lenOf, boundOf, rowsOf, argIds, freshIn, scalar1, setAll, AV.isData, AV.isYld, Nat.reduceAdd, Nat.reduceMul, Nat.reduceSub, Nat.reduceEqDiff, Nat.reduceLeDiff, Nat.reduceLT, Int.reduceNeg, ↓reduceIte, reduceCtorEq, Int.reduceEq, Int.reduceLT, Int.reduceLE, Int.reduceBEq, Int.reduceBNe, Int.reduceToNat, IntKind.bits, Int.reduceAdd, Int.reduceSub, Int.reduceMul, Int.reduceTDiv, Int.reduceTMod, DB, e_ref05_RightAddr, h1, h2, bne_iff_ne.2 h3]
        simp [Has, h1, h2, h3]
    · simp only [RB, pickV, eqbV, notV, negV, convV, faddrV, fldV, idxV, eqaggV, iaddrV, isnilV, nilckV, cloV, extrV, slenV, minV, sidxV, abin, cmpInt, params, growLists, fillCells, newAt, rdPtr, wrPtr, AV.cells, asVal, lenOf, boundOf, rowsOf, argIds, freshIn, scalar1, setAll, AV.isData, AV.isYld, Nat.reduceAdd, Nat.reduceMul, Nat.reduceSub, Nat.reduceEqDiff, Nat.reduceLeDiff, Nat.reduceLT, Int.reduceNeg, ↓reduceIte, reduceCtorEq, Int.reduceEq, Int.reduceLT, Int.reduceLE, Int.reduceBEq, Int.reduceBNe, Int.reduceToNat, IntKind.bits, Int.reduceAdd, Int.reduceSub, Int.reduceMul, Int.reduceTDiv, Int.reduceTMod, DB, e_ref05_RightAddr, h1, h2]
      simp [Has, h1, h2]
  · simp only [RB, pickV, eqbV, notV, negV, convV, faddrV, fldV, idxV, eqaggV, iaddrV, isnilV, nilckV, cloV, extrV, slenV, minV, sidxV, abin, cmpInt, params, growLists, fillCells, newAt, rdPtr, wrPtr, AV.cells, asVal, lenOf, boundOf, rowsOf, argIds, freshIn, scalar1, setAll, AV.isData, AV.isYld, Nat.reduceAdd, Nat.reduceMul, Nat.reduceSub, Nat.reduceEqDiff, Nat.reduceLeDiff, Nat.reduceLT, Int.reduceNeg, ↓reduceIte, reduceCtorEq, Int.reduceEq, Int.reduceLT, Int.reduceLE, Int.reduceBEq, Int.reduceBNe, Int.reduceToNat, IntKind.bits, Int.reduceAdd, Int.reduceSub, Int.reduceMul, Int.reduceTDiv, Int.reduceTMod, DB, h1]
    simp [Has, h1]
theorem e_ref05_Holds (p q : Pfx) : LV E 34 [.agg (pav p), .agg (pav q)] = some (.bool (decide (Holds p q))) := by
  rw [LV_R (fn := f34) rfl rfl rfl]
  simp only [f34, RB, pickV, eqbV, notV, negV, convV, faddrV, fldV, idxV, eqaggV, iaddrV, isnilV, nilckV, cloV, extrV, slenV, minV, sidxV, abin, cmpInt, params, growLists, fillCells, newAt, rdPtr, wrPtr, AV.cells, asVal, lenOf, boundOf, rowsOf, argIds, freshIn, scalar1, setAll, AV.isData, AV.isYld, Nat.reduceAdd, Nat.reduceMul, Nat.reduceSub, Nat.reduceEqDiff, Nat.reduceLeDiff, Nat.reduceLT, Int.reduceNeg, ↓reduceIte, reduceCtorEq, Int.reduceEq, Int.reduceLT, Int.reduceLE, Int.reduceBEq, Int.reduceBNe, Int.reduceToNat, IntKind.bits, Int.reduceAdd, Int.reduceSub, Int.reduceMul, Int.reduceTDiv, Int.reduceTMod, DB, e_ref05_Right]
  by_cases h1 : PfxOk q
  · by_cases h2 : p.bits ≤ q.bits
    · simp only [RB, pickV, eqbV, notV, negV, convV, faddrV, fldV, idxV, eqaggV, iaddrV, isnilV, nilckV, cloV, extrV, slenV, minV, sidxV, abin, cmpInt, params, growLists, fillCells, newAt, rdPtr, wrPtr, AV.cells, asVal, lenOf, boundOf, rowsOf, argIds, freshIn, scalar1, setAll, AV.isData, AV.isYld, Nat.reduceAdd, Nat.reduceMul, Nat.reduceSub, Nat.reduceEqDiff, Nat.reduceLeDiff, Nat.reduceLT, Int.reduceNeg, ↓reduceIte, reduceCtorEq, Int.reduceEq, Int.reduceLT, Int.reduceLE, Int.reduceBEq, Int.reduceBNe, Int.reduceToNat, IntKind.bits, Int.reduceAdd, Int.reduceSub, Int.reduceMul, Int.reduceTDiv, Int.reduceTMod, DB, e_ref05_Has, h1, h2]
      simp [Holds, h1, h2]
    · simp only [RB, pickV, eqbV, notV, negV, convV, faddrV, fldV, idxV, eqaggV, iaddrV, isnilV, nilckV, cloV, extrV, slenV, minV, sidxV, abin, cmpInt, params, growLists, fillCells, newAt, rdPtr, wrPtr, AV.cells, asVal, lenOf, boundOf, rowsOf, argIds, freshIn, scalar1, setAll, AV.isData, AV.isYld, Nat.reduceAdd, Nat.reduceMul, Nat.reduceSub, Nat.reduceEqDiff, Nat.reduceLeDiff, Nat.reduceLT, Int.reduceNeg, ↓reduceIte, reduceCtorEq, Int.reduceEq, Int.reduceLT, Int.reduceLE, Int.reduceBEq, Int.reduceBNe, Int.reduceToNat, IntKind.bits, Int.reduceAdd, Int.reduceSub, Int.reduceMul, Int.reduceTDiv, Int.reduceTMod, DB, h1, h2]
      simp [Holds, h1, h2]
  · simp only [RB, pickV, eqbV, notV, negV, convV, faddrV, fldV, idxV, eqaggV, iaddrV, isnilV, nilckV, cloV, extrV, slenV, minV, sidxV, abin, cmpInt, params, growLists, fillCells, newAt, rdPtr, wrPtr, AV.cells, asVal, lenOf, boundOf, rowsOf, argIds, freshIn, scalar1, setAll, AV.isData, AV.isYld, Nat.reduceAdd, Nat.reduceMul, Nat.reduceSub, Nat.reduceEqDiff, Nat.reduceLeDiff, Nat.reduceLT, Int.reduceNeg, ↓reduceIte, reduceCtorEq, Int.reduceEq, Int.reduceLT, Int.reduceLE, Int.reduceBEq, Int.reduceBNe, Int.reduceToNat, IntKind.bits, Int.reduceAdd, Int.reduceSub, Int.reduceMul, Int.reduceTDiv, Int.reduceTMod, DB, h1]
    simp [Holds, h1]
end Go.Proofs.YtdllnneeopbmdaaDoor.F

/- The order of prefixes by the document, and the prefixes of addresses. No condition. -/
set_option linter.unusedSimpArgs false
namespace Go.Proofs.YtdllnneeopbmdaaDoor.F
open Go Go.Proofs.YtdllnneeopbmdaaDoor.A Go.Proofs.YtdllnneeopbmdaaDoor.D
def irow (l : List Int) : List (List AV) := l.map fun x => [.int .i64 x]
theorem irow_len (l : List Int) : (irow l).length = l.length := by simp [irow]
theorem irow_snoc (l : List Int) (x : Int) : irow l ++ [[.int .i64 x]] = irow (l ++ [x]) := by simp [irow]
theorem irow_one (x : Int) : [[AV.int .i64 x]] = irow [x] := rfl
theorem irow_take (l : List Int) (n : Nat) (h : l.length = n) : (irow l).take n = irow l := by rw [← h, ← irow_len, List.take_length]
theorem irow_get (l : List Int) (n : Nat) (h : n < l.length) : (irow l)[n]? = some [.int .i64 l[n]] := by simp [irow, h]
def pre (p : Pfx) (k : Nat) : List Int := p.adr.ver :: (ints p.adr.b).take k
theorem pre_len (p : Pfx) (k : Nat) (h : k ≤ 16) : (pre p k).length = k + 1 := by simp [pre, ints_len, h]
theorem pre_snoc (p : Pfx) (k : Nat) (h : k < 16) : pre p k ++ [(p.adr.b.get k : Int)] = pre p (k + 1) := by
  have : (ints p.adr.b)[k]? = some (p.adr.b.get k : Int) := by simp [ints, p.adr.b.get_some h]
  simp only [pre, List.cons_append, List.take_add_one, this, Option.toList_some]
theorem pre_16 (p : Pfx) : pre p 16 ++ [p.bits] = key p := by
  simp only [pre, key, List.cons_append]; rw [← ints_len p.adr.b, List.take_length]
theorem pav_i (p : Pfx) (n : Nat) (h : n < 16) : piece (pav p) (1 + n) 1 = some [.int .u8 (p.adr.b.get n : Int)] := by
  have h1 := bav_i p.adr.b n h
  unfold piece at h1 ⊢
  rw [if_pos (by rw [bav_len]; omega)] at h1
  rw [if_pos (by rw [pav_len]; omega), ← h1, Nat.add_comm 1 n]
  simp only [pav, List.drop_succ_cons]
  have h2 := bav_len p.adr.b
  rw [List.drop_append_of_le_length (by omega), List.take_append_of_le_length (by simp; omega)]
theorem lex_drop (l r : List Int) (j : Nat) (h1 : j < l.length) (h2 : j < r.length) : lexL (l.drop j) (r.drop j) = if l[j] < r[j] then -1 else if r[j] < l[j] then 1 else lexL (l.drop (j + 1)) (r.drop (j + 1)) := by
  rw [List.drop_eq_getElem_cons h1, List.drop_eq_getElem_cons h2, lexL]
theorem e_ref05_Compare (p q : Pfx) : LV E 47 [.agg (pav p), .agg (pav q)] = some (.int .i64 (cmpP p q)) := by
  rw [LV_R (fn := f47) rfl rfl rfl]
  simp only [f47, RB, pickV, eqbV, notV, negV, convV, faddrV, fldV, idxV, eqaggV, iaddrV, isnilV, nilckV, cloV, extrV, slenV, minV, sidxV, abin, cmpInt, params, growLists, fillCells, newAt, rdPtr, wrPtr, AV.cells, asVal, lenOf, boundOf, rowsOf, argIds, freshIn, scalar1, setAll, AV.isData, AV.isYld, Nat.reduceAdd, Nat.reduceMul, Nat.reduceSub, Nat.reduceEqDiff, Nat.reduceLeDiff, Nat.reduceLT, Int.reduceNeg, ↓reduceIte, reduceCtorEq, Int.reduceEq, Int.reduceLT, Int.reduceLE, Int.reduceBEq, Int.reduceBNe, Int.reduceToNat, IntKind.bits, Int.reduceAdd, Int.reduceSub, Int.reduceMul, Int.reduceTDiv, Int.reduceTMod, DB, aop_buildSl, fillRows, asData]
  refine (W_rec (β := AV) (ι := {k : Nat // k ≤ 16}) (M := fun k => [(2, .ptr 0 0 0 0), (3, .ptr 1 0 0 0), (5, .lis 2 k.1 0 (k.1 + 1)), (6, .lis 3 k.1 0 (k.1 + 1)), (7, .int .i64 (k.1 : Int))])
    (H := fun k => ⟨[.box 0 58 (pav p), .box 0 58 (pav q), .lst 0 k.1 3 1 (irow (pre p k.1)), .lst 0 k.1 3 1 (irow (pre q k.1))], []⟩)
    (r := fun _ => some (AV.int .i64 (cmpP p q))) (μ := fun k => 16 - k.1) (fun i => ?_) (fun k ih => ?_) ⟨0, by omega⟩)
  · simp [LPB]
  · obtain ⟨k, hk16⟩ := k
    by_cases hk : k < 16
    · have ih := ih ⟨k + 1, by omega⟩ (by simp only; omega)
      simp only at ih
      have f1 : (k : Int) < 16 := by omega
      have f2 : (0 : Int) ≤ (k : Int) := by omega
      have f3 : ∀ b : B16, IntKind.i64.wrap (b.get k : Int) = (b.get k : Int) := fun b => IntWalk.i64_in _ (by have := b.get_lt k; omega)
      have f6 : IntKind.i64.wrap ((k : Int) + 1) = ((k + 1 : Nat) : Int) := by rw [IntWalk.i64_in _ (by omega)] <;> omega
      have f7 : (k + 1 + 1) * 8 ≤ 140737488355328 := by omega
      have f8 : k ≤ 4611686018427387902 := by omega
      simp only [RB, pickV, eqbV, notV, negV, convV, faddrV, fldV, idxV, eqaggV, iaddrV, isnilV, nilckV, cloV, extrV, slenV, minV, sidxV, abin, cmpInt, params, growLists, fillCells, newAt, rdPtr, wrPtr, AV.cells, asVal, lenOf, boundOf, rowsOf, argIds, freshIn, scalar1, setAll, AV.isData, AV.isYld, Nat.reduceAdd, Nat.reduceMul, Nat.reduceSub, Nat.reduceEqDiff, Nat.reduceLeDiff, Nat.reduceLT, Int.reduceNeg, ↓reduceIte, reduceCtorEq, Int.reduceEq, Int.reduceLT, Int.reduceLE, Int.reduceBEq, Int.reduceBNe, Int.reduceToNat, IntKind.bits, Int.reduceAdd, Int.reduceSub, Int.reduceMul, Int.reduceTDiv, Int.reduceTMod, DB, f1, f2, f3, f6, f7, f8, Nat.le_refl, aop_buildSl, fillRows, asData, pav_i p k hk, pav_i q k hk, headFits, aappend, irow_len, pre_len p k hk16, pre_len q k hk16, irow_take _ _ (pre_len p k hk16), irow_take _ _ (pre_len q k hk16), irow_snoc, pre_snoc p k hk, pre_snoc q k hk]
      exact ih
    · have : k = 16 := by omega
      subst this
      simp only [RB, pickV, eqbV, notV, negV, convV, faddrV, fldV, idxV, eqaggV, iaddrV, isnilV, nilckV, cloV, extrV, slenV, minV, sidxV, abin, cmpInt, params, growLists, fillCells, newAt, rdPtr, wrPtr, AV.cells, asVal, lenOf, boundOf, rowsOf, argIds, freshIn, scalar1, setAll, AV.isData, AV.isYld, Nat.reduceAdd, Nat.reduceMul, Nat.reduceSub, Nat.reduceEqDiff, Nat.reduceLeDiff, Nat.reduceLT, Int.reduceNeg, ↓reduceIte, reduceCtorEq, Int.reduceEq, Int.reduceLT, Int.reduceLE, Int.reduceBEq, Int.reduceBNe, Int.reduceToNat, IntKind.bits, Int.reduceAdd, Int.reduceSub, Int.reduceMul, Int.reduceTDiv, Int.reduceTMod, DB, show ¬ ((16 : Nat) : Int) < 16 by omega, aop_buildSl, fillRows, asData, headFits, aappend, irow_len, pre_len p 16 hk16, pre_len q 16 hk16, irow_take _ _ (pre_len p 16 hk16), irow_take _ _ (pre_len q 16 hk16), irow_snoc, pre_16]
      clear ih
      have hlp := key_len p
      have hlq := key_len q
      refine (W_rec (β := AV) (ι := {k : Nat // k ≤ 18}) (M := fun k => [(5, .lis 2 17 0 18), (6, .lis 3 17 0 18), (8, .int .i64 (k.1 : Int))])
        (H := fun k => ⟨[.box 0 58 (pav p), .box 0 58 (pav q), .lst 0 17 3 1 (irow (key p)), .lst 0 17 3 1 (irow (key q)), .lst 0 0 3 1 [[.int .i64 p.bits]], .dead, .lst 0 0 3 1 [[.int .i64 q.bits]], .dead], []⟩)
        (r := fun k => some (AV.int .i64 (lexL ((key p).drop k.1) ((key q).drop k.1)))) (μ := fun k => 18 - k.1) (fun i => ?_) (fun k ih => ?_) ⟨0, by omega⟩)
      · simp [LPB]
      · obtain ⟨k, hk18⟩ := k
        by_cases hk : k < 18
        · have ih := ih ⟨k + 1, by omega⟩ (by simp only; omega)
          simp only at ih
          have f1 : (k : Int) < 18 := by omega
          have f2 : (0 : Int) ≤ (k : Int) := by omega
          have f6 : IntKind.i64.wrap ((k : Int) + 1) = ((k + 1 : Nat) : Int) := by rw [IntWalk.i64_in _ (by omega)] <;> omega
          have g1 := irow_get (key p) k (by omega)
          have g2 := irow_get (key q) k (by omega)
          rw [lex_drop _ _ k (by omega) (by omega)]
          by_cases h1 : (key p)[k] < (key q)[k]
          · simp only [RB, pickV, eqbV, notV, negV, convV, faddrV, fldV, idxV, eqaggV, iaddrV, isnilV, nilckV, cloV, extrV, slenV, minV, sidxV, abin, cmpInt, params, growLists, fillCells, newAt, rdPtr, wrPtr, AV.cells, asVal, lenOf, boundOf, rowsOf, argIds, freshIn, scalar1, setAll, AV.isData, AV.isYld, Nat.reduceAdd, Nat.reduceMul, Nat.reduceSub, Nat.reduceEqDiff, Nat.reduceLeDiff, Nat.reduceLT, Int.reduceNeg, ↓reduceIte, reduceCtorEq, Int.reduceEq, Int.reduceLT, Int.reduceLE, Int.reduceBEq, Int.reduceBNe, Int.reduceToNat, IntKind.bits, Int.reduceAdd, Int.reduceSub, Int.reduceMul, Int.reduceTDiv, Int.reduceTMod, DB, f1, f2, f6, g1, g2, hk, h1, lisFits]
          · by_cases h2 : (key q)[k] < (key p)[k]
            · simp only [RB, pickV, eqbV, notV, negV, convV, faddrV, fldV, idxV, eqaggV, iaddrV, isnilV, nilckV, cloV, extrV, slenV, minV, sidxV, abin, cmpInt, params, growLists, fillCells, newAt, rdPtr, wrPtr, AV.cells, asVal, lenOf, boundOf, rowsOf, argIds, freshIn, scalar1, setAll, AV.isData, AV.isYld, Nat.reduceAdd, Nat.reduceMul, Nat.reduceSub, Nat.reduceEqDiff, Nat.reduceLeDiff, Nat.reduceLT, Int.reduceNeg, ↓reduceIte, reduceCtorEq, Int.reduceEq, Int.reduceLT, Int.reduceLE, Int.reduceBEq, Int.reduceBNe, Int.reduceToNat, IntKind.bits, Int.reduceAdd, Int.reduceSub, Int.reduceMul, Int.reduceTDiv, Int.reduceTMod, DB, f1, f2, f6, g1, g2, hk, h1, h2, lisFits]
            · simp only [RB, pickV, eqbV, notV, negV, convV, faddrV, fldV, idxV, eqaggV, iaddrV, isnilV, nilckV, cloV, extrV, slenV, minV, sidxV, abin, cmpInt, params, growLists, fillCells, newAt, rdPtr, wrPtr, AV.cells, asVal, lenOf, boundOf, rowsOf, argIds, freshIn, scalar1, setAll, AV.isData, AV.isYld, Nat.reduceAdd, Nat.reduceMul, Nat.reduceSub, Nat.reduceEqDiff, Nat.reduceLeDiff, Nat.reduceLT, Int.reduceNeg, ↓reduceIte, reduceCtorEq, Int.reduceEq, Int.reduceLT, Int.reduceLE, Int.reduceBEq, Int.reduceBNe, Int.reduceToNat, IntKind.bits, Int.reduceAdd, Int.reduceSub, Int.reduceMul, Int.reduceTDiv, Int.reduceTMod, DB, f1, f2, f6, g1, g2, hk, h1, h2, lisFits]
              exact ih
        · have : k = 18 := by omega
          subst this
          simp only [RB, pickV, eqbV, notV, negV, convV, faddrV, fldV, idxV, eqaggV, iaddrV, isnilV, nilckV, cloV, extrV, slenV, minV, sidxV, abin, cmpInt, params, growLists, fillCells, newAt, rdPtr, wrPtr, AV.cells, asVal, lenOf, boundOf, rowsOf, argIds, freshIn, scalar1, setAll, AV.isData, AV.isYld, Nat.reduceAdd, Nat.reduceMul, Nat.reduceSub, Nat.reduceEqDiff, Nat.reduceLeDiff, Nat.reduceLT, Int.reduceNeg, ↓reduceIte, reduceCtorEq, Int.reduceEq, Int.reduceLT, Int.reduceLE, Int.reduceBEq, Int.reduceBNe, Int.reduceToNat, IntKind.bits, Int.reduceAdd, Int.reduceSub, Int.reduceMul, Int.reduceTDiv, Int.reduceTMod, DB, show ¬ ((18 : Nat) : Int) < 18 by omega]
          rw [List.drop_eq_nil_of_le (by omega), List.drop_eq_nil_of_le (by omega)]; rfl
end Go.Proofs.YtdllnneeopbmdaaDoor.F

/- The prefixes of addresses, by the program and by the document. No condition. -/
set_option linter.unusedSimpArgs false
namespace Go.Proofs.YtdllnneeopbmdaaDoor.D
open Go Go.Proofs.YtdllnneeopbmdaaDoor.A
theorem aav_ov (a : Adr) (v : Int) : ovr (aav a) 0 [.int .i64 v] = some (aav ⟨v, a.b⟩) := by
  unfold ovr; rw [if_pos (by rw [aav_len]; simp)]; rfl
theorem pav_put (p : Pfx) {n v : Nat} (hn : n < 16) (hv : v < 256) : ovr (pav p) (1 + n) [.int .u8 (v : Int)] = some (pav ⟨⟨p.adr.ver, p.adr.b.put n v⟩, p.bits⟩) := by
  have h := bav_put p.adr.b hn hv
  unfold ovr at h ⊢
  rw [if_pos (by simp [bav_len]; omega)] at h
  rw [if_pos (by simp [pav_len]; omega)]
  have h' := Option.some.inj h
  have hl := bav_len p.adr.b
  simp only [pav, ← h', Nat.add_comm 1 n, List.take_succ_cons, List.length_cons, List.length_nil, Nat.zero_add, List.drop_succ_cons, List.cons_append]
  rw [List.take_append_of_le_length (by omega), List.drop_append_of_le_length (by omega)]
  simp
theorem cutN_ge (x n : Nat) (h : 8 ≤ n) : cutN x n = x := by unfold cutN; rw [show 8 - n = 0 by omega]; simp
theorem cutN_0 (x : Nat) (h : x < 256) : cutN x 0 = 0 := by unfold cutN; rw [show (8 - 0 : Nat) = 8 by omega, Nat.div_eq_of_lt h, Nat.zero_mul]
theorem cutN_step (x j : Nat) (hx : x < 256) (hj : j < 8) : cutN x (j + 1) = cutN x j + (if x.testBit (7 - j) then 128 / 2 ^ j else 0) := by
  have : ∀ x < 256, ∀ j < 8, cutN x (j + 1) = cutN x j + (if x.testBit (7 - j) then 128 / 2 ^ j else 0) := by decide +kernel
  exact this x hx j hj
theorem cut_next (b : B16) (k : Nat) {i : Nat} (hi : i < 16) : (cut b (k + 1)).get i = if i = k / 8 then cutN (b.get i) (k % 8) + (if bit b k then 128 / 2 ^ (k % 8) else 0) else (cut b k).get i := by
  rw [cut_get _ _ hi, cut_get _ _ hi]
  by_cases h : i = k / 8
  · subst h
    rw [if_pos rfl, show k + 1 - 8 * (k / 8) = k % 8 + 1 by omega, cutN_step _ _ (b.get_lt _) (by omega)]; rfl
  · rw [if_neg h]
    by_cases h2 : i < k / 8
    · rw [cutN_ge _ _ (by omega), cutN_ge _ _ (by omega)]
    · rw [show k + 1 - 8 * i = 0 by omega, show k - 8 * i = 0 by omega]
theorem cut_put (b : B16) (k : Nat) (hk : k < 128) (hb : bit b k = true) : (cut b k).put (k / 8) ((cut b k).get (k / 8) + 128 / 2 ^ (k % 8)) = cut b (k + 1) ∧ (cut b k).get (k / 8) + 128 / 2 ^ (k % 8) < 256 := by
  have h1 : (cut b k).get (k / 8) + 128 / 2 ^ (k % 8) = (cut b (k + 1)).get (k / 8) := by
    rw [cut_next b k (by omega), if_pos rfl, hb, if_pos rfl, cut_get _ _ (by omega), show k - 8 * (k / 8) = k % 8 by omega]
  have h2 := (cut b (k + 1)).get_lt (k / 8)
  refine ⟨B16.ext' fun i hi => ?_, by omega⟩
  rw [B16.get_put _ (by omega) (by omega), h1]
  by_cases h : i = k / 8
  · rw [if_pos h, h]
  · rw [if_neg h, cut_next b k hi, if_neg h]
theorem cut_skip (b : B16) (k : Nat) (hb : bit b k = false) : cut b (k + 1) = cut b k := B16.ext' fun i hi => by
  rw [cut_next b k hi, hb]
  by_cases h : i = k / 8
  · rw [if_pos h, h, cut_get _ _ (by omega), show k - 8 * (k / 8) = k % 8 by omega]; simp
  · rw [if_neg h]
theorem cut_zero (b : B16) : cut b 0 = zerB := B16.ext' fun i hi => by
  rw [cut_get _ _ hi, show 0 - 8 * i = 0 by omega, cutN_0 _ (b.get_lt i)]
  have : ∀ i < 16, 0 = zerB.get i := by decide
  exact this i hi
def ofE (a : Adr) (n : Int) : Int := if AddrOk a then if 0 ≤ n ∧ n ≤ width a.ver then 0 else 2 else 150
def ofP (a : Adr) (n : Int) : Pfx := if AddrOk a ∧ 0 ≤ n ∧ n ≤ width a.ver then ⟨⟨a.ver, cut a.b n.toNat⟩, n⟩ else zerP
end Go.Proofs.YtdllnneeopbmdaaDoor.D
namespace Go.Proofs.YtdllnneeopbmdaaDoor.F
open Go Go.Proofs.YtdllnneeopbmdaaDoor.A Go.Proofs.YtdllnneeopbmdaaDoor.D
end Go.Proofs.YtdllnneeopbmdaaDoor.F
