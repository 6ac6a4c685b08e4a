/- Part 6 of the proofs of these statements. No condition. -/
import Derived.Test.YtabadcnpmfafnaaM5
set_option linter.unusedVariables false
set_option linter.unusedSimpArgs false
/- Functions in the evaluator's form, 2. No condition. -/
namespace Go.Proofs.Ytabadcnpmfafnaa.F
open Go Go.Proofs.Ytabadcnpmfafnaa.A
/-- junctionbox/beat.turn -/
def f32 : AFunc :=
⟨2, [.cell 4 2 true, .t 5], (.seq (.region 3 [⟨some 2, .box 24 2 (.t 0) [], none, 0⟩, ⟨some 4, .alloc 24 [.int .i64 0, .clip []] [(1, 40, 4)], none, 1⟩, ⟨some 5, .mv (.c (.int .i64 0)), none, 0⟩] false []) (.seq (.seq (.region 0 [⟨some 8, .load 2 true (.t 2), none, 0⟩, ⟨some 9, .callV 22 [.t 8] false, none, 0⟩, ⟨some 6, .mv (.t 9), none, 0⟩] false []) (.seq (.region 0 [⟨some 10, .mv (.t 6), none, 0⟩, ⟨some 11, .bin .neq (.t 10) (.c (.int .i64 0)), none, 0⟩] false []) (.cond (.t 11) (.seq (.region 1 [⟨some 12, .build [.int .i64 0, .clip []] [] [(1, 40, 4)], none, 0⟩, ⟨some 13, .mv (.t 6), none, 0⟩, ⟨none, .store 2 (.t 4) (.t 12), none, 0⟩, ⟨some 5, .mv (.t 13), none, 0⟩] false []) .ret) .skip))) (.seq (.region 1 [⟨some 14, .faddr 1 (.t 2), none, 0⟩, ⟨some 15, .load 1 false (.t 14), none, 0⟩, ⟨some 16, .callV 45 [.t 15] true, none, 0⟩, ⟨some 17, .faddr 1 (.t 2), none, 0⟩, ⟨none, .store 1 (.t 17) (.t 16), none, 0⟩] false []) (.seq (.seq (.region 0 [⟨some 18, .mv (.t 1), none, 0⟩, ⟨some 19, .callR (.t 18) [.t 2] false, none, 0⟩, ⟨some 7, .mv (.t 19), none, 0⟩] false []) (.seq (.region 0 [⟨some 20, .mv (.t 7), none, 0⟩, ⟨some 21, .bin .neq (.t 20) (.c (.int .i64 0)), none, 0⟩] false []) (.cond (.t 21) (.seq (.region 1 [⟨some 22, .build [.int .i64 0, .clip []] [] [(1, 40, 4)], none, 0⟩, ⟨some 23, .mv (.t 7), none, 0⟩, ⟨none, .store 2 (.t 4) (.t 22), none, 0⟩, ⟨some 5, .mv (.t 23), none, 0⟩] false []) .ret) .skip))) (.seq (.region 0 [⟨some 24, .load 2 true (.t 2), none, 0⟩, ⟨none, .store 2 (.t 4) (.t 24), none, 0⟩, ⟨some 5, .mv (.c (.int .i64 0)), none, 0⟩] false []) .ret))))), false⟩
theorem c32 : cFunc Try.prog G f32 Try.f32 = some f32 := by kernel_rfl
/-- junctionbox/beat.Pass$1 -/
def f33 : AFunc :=
⟨3, [.t 4], (.seq (.region 0 [⟨some 4, .mv (.c (.int .i64 0)), none, 0⟩] false []) (.seq (.seq (.region 0 [⟨some 8, .load 1 false (.t 1), none, 0⟩, ⟨some 9, .bin .lss (.t 8) (.c (.int .i64 0)), none, 0⟩, ⟨some 10, .mv (.t 9), none, 0⟩, ⟨some 11, .load 1 false (.t 1), some (10, false), 0⟩, ⟨some 12, .mv (.t 0), some (10, false), 0⟩, ⟨some 13, .nilck (.t 12), some (10, false), 0⟩, ⟨some 14, .faddr 0 (.t 13), some (10, false), 0⟩, ⟨some 15, .load 1 false (.t 14), some (10, false), 0⟩, ⟨some 16, .bin .sub (.c (.int .i64 1099511627776)) (.t 15), some (10, false), 0⟩, ⟨some 17, .bin .gtr (.t 11) (.t 16), some (10, false), 0⟩, ⟨some 18, .pick (.t 10) (.c (.bool true)) (.t 17), none, 0⟩] true []) (.cond (.t 18) (.seq (.region 0 [⟨some 4, .mv (.c (.int .i64 2)), none, 0⟩] false []) .ret) .skip)) (.seq (.region 0 [⟨some 19, .mv (.t 0), none, 0⟩, ⟨some 20, .nilck (.t 19), none, 0⟩, ⟨some 21, .faddr 0 (.t 20), none, 0⟩, ⟨some 22, .load 1 false (.t 21), none, 0⟩, ⟨some 23, .load 1 false (.t 1), none, 0⟩, ⟨some 24, .bin .add (.t 22) (.t 23), none, 0⟩, ⟨some 25, .nilck (.t 19), none, 0⟩, ⟨some 26, .faddr 0 (.t 25), none, 0⟩, ⟨none, .store 1 (.t 26) (.t 24), none, 0⟩] true []) (.seq (.seq (.region 0 [⟨some 27, .mv (.t 0), none, 0⟩, ⟨some 28, .nilck (.t 27), none, 0⟩, ⟨some 29, .faddr 1 (.t 28), none, 0⟩, ⟨some 30, .load 1 false (.t 29), none, 0⟩, ⟨some 31, .len (.t 30), none, 0⟩, ⟨some 32, .mv (.c (.int .i64 0)), none, 0⟩] false []) (.block 0 (.loop [0, 2, 31, 32] (.seq (.region 0 [⟨some 33, .bin .lss (.t 32) (.t 31), none, 0⟩] false []) (.seq (.cond (.t 33) .skip (.exit 0)) (.seq (.block 1 (.seq (.region 0 [⟨some 34, .mv (.t 32), none, 0⟩, ⟨some 5, .mv (.t 34), none, 0⟩] false []) (.seq (.region 0 [⟨some 35, .mv (.t 0), none, 0⟩, ⟨some 36, .nilck (.t 35), none, 0⟩, ⟨some 37, .faddr 1 (.t 36), none, 0⟩, ⟨some 38, .load 1 false (.t 37), none, 0⟩, ⟨some 39, .mv (.t 5), none, 0⟩, ⟨some 40, .iaddr 4 none (.t 38) (.t 39), none, 0⟩, ⟨some 6, .mv (.t 40), none, 0⟩] false []) (.seq (.region 0 [⟨some 41, .mv (.t 0), none, 0⟩, ⟨some 42, .nilck (.t 41), none, 0⟩, ⟨some 43, .faddr 0 (.t 42), none, 0⟩, ⟨some 44, .load 1 false (.t 43), none, 0⟩, ⟨some 45, .mv (.t 6), none, 0⟩, ⟨some 46, .nilck (.t 45), none, 0⟩, ⟨some 47, .load 4 true (.t 46), none, 0⟩, ⟨some 48, .callV 34 [.t 44, .t 47] false, none, 0⟩, ⟨some 7, .mv (.t 48), none, 0⟩] true []) (.block 2 (.seq (.region 0 [⟨some 50, .mv (.t 7), none, 0⟩, ⟨some 51, .bin .eql (.t 50) (.c (.int .i64 2)), none, 0⟩, ⟨some 52, .mv (.t 51), none, 0⟩, ⟨some 53, .mv (.t 6), some (52, true), 0⟩, ⟨some 54, .nilck (.t 53), some (52, true), 0⟩, ⟨some 55, .faddr 3 (.t 54), some (52, true), 0⟩, ⟨some 56, .load 1 false (.t 55), some (52, true), 0⟩, ⟨some 57, .bin .neq (.t 56) (.c (.int .i64 3)), some (52, true), 0⟩, ⟨some 58, .pick (.t 52) (.t 57) (.c (.bool false)), none, 0⟩, ⟨some 49, .mv (.t 58), none, 0⟩] false []) (.cond (.t 49) (.seq (.region 2 [⟨some 59, .load 1 false (.t 2), none, 0⟩, ⟨some 60, .mv (.t 6), none, 0⟩, ⟨some 61, .nilck (.t 60), none, 0⟩, ⟨some 62, .faddr 0 (.t 61), none, 0⟩, ⟨some 63, .load 1 false (.t 62), none, 0⟩, ⟨some 64, .buildSl 3 1 [.int .i64 0] 1 [(0, .t 63)] false, none, 0⟩, ⟨some 65, .append 3 1 8 (.t 59) (.t 64), none, 1⟩, ⟨none, .store 1 (.t 2) (.t 65), none, 0⟩] true []) (.region 0 [⟨some 66, .mv (.t 6), none, 0⟩, ⟨some 67, .mv (.t 6), none, 0⟩, ⟨some 68, .nilck (.t 66), none, 0⟩, ⟨some 69, .faddr 3 (.t 68), none, 0⟩, ⟨none, .store 1 (.t 69) (.c (.int .i64 3)), none, 0⟩, ⟨some 70, .nilck (.t 67), none, 0⟩, ⟨some 71, .faddr 2 (.t 70), none, 0⟩, ⟨none, .store 1 (.t 71) (.c (.int .i64 0)), none, 0⟩] false [])) (.seq (.region 0 [⟨some 73, .mv (.t 7), none, 0⟩, ⟨some 74, .bin .eql (.t 73) (.c (.int .i64 2)), none, 0⟩, ⟨some 72, .mv (.t 74), none, 0⟩] false []) (.cond (.t 72) (.region 0 [⟨some 75, .mv (.t 6), none, 0⟩, ⟨some 76, .nilck (.t 75), none, 0⟩, ⟨some 77, .faddr 2 (.t 76), none, 0⟩, ⟨none, .store 1 (.t 77) (.c (.int .i64 0)), none, 0⟩] false []) (.seq (.region 0 [⟨some 79, .mv (.t 7), none, 0⟩, ⟨some 80, .bin .eql (.t 79) (.c (.int .i64 1)), none, 0⟩, ⟨some 81, .mv (.t 80), none, 0⟩, ⟨some 82, .mv (.t 6), some (81, true), 0⟩, ⟨some 83, .nilck (.t 82), some (81, true), 0⟩, ⟨some 84, .faddr 3 (.t 83), some (81, true), 0⟩, ⟨some 85, .load 1 false (.t 84), some (81, true), 0⟩, ⟨some 86, .bin .eql (.t 85) (.c (.int .i64 1)), some (81, true), 0⟩, ⟨some 87, .pick (.t 81) (.t 86) (.c (.bool false)), none, 0⟩, ⟨some 78, .mv (.t 87), none, 0⟩] false []) (.cond (.t 78) (.region 0 [⟨some 88, .mv (.t 6), none, 0⟩, ⟨some 89, .mv (.t 6), none, 0⟩, ⟨some 90, .nilck (.t 88), none, 0⟩, ⟨some 91, .faddr 3 (.t 90), none, 0⟩, ⟨none, .store 1 (.t 91) (.c (.int .i64 2)), none, 0⟩, ⟨some 92, .nilck (.t 89), none, 0⟩, ⟨some 93, .faddr 2 (.t 92), none, 0⟩, ⟨none, .store 1 (.t 93) (.c (.int .i64 0)), none, 0⟩] false []) (.seq (.region 0 [⟨some 95, .mv (.t 7), none, 0⟩, ⟨some 96, .bin .eql (.t 95) (.c (.int .i64 1)), none, 0⟩, ⟨some 94, .mv (.t 96), none, 0⟩] false []) (.cond (.t 94) (.region 0 [⟨some 97, .mv (.t 6), none, 0⟩, ⟨some 98, .nilck (.t 97), none, 0⟩, ⟨some 99, .faddr 2 (.t 98), none, 0⟩, ⟨none, .store 1 (.t 99) (.c (.int .i64 0)), none, 0⟩] false []) .skip))))))))))))) (.region 0 [⟨some 100, .bin .add (.t 32) (.c (.int .i64 1)), none, 0⟩, ⟨some 32, .mv (.t 100), none, 0⟩] false []))))))) (.seq (.region 0 [⟨some 4, .mv (.c (.int .i64 0)), none, 0⟩] false []) .ret))))), false⟩
theorem c33 : cFunc Try.prog G f33 Try.f33 = some f33 := by kernel_rfl
/-- junctionbox/beat.span -/
def f34 : AFunc :=
⟨2, [.t 4], (.seq (.region 1 [⟨some 3, .box 40 4 (.t 1) [], none, 0⟩, ⟨some 4, .mv (.c (.int .i64 0)), none, 0⟩] false []) (.seq (.seq (.region 0 [⟨some 6, .mv (.t 0), none, 0⟩, ⟨some 7, .faddr 1 (.t 3), none, 0⟩, ⟨some 8, .load 1 false (.t 7), none, 0⟩, ⟨some 9, .bin .sub (.t 6) (.t 8), none, 0⟩, ⟨some 5, .mv (.t 9), none, 0⟩] false []) (.block 0 (.seq (.region 0 [⟨some 11, .mv (.t 5), none, 0⟩, ⟨some 12, .bin .leq (.t 11) (.c (.int .i64 4)), none, 0⟩, ⟨some 10, .mv (.t 12), none, 0⟩] false []) (.cond (.t 10) (.seq (.region 0 [⟨some 4, .mv (.c (.int .i64 0)), none, 0⟩] false []) .ret) (.seq (.region 0 [⟨some 14, .mv (.t 5), none, 0⟩, ⟨some 15, .bin .leq (.t 14) (.c (.int .i64 9)), none, 0⟩, ⟨some 13, .mv (.t 15), none, 0⟩] false []) (.cond (.t 13) (.seq (.region 0 [⟨some 4, .mv (.c (.int .i64 1)), none, 0⟩] false []) .ret) .skip)))))) (.seq (.region 0 [⟨some 4, .mv (.c (.int .i64 2)), none, 0⟩] false []) .ret))), false⟩
theorem c34 : cFunc Try.prog G f34 Try.f34 = some f34 := by kernel_rfl
/-- junctionbox/junctionboxref29.Later -/
def f35 : AFunc :=
⟨2, [.cell 4 4 true], (.seq (.region 2 [⟨some 3, .box 40 4 (.t 1) [], none, 0⟩, ⟨some 4, .alloc 40 [.int .i64 0, .int .i64 0, .int .i64 0, .int .i64 0] [], none, 1⟩] false []) (.seq (.seq (.region 0 [⟨some 5, .mv (.t 0), none, 0⟩, ⟨some 6, .load 4 true (.t 3), none, 0⟩, ⟨some 7, .callV 30 [.t 5, .t 6] false, none, 0⟩] false []) (.cond (.t 7) (.seq (.region 0 [⟨some 8, .load 4 true (.t 3), none, 0⟩, ⟨none, .store 4 (.t 4) (.t 8), none, 0⟩] false []) .ret) .skip)) (.seq (.region 0 [⟨some 9, .faddr 2 (.t 3), none, 0⟩, ⟨none, .store 1 (.t 9) (.c (.int .i64 0)), none, 0⟩] false []) (.seq (.seq (.region 0 [⟨some 10, .mv (.t 0), none, 0⟩, ⟨some 11, .load 4 true (.t 3), none, 0⟩, ⟨some 12, .callV 31 [.t 10, .t 11] false, none, 0⟩] false []) (.cond (.t 12) (.region 0 [⟨some 13, .faddr 3 (.t 3), none, 0⟩, ⟨none, .store 1 (.t 13) (.c (.int .i64 3)), none, 0⟩] false []) (.seq (.region 0 [⟨some 14, .faddr 3 (.t 3), none, 0⟩, ⟨some 15, .load 1 false (.t 14), none, 0⟩, ⟨some 16, .bin .eql (.t 15) (.c (.int .i64 1)), none, 0⟩] false []) (.cond (.t 16) (.region 0 [⟨some 17, .faddr 3 (.t 3), none, 0⟩, ⟨none, .store 1 (.t 17) (.c (.int .i64 2)), none, 0⟩] false []) .skip)))) (.seq (.region 0 [⟨some 18, .load 4 true (.t 3), none, 0⟩, ⟨none, .store 4 (.t 4) (.t 18), none, 0⟩] false []) .ret))))), false⟩
theorem c35 : cFunc Try.prog G f35 Try.f35 = some f35 := by kernel_rfl
/-- junctionbox/beat.Add$1 -/
def f36 : AFunc :=
⟨2, [.t 3], (.seq (.region 0 [⟨some 3, .mv (.c (.int .i64 0)), none, 0⟩] false []) (.seq (.region 0 [⟨some 7, .mv (.t 0), none, 0⟩, ⟨some 8, .nilck (.t 7), none, 0⟩, ⟨some 9, .load 2 true (.t 8), none, 0⟩, ⟨some 10, .load 1 false (.t 1), none, 0⟩, ⟨some 11, .callV 37 [.t 9, .t 10] false, none, 0⟩, ⟨some 6, .mv (.t 11), none, 0⟩, ⟨some 12, .extr (.t 6) 0, none, 0⟩, ⟨some 13, .extr (.t 6) 1, none, 0⟩, ⟨some 4, .mv (.t 12), none, 0⟩, ⟨some 5, .mv (.t 13), none, 0⟩] true []) (.seq (.block 0 (.seq (.region 0 [⟨some 15, .load 1 false (.t 1), none, 0⟩, ⟨some 16, .bin .lss (.t 15) (.c (.int .i64 1)), none, 0⟩, ⟨some 17, .mv (.t 16), none, 0⟩, ⟨some 18, .load 1 false (.t 1), some (17, false), 0⟩, ⟨some 19, .bin .gtr (.t 18) (.c (.int .i64 8)), some (17, false), 0⟩, ⟨some 20, .pick (.t 17) (.c (.bool true)) (.t 19), none, 0⟩, ⟨some 14, .mv (.t 20), none, 0⟩] false []) (.cond (.t 14) (.seq (.region 0 [⟨some 3, .mv (.c (.int .i64 2)), none, 0⟩] false []) .ret) (.seq (.region 0 [⟨some 22, .mv (.t 5), none, 0⟩, ⟨some 21, .mv (.t 22), none, 0⟩] false []) (.cond (.t 21) (.seq (.region 0 [⟨some 3, .mv (.c (.int .i64 5)), none, 0⟩] false []) .ret) .skip))))) (.seq (.region 1 [⟨some 23, .mv (.t 0), none, 0⟩, ⟨some 24, .mv (.t 0), none, 0⟩, ⟨some 25, .nilck (.t 24), none, 0⟩, ⟨some 26, .faddr 1 (.t 25), none, 0⟩, ⟨some 27, .load 1 false (.t 26), none, 0⟩, ⟨some 28, .mv (.t 4), none, 0⟩, ⟨some 29, .load 1 false (.t 1), none, 0⟩, ⟨some 30, .mv (.t 0), none, 0⟩, ⟨some 31, .nilck (.t 30), none, 0⟩, ⟨some 32, .faddr 0 (.t 31), none, 0⟩, ⟨some 33, .load 1 false (.t 32), none, 0⟩, ⟨some 34, .build [.int .i64 0, .int .i64 0, .int .i64 0, .int .i64 0] [(0, 1, .t 29), (1, 1, .t 33)] [], none, 0⟩, ⟨some 35, .buildSl 40 4 [.int .i64 0, .int .i64 0, .int .i64 0, .int .i64 0] 1 [(0, .t 34)] true, none, 0⟩, ⟨some 36, .callR (.c (.clo 38 [])) [.t 27, .t 28, .t 35] true, none, 0⟩, ⟨some 37, .nilck (.t 23), none, 0⟩, ⟨some 38, .faddr 1 (.t 37), none, 0⟩, ⟨none, .store 1 (.t 38) (.t 36), none, 0⟩] true [(.t 26, .c .undef, 0)]) (.seq (.region 0 [⟨some 3, .mv (.c (.int .i64 0)), none, 0⟩] false []) .ret))))), false⟩
theorem c36 : cFunc Try.prog G f36 Try.f36 = some f36 := by kernel_rfl
/-- junctionbox/beat.place -/
def f37 : AFunc :=
⟨2, [.t 4, .t 5], (.seq (.region 1 [⟨some 2, .box 24 2 (.t 0) [], none, 0⟩, ⟨some 4, .mv (.c (.int .i64 0)), none, 0⟩, ⟨some 5, .mv (.c (.bool false)), none, 0⟩] false []) (.seq (.region 0 [⟨some 6, .faddr 1 (.t 2), none, 0⟩, ⟨some 7, .load 1 false (.t 6), none, 0⟩, ⟨some 8, .mv (.t 1), none, 0⟩, ⟨some 9, .callR (.c (.clo 46 [])) [.t 7, .t 8, .c (.clo 47 [])] false, none, 0⟩, ⟨some 10, .extr (.t 9) 0, none, 0⟩, ⟨some 11, .extr (.t 9) 1, none, 0⟩, ⟨some 4, .mv (.t 10), none, 0⟩, ⟨some 5, .mv (.t 11), none, 0⟩] false []) .ret)), false⟩
theorem c37 : cFunc Try.prog G f37 Try.f37 = some f37 := by kernel_rfl
/-- junctionbox/beat.Drop$1 -/
def f39 : AFunc :=
⟨2, [.t 3], (.seq (.region 0 [⟨some 3, .mv (.c (.int .i64 0)), none, 0⟩] false []) (.seq (.region 0 [⟨some 7, .mv (.t 0), none, 0⟩, ⟨some 8, .nilck (.t 7), none, 0⟩, ⟨some 9, .load 2 true (.t 8), none, 0⟩, ⟨some 10, .load 1 false (.t 1), none, 0⟩, ⟨some 11, .callV 37 [.t 9, .t 10] false, none, 0⟩, ⟨some 6, .mv (.t 11), none, 0⟩, ⟨some 12, .extr (.t 6) 0, none, 0⟩, ⟨some 13, .extr (.t 6) 1, none, 0⟩, ⟨some 4, .mv (.t 12), none, 0⟩, ⟨some 5, .mv (.t 13), none, 0⟩] true []) (.seq (.seq (.region 0 [⟨some 14, .mv (.t 5), none, 0⟩, ⟨some 15, .not (.t 14), none, 0⟩] false []) (.cond (.t 15) (.seq (.region 0 [⟨some 3, .mv (.c (.int .i64 4)), none, 0⟩] false []) .ret) .skip)) (.seq (.region 0 [⟨some 16, .mv (.t 0), none, 0⟩, ⟨some 17, .mv (.t 0), none, 0⟩, ⟨some 18, .nilck (.t 17), none, 0⟩, ⟨some 19, .faddr 1 (.t 18), none, 0⟩, ⟨some 20, .load 1 false (.t 19), none, 0⟩, ⟨some 21, .mv (.t 4), none, 0⟩, ⟨some 22, .mv (.t 4), none, 0⟩, ⟨some 23, .bin .add (.t 22) (.c (.int .i64 1)), none, 0⟩, ⟨some 24, .callR (.c (.clo 40 [])) [.t 20, .t 21, .t 23] true, none, 0⟩, ⟨some 25, .nilck (.t 16), none, 0⟩, ⟨some 26, .faddr 1 (.t 25), none, 0⟩, ⟨none, .store 1 (.t 26) (.t 24), none, 0⟩] false []) (.seq (.region 0 [⟨some 3, .mv (.c (.int .i64 0)), none, 0⟩] false []) .ret))))), false⟩
theorem c39 : cFunc Try.prog G f39 Try.f39 = some f39 := by kernel_rfl
/-- slices.Delete[[]junctionbox/api.Pulse,junctionbox/api.Pulse] -/
def f40 : AFunc :=
⟨3, [.t 6], (.seq (.region 1 [⟨some 6, .newl 40 4, none, 0⟩] false []) (.seq (.region 0 [⟨some 8, .mv (.t 0), none, 0⟩, ⟨some 9, .mv (.t 1), none, 0⟩, ⟨some 10, .mv (.t 2), none, 0⟩, ⟨some 11, .mv (.t 0), none, 0⟩, ⟨some 12, .len (.t 11), none, 0⟩, ⟨some 13, .sliceL 1 4 (.t 8) (some (.t 9)) (some (.t 10)) (some (.t 12)), none, 0⟩] false []) (.seq (.seq (.region 0 [⟨some 14, .mv (.t 1), none, 0⟩, ⟨some 15, .mv (.t 2), none, 0⟩, ⟨some 16, .bin .eql (.t 14) (.t 15), none, 0⟩] false []) (.cond (.t 16) (.seq (.region 0 [⟨some 17, .mv (.t 0), none, 0⟩, ⟨some 6, .mv (.t 17), none, 0⟩] false []) .ret) .skip)) (.seq (.region 0 [⟨some 18, .mv (.t 0), none, 0⟩, ⟨some 19, .len (.t 18), none, 0⟩, ⟨some 7, .mv (.t 19), none, 0⟩] false []) (.seq (.region 0 [⟨some 20, .mv (.t 0), none, 0⟩, ⟨some 21, .mv (.t 1), none, 0⟩, ⟨some 22, .slice 4 (.t 20) none (some (.t 21)) none, none, 0⟩, ⟨some 23, .mv (.t 0), none, 0⟩, ⟨some 24, .mv (.t 2), none, 0⟩, ⟨some 25, .slice 4 (.t 23) (some (.t 24)) none none, none, 0⟩, ⟨some 26, .appIn 40 4 (.t 22) (.t 25), none, 0⟩, ⟨some 0, .mv (.t 26), none, 0⟩] true []) (.seq (.region 0 [⟨some 27, .mv (.t 0), none, 0⟩, ⟨some 28, .mv (.t 0), none, 0⟩, ⟨some 29, .len (.t 28), none, 0⟩, ⟨some 30, .mv (.t 7), none, 0⟩, ⟨some 31, .sliceL 2 4 (.t 27) (some (.t 29)) (some (.t 30)) none, none, 0⟩, ⟨none, .clear [.int .i64 0, .int .i64 0, .int .i64 0, .int .i64 0] (.t 31), none, 0⟩] false []) (.seq (.region 0 [⟨some 32, .mv (.t 0), none, 0⟩, ⟨some 6, .mv (.t 32), none, 0⟩] false []) .ret))))))), false⟩
theorem c40 : cFunc Try.prog G f40 Try.f40 = some f40 := by kernel_rfl
/-- junctionbox/beat.Hear$1 -/
def f41 : AFunc :=
⟨3, [.t 4], (.seq (.region 0 [⟨some 4, .mv (.c (.int .i64 0)), none, 0⟩] false []) (.seq (.region 0 [⟨some 10, .mv (.t 0), none, 0⟩, ⟨some 11, .nilck (.t 10), none, 0⟩, ⟨some 12, .load 2 true (.t 11), none, 0⟩, ⟨some 13, .load 1 false (.t 1), none, 0⟩, ⟨some 14, .callV 37 [.t 12, .t 13] false, none, 0⟩, ⟨some 9, .mv (.t 14), none, 0⟩, ⟨some 15, .extr (.t 9) 0, none, 0⟩, ⟨some 16, .extr (.t 9) 1, none, 0⟩, ⟨some 5, .mv (.t 15), none, 0⟩, ⟨some 6, .mv (.t 16), none, 0⟩] true []) (.seq (.seq (.region 0 [⟨some 17, .mv (.t 6), none, 0⟩, ⟨some 18, .not (.t 17), none, 0⟩] false []) (.cond (.t 18) (.seq (.region 0 [⟨some 4, .mv (.c (.int .i64 4)), none, 0⟩] false []) .ret) .skip)) (.seq (.region 0 [⟨some 19, .mv (.t 0), none, 0⟩, ⟨some 20, .nilck (.t 19), none, 0⟩, ⟨some 21, .faddr 1 (.t 20), none, 0⟩, ⟨some 22, .load 1 false (.t 21), none, 0⟩, ⟨some 23, .mv (.t 5), none, 0⟩, ⟨some 24, .iaddr 4 none (.t 22) (.t 23), none, 0⟩, ⟨some 7, .mv (.t 24), none, 0⟩] false []) (.seq (.region 0 [⟨some 25, .mv (.t 7), none, 0⟩, ⟨some 26, .nilck (.t 25), none, 0⟩, ⟨some 27, .faddr 3 (.t 26), none, 0⟩, ⟨some 28, .load 1 false (.t 27), none, 0⟩, ⟨some 8, .mv (.t 28), none, 0⟩] false []) (.seq (.seq (.region 0 [⟨some 29, .mv (.t 0), none, 0⟩, ⟨some 30, .nilck (.t 29), none, 0⟩, ⟨some 31, .faddr 0 (.t 30), none, 0⟩, ⟨some 32, .load 1 false (.t 31), none, 0⟩, ⟨some 33, .mv (.t 7), none, 0⟩, ⟨some 34, .nilck (.t 33), none, 0⟩, ⟨some 35, .load 4 true (.t 34), none, 0⟩, ⟨some 36, .callV 34 [.t 32, .t 35] false, none, 0⟩, ⟨some 37, .bin .eql (.t 36) (.c (.int .i64 0)), none, 0⟩] true []) (.cond (.t 37) (.region 0 [⟨some 38, .mv (.t 7), none, 0⟩, ⟨some 39, .mv (.t 7), none, 0⟩, ⟨some 40, .nilck (.t 39), none, 0⟩, ⟨some 41, .faddr 2 (.t 40), none, 0⟩, ⟨some 42, .load 1 false (.t 41), none, 0⟩, ⟨some 43, .bin .add (.t 42) (.c (.int .i64 1)), none, 0⟩, ⟨some 44, .min (.t 43) [.c (.int .i64 3)], none, 0⟩, ⟨some 45, .nilck (.t 38), none, 0⟩, ⟨some 46, .faddr 2 (.t 45), none, 0⟩, ⟨none, .store 1 (.t 46) (.t 44), none, 0⟩] false []) (.region 0 [⟨some 47, .mv (.t 7), none, 0⟩, ⟨some 48, .nilck (.t 47), none, 0⟩, ⟨some 49, .faddr 2 (.t 48), none, 0⟩, ⟨none, .store 1 (.t 49) (.c (.int .i64 1)), none, 0⟩] false []))) (.seq (.region 0 [⟨some 50, .mv (.t 7), none, 0⟩, ⟨some 51, .mv (.t 0), none, 0⟩, ⟨some 52, .nilck (.t 51), none, 0⟩, ⟨some 53, .faddr 0 (.t 52), none, 0⟩, ⟨some 54, .load 1 false (.t 53), none, 0⟩, ⟨some 55, .nilck (.t 50), none, 0⟩, ⟨some 56, .faddr 1 (.t 55), none, 0⟩, ⟨none, .store 1 (.t 56) (.t 54), none, 0⟩] false []) (.seq (.seq (.region 0 [⟨some 57, .mv (.t 7), none, 0⟩, ⟨some 58, .nilck (.t 57), none, 0⟩, ⟨some 59, .faddr 2 (.t 58), none, 0⟩, ⟨some 60, .load 1 false (.t 59), none, 0⟩, ⟨some 61, .bin .eql (.t 60) (.c (.int .i64 3)), none, 0⟩, ⟨some 62, .mv (.t 61), none, 0⟩, ⟨some 63, .mv (.t 8), some (62, false), 0⟩, ⟨some 64, .bin .eql (.t 63) (.c (.int .i64 2)), some (62, false), 0⟩, ⟨some 65, .pick (.t 62) (.c (.bool true)) (.t 64), none, 0⟩] false []) (.cond (.t 65) (.region 0 [⟨some 66, .mv (.t 7), none, 0⟩, ⟨some 67, .nilck (.t 66), none, 0⟩, ⟨some 68, .faddr 3 (.t 67), none, 0⟩, ⟨none, .store 1 (.t 68) (.c (.int .i64 1)), none, 0⟩] false []) .skip)) (.seq (.region 0 [⟨some 69, .mv (.t 7), none, 0⟩, ⟨some 70, .nilck (.t 69), none, 0⟩, ⟨some 71, .faddr 3 (.t 70), none, 0⟩, ⟨some 72, .load 1 false (.t 71), none, 0⟩, ⟨some 73, .bin .eql (.t 72) (.c (.int .i64 1)), none, 0⟩, ⟨some 74, .mv (.t 73), none, 0⟩, ⟨some 75, .mv (.t 8), some (74, true), 0⟩, ⟨some 76, .bin .neq (.t 75) (.c (.int .i64 1)), some (74, true), 0⟩, ⟨some 77, .pick (.t 74) (.t 76) (.c (.bool false)), none, 0⟩, ⟨none, .store 1 (.t 2) (.t 77), none, 0⟩] false []) (.seq (.region 0 [⟨some 4, .mv (.c (.int .i64 0)), none, 0⟩] false []) .ret)))))))))), false⟩
theorem c41 : cFunc Try.prog G f41 Try.f41 = some f41 := by kernel_rfl
/-- junctionbox/junctionboxref29.RightPeer -/
def f42 : AFunc :=
⟨2, [.t 4], (.seq (.region 1 [⟨some 3, .box 40 4 (.t 1) [], none, 0⟩, ⟨some 4, .mv (.c (.bool false)), none, 0⟩] false []) (.seq (.seq (.region 0 [⟨some 5, .faddr 0 (.t 3), none, 0⟩, ⟨some 6, .load 1 false (.t 5), none, 0⟩, ⟨some 7, .bin .lss (.t 6) (.c (.int .i64 1)), none, 0⟩, ⟨some 8, .mv (.t 7), none, 0⟩, ⟨some 9, .faddr 0 (.t 3), some (8, false), 0⟩, ⟨some 10, .load 1 false (.t 9), some (8, false), 0⟩, ⟨some 11, .bin .gtr (.t 10) (.c (.int .i64 8)), some (8, false), 0⟩, ⟨some 12, .pick (.t 8) (.c (.bool true)) (.t 11), none, 0⟩, ⟨some 13, .mv (.t 12), none, 0⟩, ⟨some 14, .faddr 1 (.t 3), some (13, false), 0⟩, ⟨some 15, .load 1 false (.t 14), some (13, false), 0⟩, ⟨some 16, .bin .lss (.t 15) (.c (.int .i64 0)), some (13, false), 0⟩, ⟨some 17, .pick (.t 13) (.c (.bool true)) (.t 16), none, 0⟩, ⟨some 18, .mv (.t 17), none, 0⟩, ⟨some 19, .faddr 1 (.t 3), some (18, false), 0⟩, ⟨some 20, .load 1 false (.t 19), some (18, false), 0⟩, ⟨some 21, .mv (.t 0), some (18, false), 0⟩, ⟨some 22, .bin .gtr (.t 20) (.t 21), some (18, false), 0⟩, ⟨some 23, .pick (.t 18) (.c (.bool true)) (.t 22), none, 0⟩, ⟨some 24, .mv (.t 23), none, 0⟩, ⟨some 25, .faddr 2 (.t 3), some (24, false), 0⟩, ⟨some 26, .load 1 false (.t 25), some (24, false), 0⟩, ⟨some 27, .bin .lss (.t 26) (.c (.int .i64 0)), some (24, false), 0⟩, ⟨some 28, .pick (.t 24) (.c (.bool true)) (.t 27), none, 0⟩, ⟨some 29, .mv (.t 28), none, 0⟩, ⟨some 30, .faddr 2 (.t 3), some (29, false), 0⟩, ⟨some 31, .load 1 false (.t 30), some (29, false), 0⟩, ⟨some 32, .bin .gtr (.t 31) (.c (.int .i64 3)), some (29, false), 0⟩, ⟨some 33, .pick (.t 29) (.c (.bool true)) (.t 32), none, 0⟩, ⟨some 34, .mv (.t 33), none, 0⟩, ⟨some 35, .faddr 3 (.t 3), some (34, false), 0⟩, ⟨some 36, .load 1 false (.t 35), some (34, false), 0⟩, ⟨some 37, .bin .lss (.t 36) (.c (.int .i64 0)), some (34, false), 0⟩, ⟨some 38, .pick (.t 34) (.c (.bool true)) (.t 37), none, 0⟩, ⟨some 39, .mv (.t 38), none, 0⟩, ⟨some 40, .faddr 3 (.t 3), some (39, false), 0⟩, ⟨some 41, .load 1 false (.t 40), some (39, false), 0⟩, ⟨some 42, .bin .gtr (.t 41) (.c (.int .i64 3)), some (39, false), 0⟩, ⟨some 43, .pick (.t 39) (.c (.bool true)) (.t 42), none, 0⟩] false []) (.cond (.t 43) (.seq (.region 0 [⟨some 4, .mv (.c (.bool false)), none, 0⟩] false []) .ret) .skip)) (.seq (.seq (.region 0 [⟨some 44, .mv (.t 0), none, 0⟩, ⟨some 45, .load 4 true (.t 3), none, 0⟩, ⟨some 46, .callV 30 [.t 44, .t 45] false, none, 0⟩, ⟨some 47, .not (.t 46), none, 0⟩, ⟨some 48, .mv (.t 47), none, 0⟩, ⟨some 49, .faddr 2 (.t 3), some (48, true), 0⟩, ⟨some 50, .load 1 false (.t 49), some (48, true), 0⟩, ⟨some 51, .bin .gtr (.t 50) (.c (.int .i64 0)), some (48, true), 0⟩, ⟨some 52, .pick (.t 48) (.t 51) (.c (.bool false)), none, 0⟩] false []) (.cond (.t 52) (.seq (.region 0 [⟨some 4, .mv (.c (.bool false)), none, 0⟩] false []) .ret) .skip)) (.seq (.seq (.region 0 [⟨some 53, .faddr 3 (.t 3), none, 0⟩, ⟨some 54, .load 1 false (.t 53), none, 0⟩, ⟨some 55, .bin .eql (.t 54) (.c (.int .i64 1)), none, 0⟩] false []) (.cond (.t 55) (.seq (.region 0 [⟨some 56, .mv (.t 0), none, 0⟩, ⟨some 57, .load 4 true (.t 3), none, 0⟩, ⟨some 58, .callV 30 [.t 56, .t 57] false, none, 0⟩, ⟨some 4, .mv (.t 58), none, 0⟩] false []) .ret) .skip)) (.seq (.seq (.region 0 [⟨some 59, .faddr 3 (.t 3), none, 0⟩, ⟨some 60, .load 1 false (.t 59), none, 0⟩, ⟨some 61, .bin .eql (.t 60) (.c (.int .i64 2)), none, 0⟩] false []) (.cond (.t 61) (.seq (.region 0 [⟨some 62, .mv (.t 0), none, 0⟩, ⟨some 63, .load 4 true (.t 3), none, 0⟩, ⟨some 64, .callV 30 [.t 62, .t 63] false, none, 0⟩, ⟨some 65, .not (.t 64), none, 0⟩, ⟨some 66, .mv (.t 65), none, 0⟩, ⟨some 67, .mv (.t 0), some (66, true), 0⟩, ⟨some 68, .load 4 true (.t 3), some (66, true), 0⟩, ⟨some 69, .callV 31 [.t 67, .t 68] false, some (66, true), 0⟩, ⟨some 70, .not (.t 69), some (66, true), 0⟩, ⟨some 71, .pick (.t 66) (.t 70) (.c (.bool false)), none, 0⟩, ⟨some 4, .mv (.t 71), none, 0⟩] false []) .ret) .skip)) (.seq (.seq (.region 0 [⟨some 72, .faddr 2 (.t 3), none, 0⟩, ⟨some 73, .load 1 false (.t 72), none, 0⟩, ⟨some 74, .bin .eql (.t 73) (.c (.int .i64 3)), none, 0⟩] false []) (.cond (.t 74) (.seq (.region 0 [⟨some 4, .mv (.c (.bool false)), none, 0⟩] false []) .ret) .skip)) (.seq (.region 0 [⟨some 75, .faddr 3 (.t 3), none, 0⟩, ⟨some 76, .load 1 false (.t 75), none, 0⟩, ⟨some 77, .bin .eql (.t 76) (.c (.int .i64 3)), none, 0⟩, ⟨some 78, .mv (.t 77), none, 0⟩, ⟨some 79, .mv (.t 0), some (78, false), 0⟩, ⟨some 80, .load 4 true (.t 3), some (78, false), 0⟩, ⟨some 81, .callV 31 [.t 79, .t 80] false, some (78, false), 0⟩, ⟨some 82, .not (.t 81), some (78, false), 0⟩, ⟨some 83, .pick (.t 78) (.c (.bool true)) (.t 82), none, 0⟩, ⟨some 4, .mv (.t 83), none, 0⟩] false []) .ret))))))), false⟩
theorem c42 : cFunc Try.prog G f42 Try.f42 = some f42 := by kernel_rfl
/-- junctionbox/beat.right -/
def f43 : AFunc :=
⟨2, [.t 4], (.seq (.region 1 [⟨some 3, .box 40 4 (.t 1) [], none, 0⟩, ⟨some 4, .mv (.c (.bool false)), none, 0⟩] false []) (.seq (.seq (.region 0 [⟨some 6, .faddr 0 (.t 3), none, 0⟩, ⟨some 7, .load 1 false (.t 6), none, 0⟩, ⟨some 8, .bin .lss (.t 7) (.c (.int .i64 1)), none, 0⟩, ⟨some 9, .mv (.t 8), none, 0⟩, ⟨some 10, .faddr 0 (.t 3), some (9, false), 0⟩, ⟨some 11, .load 1 false (.t 10), some (9, false), 0⟩, ⟨some 12, .bin .gtr (.t 11) (.c (.int .i64 8)), some (9, false), 0⟩, ⟨some 13, .pick (.t 9) (.c (.bool true)) (.t 12), none, 0⟩, ⟨some 14, .mv (.t 13), none, 0⟩, ⟨some 15, .faddr 1 (.t 3), some (14, false), 0⟩, ⟨some 16, .load 1 false (.t 15), some (14, false), 0⟩, ⟨some 17, .bin .lss (.t 16) (.c (.int .i64 0)), some (14, false), 0⟩, ⟨some 18, .pick (.t 14) (.c (.bool true)) (.t 17), none, 0⟩, ⟨some 19, .mv (.t 18), none, 0⟩, ⟨some 20, .faddr 1 (.t 3), some (19, false), 0⟩, ⟨some 21, .load 1 false (.t 20), some (19, false), 0⟩, ⟨some 22, .mv (.t 0), some (19, false), 0⟩, ⟨some 23, .bin .gtr (.t 21) (.t 22), some (19, false), 0⟩, ⟨some 24, .pick (.t 19) (.c (.bool true)) (.t 23), none, 0⟩, ⟨some 25, .mv (.t 24), none, 0⟩, ⟨some 26, .faddr 2 (.t 3), some (25, false), 0⟩, ⟨some 27, .load 1 false (.t 26), some (25, false), 0⟩, ⟨some 28, .bin .lss (.t 27) (.c (.int .i64 0)), some (25, false), 0⟩, ⟨some 29, .pick (.t 25) (.c (.bool true)) (.t 28), none, 0⟩, ⟨some 30, .mv (.t 29), none, 0⟩, ⟨some 31, .faddr 2 (.t 3), some (30, false), 0⟩, ⟨some 32, .load 1 false (.t 31), some (30, false), 0⟩, ⟨some 33, .bin .gtr (.t 32) (.c (.int .i64 3)), some (30, false), 0⟩, ⟨some 34, .pick (.t 30) (.c (.bool true)) (.t 33), none, 0⟩] false []) (.cond (.t 34) (.seq (.region 0 [⟨some 4, .mv (.c (.bool false)), none, 0⟩] false []) .ret) .skip)) (.seq (.region 0 [⟨some 35, .mv (.t 0), none, 0⟩, ⟨some 36, .load 4 true (.t 3), none, 0⟩, ⟨some 37, .callV 34 [.t 35, .t 36] false, none, 0⟩, ⟨some 5, .mv (.t 37), none, 0⟩] false []) (.seq (.seq (.region 0 [⟨some 38, .faddr 3 (.t 3), none, 0⟩, ⟨some 39, .load 1 false (.t 38), none, 0⟩] false []) (.block 0 (.seq (.region 0 [⟨some 41, .bin .eql (.t 39) (.c (.int .i64 1)), none, 0⟩, ⟨some 40, .mv (.t 41), none, 0⟩] false []) (.cond (.t 40) (.seq (.region 0 [⟨some 42, .mv (.t 5), none, 0⟩, ⟨some 43, .bin .eql (.t 42) (.c (.int .i64 0)), none, 0⟩, ⟨some 4, .mv (.t 43), none, 0⟩] false []) .ret) (.seq (.region 0 [⟨some 45, .bin .eql (.t 39) (.c (.int .i64 2)), none, 0⟩, ⟨some 44, .mv (.t 45), none, 0⟩] false []) (.cond (.t 44) (.seq (.region 0 [⟨some 46, .mv (.t 5), none, 0⟩, ⟨some 47, .bin .eql (.t 46) (.c (.int .i64 1)), none, 0⟩, ⟨some 48, .mv (.t 47), none, 0⟩, ⟨some 49, .faddr 2 (.t 3), some (48, true), 0⟩, ⟨some 50, .load 1 false (.t 49), some (48, true), 0⟩, ⟨some 51, .bin .eql (.t 50) (.c (.int .i64 0)), some (48, true), 0⟩, ⟨some 52, .pick (.t 48) (.t 51) (.c (.bool false)), none, 0⟩, ⟨some 4, .mv (.t 52), none, 0⟩] false []) .ret) (.seq (.region 0 [⟨some 54, .bin .eql (.t 39) (.c (.int .i64 0)), none, 0⟩, ⟨some 53, .mv (.t 54), none, 0⟩] false []) (.cond (.t 53) (.seq (.region 0 [⟨some 55, .mv (.t 5), none, 0⟩, ⟨some 56, .bin .neq (.t 55) (.c (.int .i64 2)), none, 0⟩, ⟨some 57, .mv (.t 56), none, 0⟩, ⟨some 58, .faddr 2 (.t 3), some (57, true), 0⟩, ⟨some 59, .load 1 false (.t 58), some (57, true), 0⟩, ⟨some 60, .bin .lss (.t 59) (.c (.int .i64 3)), some (57, true), 0⟩, ⟨some 61, .pick (.t 57) (.t 60) (.c (.bool false)), none, 0⟩, ⟨some 62, .mv (.t 61), none, 0⟩, ⟨some 63, .mv (.t 5), some (62, true), 0⟩, ⟨some 64, .bin .eql (.t 63) (.c (.int .i64 0)), some (62, true), 0⟩, ⟨some 65, .mv (.t 64), some (62, true), 0⟩, ⟨some 66, .faddr 2 (.t 3), some (65, false), 0⟩, ⟨some 67, .load 1 false (.t 66), some (65, false), 0⟩, ⟨some 68, .bin .eql (.t 67) (.c (.int .i64 0)), some (65, false), 0⟩, ⟨some 69, .pick (.t 65) (.c (.bool true)) (.t 68), some (62, true), 0⟩, ⟨some 70, .pick (.t 62) (.t 69) (.c (.bool false)), none, 0⟩, ⟨some 4, .mv (.t 70), none, 0⟩] false []) .ret) (.seq (.region 0 [⟨some 72, .bin .eql (.t 39) (.c (.int .i64 3)), none, 0⟩, ⟨some 71, .mv (.t 72), none, 0⟩] false []) (.cond (.t 71) (.seq (.region 0 [⟨some 73, .faddr 2 (.t 3), none, 0⟩, ⟨some 74, .load 1 false (.t 73), none, 0⟩, ⟨some 75, .bin .lss (.t 74) (.c (.int .i64 3)), none, 0⟩, ⟨some 76, .mv (.t 75), none, 0⟩, ⟨some 77, .mv (.t 5), some (76, true), 0⟩, ⟨some 78, .bin .eql (.t 77) (.c (.int .i64 0)), some (76, true), 0⟩, ⟨some 79, .mv (.t 78), some (76, true), 0⟩, ⟨some 80, .faddr 2 (.t 3), some (79, false), 0⟩, ⟨some 81, .load 1 false (.t 80), some (79, false), 0⟩, ⟨some 82, .bin .eql (.t 81) (.c (.int .i64 0)), some (79, false), 0⟩, ⟨some 83, .pick (.t 79) (.c (.bool true)) (.t 82), some (76, true), 0⟩, ⟨some 84, .pick (.t 76) (.t 83) (.c (.bool false)), none, 0⟩, ⟨some 4, .mv (.t 84), none, 0⟩] false []) .ret) .skip)))))))))) (.seq (.region 0 [⟨some 4, .mv (.c (.bool false)), none, 0⟩] false []) .ret))))), false⟩
theorem c43 : cFunc Try.prog G f43 Try.f43 = some f43 := by kernel_rfl
/-- slices.Equal[[]junctionbox/api.Pulse,junctionbox/api.Pulse] -/
def f44 : AFunc :=
⟨2, [.t 4], (.seq (.region 0 [⟨some 4, .mv (.c (.bool false)), none, 0⟩] false []) (.seq (.seq (.region 0 [⟨some 6, .mv (.t 0), none, 0⟩, ⟨some 7, .len (.t 6), none, 0⟩, ⟨some 8, .mv (.t 1), none, 0⟩, ⟨some 9, .len (.t 8), none, 0⟩, ⟨some 10, .bin .neq (.t 7) (.t 9), none, 0⟩] false []) (.cond (.t 10) (.seq (.region 0 [⟨some 4, .mv (.c (.bool false)), none, 0⟩] false []) .ret) .skip)) (.seq (.seq (.region 0 [⟨some 11, .mv (.t 0), none, 0⟩, ⟨some 12, .len (.t 11), none, 0⟩, ⟨some 13, .mv (.c (.int .i64 0)), none, 0⟩] false []) (.block 0 (.loop [0, 1, 12, 13] (.seq (.region 0 [⟨some 14, .bin .lss (.t 13) (.t 12), none, 0⟩] false []) (.seq (.cond (.t 14) .skip (.exit 0)) (.seq (.block 1 (.seq (.region 0 [⟨some 15, .mv (.t 13), none, 0⟩, ⟨some 5, .mv (.t 15), none, 0⟩] false []) (.seq (.region 0 [⟨some 16, .mv (.t 0), none, 0⟩, ⟨some 17, .mv (.t 5), none, 0⟩, ⟨some 18, .iaddr 4 none (.t 16) (.t 17), none, 0⟩, ⟨some 19, .load 4 true (.t 18), none, 0⟩, ⟨some 20, .mv (.t 1), none, 0⟩, ⟨some 21, .mv (.t 5), none, 0⟩, ⟨some 22, .iaddr 4 none (.t 20) (.t 21), none, 0⟩, ⟨some 23, .load 4 true (.t 22), none, 0⟩, ⟨some 24, .eqagg true [1, 1, 1, 1] (.t 19) (.t 23), none, 0⟩] true []) (.cond (.t 24) (.seq (.region 0 [⟨some 4, .mv (.c (.bool false)), none, 0⟩] false []) .ret) .skip)))) (.region 0 [⟨some 25, .bin .add (.t 13) (.c (.int .i64 1)), none, 0⟩, ⟨some 13, .mv (.t 25), none, 0⟩] false []))))))) (.seq (.region 0 [⟨some 4, .mv (.c (.bool true)), none, 0⟩] false []) .ret)))), false⟩
theorem c44 : cFunc Try.prog G f44 Try.f44 = some f44 := by kernel_rfl
/-- junctionbox/beat.row[junctionbox/api.Pulse] -/
def f46 : AFunc :=
⟨3, [.t 6, .t 7], (.seq (.region 1 [⟨some 5, .box 77 1 (.t 2) [], none, 0⟩, ⟨some 6, .mv (.c (.int .i64 0)), none, 0⟩, ⟨some 7, .mv (.c (.bool false)), none, 0⟩] false []) (.seq (.region 0 [⟨some 8, .mv (.t 0), none, 0⟩, ⟨some 9, .mv (.t 1), none, 0⟩, ⟨some 10, .clo 51 [.t 5], none, 0⟩, ⟨some 11, .callR (.c (.clo 50 [])) [.t 8, .t 9, .t 10] false, none, 0⟩, ⟨some 12, .extr (.t 11) 0, none, 0⟩, ⟨some 13, .extr (.t 11) 1, none, 0⟩, ⟨some 6, .mv (.t 12), none, 0⟩, ⟨some 7, .mv (.t 13), none, 0⟩] false []) .ret)), false⟩
theorem c46 : cFunc Try.prog G f46 Try.f46 = some f46 := by kernel_rfl
/-- junctionbox/beat.place$1 -/
def f47 : AFunc :=
⟨1, [.t 2], (.seq (.region 1 [⟨some 1, .box 40 4 (.t 0) [], none, 0⟩, ⟨some 2, .mv (.c (.int .i64 0)), none, 0⟩] false []) (.seq (.region 0 [⟨some 3, .faddr 0 (.t 1), none, 0⟩, ⟨some 4, .load 1 false (.t 3), none, 0⟩, ⟨some 2, .mv (.t 4), none, 0⟩] false []) .ret)), false⟩
theorem c47 : cFunc Try.prog G f47 Try.f47 = some f47 := by kernel_rfl
/-- slices.BinarySearchFunc[[]junctionbox/api.Pulse,junctionbox/api.Pulse,int] -/
def f50 : AFunc :=
⟨3, [.t 6, .t 7], (.seq (.region 0 [⟨some 6, .mv (.c (.int .i64 0)), none, 0⟩, ⟨some 7, .mv (.c (.bool false)), none, 0⟩] false []) (.seq (.region 0 [⟨some 12, .mv (.t 0), none, 0⟩, ⟨some 13, .len (.t 12), none, 0⟩, ⟨some 8, .mv (.t 13), none, 0⟩] false []) (.seq (.region 0 [⟨some 14, .mv (.t 8), none, 0⟩, ⟨some 9, .mv (.c (.int .i64 0)), none, 0⟩, ⟨some 10, .mv (.t 14), none, 0⟩] false []) (.seq (.block 0 (.loop [0, 1, 2, 8, 9, 10] (.seq (.seq (.region 0 [⟨some 15, .mv (.t 9), none, 0⟩, ⟨some 16, .mv (.t 10), none, 0⟩, ⟨some 17, .bin .lss (.t 15) (.t 16), none, 0⟩] false []) (.cond (.t 17) .skip (.exit 0))) (.block 1 (.seq (.region 0 [⟨some 18, .mv (.t 9), none, 0⟩, ⟨some 19, .mv (.t 10), none, 0⟩, ⟨some 20, .bin .add (.t 18) (.t 19), none, 0⟩, ⟨some 21, .conv .u64 (.t 20), none, 0⟩, ⟨some 22, .bin .shr (.t 21) (.c (.int .u64 1)), none, 0⟩, ⟨some 23, .conv .i64 (.t 22), none, 0⟩, ⟨some 11, .mv (.t 23), none, 0⟩] false []) (.seq (.region 0 [⟨some 24, .mv (.t 2), none, 0⟩, ⟨some 25, .mv (.t 0), none, 0⟩, ⟨some 26, .mv (.t 11), none, 0⟩, ⟨some 27, .iaddr 4 none (.t 25) (.t 26), none, 0⟩, ⟨some 28, .load 4 true (.t 27), none, 0⟩, ⟨some 29, .mv (.t 1), none, 0⟩, ⟨some 30, .callR (.t 24) [.t 28, .t 29] false, none, 0⟩, ⟨some 31, .bin .lss (.t 30) (.c (.int .i64 0)), none, 0⟩] false []) (.cond (.t 31) (.region 0 [⟨some 32, .mv (.t 11), none, 0⟩, ⟨some 33, .bin .add (.t 32) (.c (.int .i64 1)), none, 0⟩, ⟨some 9, .mv (.t 33), none, 0⟩] false []) (.region 0 [⟨some 34, .mv (.t 11), none, 0⟩, ⟨some 10, .mv (.t 34), none, 0⟩] false [])))))))) (.seq (.region 0 [⟨some 35, .mv (.t 9), none, 0⟩, ⟨some 36, .mv (.t 9), none, 0⟩, ⟨some 37, .mv (.t 8), none, 0⟩, ⟨some 38, .bin .lss (.t 36) (.t 37), none, 0⟩, ⟨some 39, .mv (.t 38), none, 0⟩, ⟨some 40, .mv (.t 2), some (39, true), 0⟩, ⟨some 41, .mv (.t 0), some (39, true), 0⟩, ⟨some 42, .mv (.t 9), some (39, true), 0⟩, ⟨some 43, .iaddr 4 none (.t 41) (.t 42), some (39, true), 0⟩, ⟨some 44, .load 4 true (.t 43), some (39, true), 0⟩, ⟨some 45, .mv (.t 1), some (39, true), 0⟩, ⟨some 46, .callR (.t 40) [.t 44, .t 45] false, some (39, true), 0⟩, ⟨some 47, .bin .eql (.t 46) (.c (.int .i64 0)), some (39, true), 0⟩, ⟨some 48, .pick (.t 39) (.t 47) (.c (.bool false)), none, 0⟩, ⟨some 6, .mv (.t 35), none, 0⟩, ⟨some 7, .mv (.t 48), none, 0⟩] false []) .ret))))), false⟩
theorem c50 : cFunc Try.prog G f50 Try.f50 = some f50 := by kernel_rfl
/-- junctionbox/beat.row[junctionbox/api.Pulse]$1 -/
def f51 : AFunc :=
⟨3, [.t 5], (.seq (.region 1 [⟨some 3, .box 40 4 (.t 0) [], none, 0⟩, ⟨some 5, .mv (.c (.int .i64 0)), none, 0⟩] false []) (.seq (.region 0 [⟨some 6, .load 1 false (.t 2), none, 0⟩, ⟨some 7, .load 4 true (.t 3), none, 0⟩, ⟨some 8, .callR (.t 6) [.t 7] false, none, 0⟩, ⟨some 9, .mv (.t 1), none, 0⟩, ⟨some 10, .callV 52 [.t 8, .t 9] false, none, 0⟩, ⟨some 5, .mv (.t 10), none, 0⟩] false []) .ret)), false⟩
theorem c51 : cFunc Try.prog G f51 Try.f51 = some f51 := by kernel_rfl
/-- cmp.Compare[int] -/
def f52 : AFunc :=
⟨2, [.t 4], (.seq (.region 0 [⟨some 4, .mv (.c (.int .i64 0)), none, 0⟩] false []) (.seq (.region 0 [⟨some 7, .mv (.t 0), none, 0⟩, ⟨some 8, .callV 54 [.t 7] false, none, 0⟩, ⟨some 5, .mv (.t 8), none, 0⟩] false []) (.seq (.region 0 [⟨some 9, .mv (.t 1), none, 0⟩, ⟨some 10, .callV 54 [.t 9] false, none, 0⟩, ⟨some 6, .mv (.t 10), none, 0⟩] false []) (.seq (.seq (.region 0 [⟨some 11, .mv (.t 5), none, 0⟩] false []) (.cond (.t 11) (.seq (.seq (.region 0 [⟨some 12, .mv (.t 6), none, 0⟩] false []) (.cond (.t 12) (.seq (.region 0 [⟨some 4, .mv (.c (.int .i64 0)), none, 0⟩] false []) .ret) .skip)) (.seq (.region 0 [⟨some 4, .mv (.c (.int .i64 (-1))), none, 0⟩] false []) .ret)) .skip)) (.seq (.seq (.region 0 [⟨some 13, .mv (.t 6), none, 0⟩] false []) (.cond (.t 13) (.seq (.region 0 [⟨some 4, .mv (.c (.int .i64 1)), none, 0⟩] false []) .ret) .skip)) (.seq (.seq (.region 0 [⟨some 14, .mv (.t 0), none, 0⟩, ⟨some 15, .mv (.t 1), none, 0⟩, ⟨some 16, .bin .lss (.t 14) (.t 15), none, 0⟩] false []) (.cond (.t 16) (.seq (.region 0 [⟨some 4, .mv (.c (.int .i64 (-1))), none, 0⟩] false []) .ret) .skip)) (.seq (.seq (.region 0 [⟨some 17, .mv (.t 0), none, 0⟩, ⟨some 18, .mv (.t 1), none, 0⟩, ⟨some 19, .bin .gtr (.t 17) (.t 18), none, 0⟩] false []) (.cond (.t 19) (.seq (.region 0 [⟨some 4, .mv (.c (.int .i64 1)), none, 0⟩] false []) .ret) .skip)) (.seq (.region 0 [⟨some 4, .mv (.c (.int .i64 0)), none, 0⟩] false []) .ret)))))))), false⟩
theorem c52 : cFunc Try.prog G f52 Try.f52 = some f52 := by kernel_rfl
/-- cmp.isNaN[int] -/
def f54 : AFunc :=
⟨1, [.t 2], (.seq (.region 0 [⟨some 2, .mv (.c (.bool false)), none, 0⟩] false []) (.seq (.region 0 [⟨some 3, .mv (.t 0), none, 0⟩, ⟨some 4, .mv (.t 0), none, 0⟩, ⟨some 5, .bin .neq (.t 3) (.t 4), none, 0⟩, ⟨some 2, .mv (.t 5), none, 0⟩] false []) .ret)), false⟩
theorem c54 : cFunc Try.prog G f54 Try.f54 = some f54 := by kernel_rfl
end Go.Proofs.Ytabadcnpmfafnaa.F

/- slices.Clone of this program. No condition. -/
set_option linter.unusedVariables false
set_option linter.unusedSimpArgs false
namespace Go.Proofs.Ytabadcnpmfafnaa.F
open Go Go.RowKit Go.Proofs Go.Proofs.Ytabadcnpmfafnaa Go.Proofs.Ytabadcnpmfafnaa.J
theorem elemT_22 : ElemT Try.prog 22 40 4 (.agg #[.int .i64 0, .int .i64 0, .int .i64 0, .int .i64 0]) 32 := ⟨Try.underlying22, by kernel_rfl, rfl, by decide⟩
set_option maxHeartbeats 4000000 in
set_option maxRecDepth 100000 in
theorem ins_shift_f38 (g n c i vb voff vc : Nat) (cur curv : Array Value) (xs : List Value) (w : World) (hi : i < n) (hroom : n + 1 ≤ c) (hc63 : c ≤ 9223372036854775807) (hvb : vb ≠ g) (hh : w.heap[g]? = some (.cells cur 40 (0, 0))) (hcs : cur.size = c * 4)
    (hv : w.heap[vb]? = some (.cells curv 40 (0, 0))) (hxl : xs.length = 4) (hx : ∀ j u, xs[j]? = some u → w.cell? ⟨vb, voff + j, none⟩ = some u) (h1x : ∀ u ∈ xs, u.oneCell' = true) (h1c : ∀ u ∈ (cur.toList.take (n * 4)).drop (i * 4), u.oneCell' = true) (R1 : Array Value)
    (hA : R1 = (cur.toList.take ((i + 1) * 4) ++ (cur.toList.take (n * 4)).drop (i * 4) ++ cur.toList.drop ((i + 1) * 4 + (n - i) * 4)).toArray) :
    Calls Try.prog 38 #[.slice (some ⟨g, 0, none⟩) n c, .int .i64 i, .slice (some ⟨vb, voff, none⟩) 1 vc] w fun e w' =>
      e = .returned (.slice (some ⟨g, 0, none⟩) (n + 1) c) ∧ w' = (w.drew.setRow g R1).setRow g (R1.toList.take (i * 4) ++ xs ++ R1.toList.drop (i * 4 + xs.length)).toArray := by
  have hsz : (Try.prog.info? 40).map (·.size) = some 4 := by kernel_rfl
  have hdl : ((cur.toList.take (n * 4)).drop (i * 4)).length = (n - i) * 4 := by
    rw [List.length_drop, List.length_take, Array.length_toList]
    omega
  have hsA : w.shape? vb = some (40, curv.size) := by simp [World.shape?, hv]
  have hsB : w.shape? g = some (40, cur.size) := by simp [World.shape?, hh]
  have hfr : ∀ o, w.frozen? ⟨vb, o, none⟩ = false := fun o => by simp [World.frozen?, hv]
  have hov : ∀ lb cb, (callFunc 48 #[.slice (some ⟨vb, voff, none⟩) 1 vc, .slice (some ⟨g, (i + 1) * 4, none⟩) lb cb]).run Try.prog w = .ok (.value (.bool false)) w := fun lb cb => by
    rw [run_callFunc_extern Try.func48 (by kernel_rfl) (by kernel_rfl) (by kernel_rfl) (e := Extern.SlicesOverlaps.overlaps #[22, 22] #[4]) (by kernel_rfl),
      Lib.run_overlaps_apart w 22 4 40 Try.underlying22 4 (fun w => by kernel_rfl) ⟨vb, voff, none⟩ ⟨g, (i + 1) * 4, none⟩ 1 vc lb cb hvb 40 40 _ _ hsA hsB (by omega) (hfr _) (hfr _)]
    rfl
  have hAs : R1.size = cur.size := by
    rw [hA]; simp only [List.size_toArray, List.length_append, hdl, List.length_take, List.length_drop, Array.length_toList]
    omega
  have hcp1 : ∀ ty dc sc, (Builtin.copy_ #[22, 22] ty #[.slice (some ⟨g, (i + 1) * 4, none⟩) (n - i) dc, .slice (some ⟨g, i * 4, none⟩) (n + 1 - i) sc]).run Try.prog w.drew = .ok (goInt ((n - i : Nat) : Int)) (w.drew.setRow g R1) := fun ty dc sc => by
    have h := A.run_copy_row (P := Try.prog) w.drew 22 ty 40 4 Try.underlying22 hsz g ((i + 1) * 4) (n - i) dc ⟨g, i * 4, none⟩ (n + 1 - i) sc cur 40 hh _ (n - i) (by simp only [Nat.min_def]; split <;> omega) hdl (fun j v hj => by
      rw [Addr.add_lit]
      rw [List.getElem?_drop, List.getElem?_take] at hj
      split at hj
      · show w.cell? _ = _
        simp only [World.cell?, hh]
        rw [← Array.getElem?_toList]; exact hj
      · cases hj) (by rw [hdl]; omega) h1c
    rw [hdl] at h
    rw [hA]; exact h
  obtain ⟨W1, hW1⟩ : ∃ W1, W1 = w.drew.setRow g R1 := ⟨_, rfl⟩
  have hh1 : W1.heap[g]? = some (.cells R1 40 (0, 0)) := by rw [hW1]; exact setRow_heap w.drew g cur R1 40 (0, 0) hh
  have hx1 : ∀ j u, xs[j]? = some u → W1.cell? ⟨vb, voff + j, none⟩ = some u := fun j u hj => by
    rw [hW1, cell_setRow_other w.drew g R1 _ hvb]; exact hx j u hj
  have hcp2 : ∀ ty dc, (Builtin.copy_ #[22, 22] ty #[.slice (some ⟨g, i * 4, none⟩) (n + 1 - i) dc, .slice (some ⟨vb, voff, none⟩) 1 vc]).run Try.prog W1 = .ok (goInt 1) (W1.setRow g (R1.toList.take (i * 4) ++ xs ++ R1.toList.drop (i * 4 + xs.length)).toArray) := fun ty dc =>
    A.run_copy_row (P := Try.prog) W1 22 ty 40 4 Try.underlying22 hsz g (i * 4) (n + 1 - i) dc ⟨vb, voff, none⟩ 1 vc R1 40 hh1 xs 1 (by simp only [Nat.min_def]; split <;> omega) (by omega) (fun j v hj => by rw [Addr.add_lit]; exact hx1 j v hj) (by omega) h1x
  have hw1 : IntKind.i64.wrap ((i : Int) + 1) = (i : Int) + 1 := by rw [IntKind.wrap_i64]; omega
  have hw2 : IntKind.i64.wrap ((n : Int) + 1) = (n : Int) + 1 := by rw [IntKind.wrap_i64]; omega
  have hz2 : ¬ ((i : Int) = (n : Int)) := by omega
  have hb1 : (0 : Int) ≤ (i : Int) + 1 := by omega
  have hin : i ≤ n := by omega
  have htn : ((i : Int) + 1).toNat = i + 1 := by omega
  have htn2 : ((n : Int) + 1).toNat = n + 1 := by omega
  have hb2 : ¬ (c = i + 1) := by omega
  have hb3 : (i : Int) ≤ (n : Int) + 1 := by omega
  have hb4 : ¬ (c = i) := by omega
  rw [← hW1] at hcp1 ⊢
  clear hW1 hA hdl hAs
  go_enter Try.func38, Try.ntmps38
  go_wp2_with (simp only [hov])
  go_region_law (refine step_copy_runI rfl _ _ 22 22 rfl _ _ (by simp [Act.eval, Act.put]) (by simp [Act.eval, Act.put]) (hcp1 _ _ _) ?_)
  go_wp2_with (at_builtin; refine wpList_copy_runI _ rfl _ _ 22 22 rfl _ _ rfl rfl (hcp2 _ _) ?_)
  go_ret
  exact ⟨rfl, by simp [hxl]⟩
set_option maxHeartbeats 4000000 in
set_option maxRecDepth 100000 in
theorem ins_grow_f38 (g n c i vb voff vc : Nat) (cur curv : Array Value) (xs : List Value) (w : World) (hi : i < n) (hnc : n ≤ c) (hroom : c < n + 1) (hbig : (n + 1) * 32 ≤ 140737488355328) (hh : w.heap[g]? = some (.cells cur 40 (0, 0))) (hcs : cur.size = c * 4)
    (hv : w.heap[vb]? = some (.cells curv 40 (0, 0))) (hxl : xs.length = 4) (hx : ∀ j u, xs[j]? = some u → w.cell? ⟨vb, voff + j, none⟩ = some u) (h1x : ∀ u ∈ xs, u.oneCell' = true) (h1c : ∀ u ∈ (cur.toList.take (n * 4)).drop (i * 4), u.oneCell' = true) :
    Calls Try.prog 38 #[.slice (some ⟨g, 0, none⟩) n c, .int .i64 i, .slice (some ⟨vb, voff, none⟩) 1 vc] w fun e w' =>
      ∃ (G : Nat) (R1 R2 : Array Value), e = .returned (.slice (some ⟨w.heap.size, 0, none⟩) (n + 1) G) ∧ n + 1 ≤ G ∧ G ≤ maxLen ∧ R1.size = G * 4 ∧ R1.toList.take (i * 4) = cur.toList.take (i * 4) ∧
        R2 = (R1.toList.take (i * 4) ++ xs ++ R1.toList.drop (i * 4 + 4)).toArray ∧
        w'.heap = ((((w.alloc (.cells R1 40)).setRow w.heap.size R2).setRow w.heap.size (R2.toList.take ((i + 1) * 4) ++ (cur.toList.take (n * 4)).drop (i * 4) ++ R2.toList.drop ((i + 1) * 4 + (n - i) * 4)).toArray)).heap ∧
        w'.os = w.os ∧ w'.tape = w.tape ∧ w'.output = w.output ∧ w.drawn ≤ w'.drawn := by
  obtain ⟨i0, z, hi0, hz0, hzs, hzb, hzc⟩ : ∃ i0 z, Try.prog.info? 40 = some i0 ∧ i0.zero = some z ∧ i0.size = 4 ∧ i0.bytes = 32 ∧ z.cells.size = 4 := by
    have h := elemT_22.info
    cases hq : Try.prog.info? 40 with
    | none => rw [hq] at h; cases h
    | some i0 => rw [hq] at h; simp at h; exact ⟨i0, _, rfl, h.1, h.2.1, h.2.2, elemT_22.zs⟩
  have hsz : (Try.prog.info? 40).map (·.size) = some 4 := by rw [hi0]; simp [hzs]
  have hdl : ((cur.toList.take (n * 4)).drop (i * 4)).length = (n - i) * 4 := by
    rw [List.length_drop, List.length_take, Array.length_toList]
    omega
  have hgw : g < w.heap.size := (Array.getElem?_eq_some_iff.1 hh).1
  have hvw : vb < w.heap.size := (Array.getElem?_eq_some_iff.1 hv).1
  have hkk : (n : Int) + 1 - (i : Int) = ((n + 1 - i : Nat) : Int) := by omega
  have hik : i + (n + 1 - i) = n + 1 := by omega
  have hold : (Builtin.firstCells i0.size i (.slice (some ⟨g, 0, none⟩) i c)).run Try.prog w.drew = .ok (cur.toList.take (i * 4)).toArray w.drew := by
    rw [hzs]
    exact run_firstCells_some w.drew 4 i ⟨g, 0, none⟩ i c (cur.toList.take (i * 4)) (by rw [List.length_take, Array.length_toList]; omega) (fun j v hj => by
      rw [Addr.add_lit]
      rw [List.getElem?_take] at hj
      split at hj
      · show w.cell? _ = _
        simp only [World.cell?, hh]
        rw [← Array.getElem?_toList, Nat.zero_add]; exact hj
      · cases hj)
  obtain ⟨G, hG⟩ : ∃ G, G = grownCap w (n + 1) c 40 := ⟨_, rfl⟩
  obtain ⟨R1, hR1⟩ : ∃ R1 : Array Value, R1 = (cur.toList.take (i * 4)).toArray ++ Builtin.zeroCells z.cells (n + 1 - i) ++ Builtin.zeroCells z.cells (G - (n + 1)) := ⟨_, rfl⟩
  have hrz : ∀ ty, (Builtin.append_ #[22, 3] ty #[.slice (some ⟨g, 0, none⟩) i c, .int .i64 ((n : Int) + 1 - (i : Int))]).run Try.prog w = .ok (.slice (some ⟨w.heap.size, 0, none⟩) (n + 1) G) (w.drew.alloc (.cells R1 40)) := fun ty => by
    have h := Lib.run_append_grow_zeros w 22 3 ty 40 i0 _ .i64 .i64 Try.underlying22 Try.underlying3 hi0 hz0 (some ⟨g, 0, none⟩) i c _ hold (n + 1 - i) (by omega) (by omega) (by omega) (by omega) (by rw [hzb]; omega) (by rw [hzb, hik]; exact growslice_fits hroom hbig)
    rw [hik, ← hG, ← hR1] at h
    rw [hkk]
    exact h
  have hGn : n + 1 ≤ G := by rw [hG]; exact grownCap_ge w _ _ _
  have hGm : G ≤ maxLen := by rw [hG]; exact grownCap_le_maxLen w (n + 1) c 40 (by unfold maxLen; omega)
  have hG63 : G ≤ 9223372036854775807 := by unfold maxLen at hGm; omega
  have hRs : R1.size = G * 4 := by
    rw [hR1]; simp only [Array.size_append, List.size_toArray, size_zeroCells, hzc, List.length_take, Array.length_toList]
    omega
  have hRt : R1.toList.take (i * 4) = cur.toList.take (i * 4) := by
    rw [hR1]
    have hl : (cur.toList.take (i * 4)).length = i * 4 := by rw [List.length_take, Array.length_toList]; omega
    simp only [Array.toList_append, List.append_assoc]
    exact List.take_left' hl
  obtain ⟨R2, hR2⟩ : ∃ R2 : Array Value, R2 = (R1.toList.take (i * 4) ++ xs ++ R1.toList.drop (i * 4 + 4)).toArray := ⟨_, rfl⟩
  obtain ⟨R3, hR3⟩ : ∃ R3 : Array Value, R3 = (R2.toList.take ((i + 1) * 4) ++ (cur.toList.take (n * 4)).drop (i * 4) ++ R2.toList.drop ((i + 1) * 4 + (n - i) * 4)).toArray := ⟨_, rfl⟩
  have hle : (i + 1) * 4 + (n - i) * 4 ≤ G * 4 := by omega
  have hR2s : R2.size = G * 4 := by
    rw [hR2]; simp only [List.size_toArray, List.length_append, List.length_take, List.length_drop, Array.length_toList, hxl, hRs]
    omega
  have hcpA : ∀ W : World, W.heap = (w.alloc (.cells R1 40)).heap → ∀ ty dc, (Builtin.copy_ #[22, 22] ty #[.slice (some ⟨w.heap.size, i * 4, none⟩) (n + 1 - i) dc, .slice (some ⟨vb, voff, none⟩) 1 vc]).run Try.prog W = .ok (goInt 1) (W.setRow w.heap.size R2) := fun W hW ty dc => by
    have h := A.run_copy_row (P := Try.prog) W 22 ty 40 4 Try.underlying22 hsz w.heap.size (i * 4) (n + 1 - i) dc ⟨vb, voff, none⟩ 1 vc R1 40 (by rw [hW]; exact World.alloc_heap_new w _) xs 1 (by simp only [Nat.min_def]; split <;> omega) (by omega) (fun j v hj => by
      rw [Addr.add_lit]
      have := hx j v hj
      unfold World.cell? at this ⊢
      rw [hW]
      rw [A.alloc_old w _ hvw]
      exact this) (by omega) h1x
    rw [hxl] at h
    rw [hR2]; exact h
  have hcpB : ∀ W : World, W.heap = ((w.alloc (.cells R1 40)).setRow w.heap.size R2).heap → ∀ ty dc sc, (Builtin.copy_ #[22, 22] ty #[.slice (some ⟨w.heap.size, (i + 1) * 4, none⟩) (n - i) dc, .slice (some ⟨g, i * 4, none⟩) (n - i) sc]).run Try.prog W = .ok (goInt ((n - i : Nat) : Int)) (W.setRow w.heap.size R3) := fun W hW ty dc sc => by
    have h := A.run_copy_row (P := Try.prog) W 22 ty 40 4 Try.underlying22 hsz w.heap.size ((i + 1) * 4) (n - i) dc ⟨g, i * 4, none⟩ (n - i) sc R2 40 (by rw [hW]; exact setRow_heap _ _ R1 R2 40 (0, 0) (World.alloc_heap_new w _)) _ (n - i) (by simp only [Nat.min_def]; split <;> omega) hdl (fun j v hj => by
      rw [Addr.add_lit]
      have hc : W.cell? ⟨g, i * 4 + j, none⟩ = ((w.alloc (.cells R1 40)).setRow w.heap.size R2).cell? ⟨g, i * 4 + j, none⟩ := by unfold World.cell?; rw [hW]
      rw [hc, cell_setRow_other _ _ _ _ (show g ≠ w.heap.size by omega)]
      rw [List.getElem?_drop, List.getElem?_take] at hj
      split at hj
      · unfold World.cell?
        rw [A.alloc_old w _ hgw, hh]
        simp only
        rw [← Array.getElem?_toList]; exact hj
      · cases hj) (by rw [hdl, hR2s]; omega) h1c
    rw [hdl] at h
    rw [hR3]; exact h
  have hw1 : IntKind.i64.wrap ((i : Int) + 1) = (i : Int) + 1 := by rw [IntKind.wrap_i64]; omega
  have hw2 : IntKind.i64.wrap ((n : Int) + 1) = (n : Int) + 1 := by rw [IntKind.wrap_i64]; omega
  have hz2 : ¬ ((i : Int) = (n : Int)) := by omega
  have hz3 : (c : Int) < (n : Int) + 1 := by omega
  have hb1 : (0 : Int) ≤ (i : Int) + 1 := by omega
  have hin : i ≤ n := by omega
  have htn : ((i : Int) + 1).toNat = i + 1 := by omega
  have hb3 : (i : Int) ≤ (n : Int) := by omega
  have hb4 : ¬ (c = i) := by omega
  have hGi : ¬ (G = i) := by omega
  have hGim : ¬ (G = i + 1) := by omega
  clear hkk hik hold hR1 hG hle hR2s hdl hsz
  refine Calls.mono (R := fun e w' => e = .returned (.slice (some ⟨w.heap.size, 0, none⟩) (n + 1) G) ∧ w'.heap = (((w.alloc (.cells R1 40)).setRow w.heap.size R2).setRow w.heap.size R3).heap ∧ w'.os = w.os ∧ w'.tape = w.tape ∧ w'.output = w.output ∧ w.drawn ≤ w'.drawn) ?_ (fun e w' h => ⟨G, R1, R2, h.1, hGn, hGm, hRs, hRt, hR2, by rw [← hR3]; exact h.2.1, h.2.2⟩)
  have hA := hcpA (w.alloc (.cells R1 40)).drew rfl
  have hB := hcpB ((w.alloc (.cells R1 40)).drew.setRow w.heap.size R2).drew rfl
  clear hR2 hR3 hRt hcpA hcpB
  go_enter Try.func38, Try.ntmps38
  go_wp2_with (first
    | (at_builtin; refine Lib.wpList_append_run _ rfl _ _ _ _ rfl _ _ rfl rfl _ _ (hrz _) ?_)
    | (at_builtin; refine wpList_copy_runI _ rfl _ _ 22 22 rfl _ _ rfl rfl (hA _ _) ?_))
  go_region_law (refine step_copy_runI rfl _ _ 22 22 rfl _ _ (by simp [Act.eval, Act.put]) (by simp [Act.eval, Act.put]) (hB _ _ _) ?_)
  go_wp2
  go_ret
  exact ⟨rfl, rfl, rfl, rfl, rfl, by first | exact Nat.le_refl _ | exact Nat.le_succ _ | exact Nat.le_add_right _ 2 | exact Nat.le_add_right _ 3⟩
theorem ins_mid_f38 : A.InsMid Try.prog 38 40 4 32 := by
  intro g n c i vb voff vc cur curv xs w hi hnc hcm hbig hvb hh hcs hv hxl hx h1x h1c
  have h1d : ∀ u ∈ (cur.toList.take (n * 4)).drop (i * 4), u.oneCell' = true := fun u hu => h1c u (List.mem_of_mem_drop hu)
  have hdl : ((cur.toList.take (n * 4)).drop (i * 4)).length = (n - i) * 4 := by
    rw [List.length_drop, List.length_take, Array.length_toList]
    omega
  have hgw : g < w.heap.size := (Array.getElem?_eq_some_iff.1 hh).1
  have ea : (n + 1) * 4 = i * 4 + 4 + (n - i) * 4 := by omega
  have eb : (i + 1) * 4 = i * 4 + 4 := by omega
  by_cases hroom : n + 1 ≤ c
  · refine (ins_shift_f38 g n c i vb voff vc cur curv xs w hi hroom (by unfold maxLen at hcm; omega) hvb hh hcs hv hxl hx h1x h1d _ rfl).mono ?_
    rintro e' w' ⟨rfl, rfl⟩
    obtain ⟨q1, q2⟩ := A.ins_list1 (i * 4) 4 ((n - i) * 4) cur.toList xs _ hdl hxl (by rw [Array.length_toList, hcs]; omega) _ _ rfl rfl
    obtain ⟨c', rfl⟩ : ∃ c', c = c' + 1 := ⟨c - 1, by omega⟩
    refine ⟨g, c', _, rfl, setRow_heap _ g _ _ 40 (0, 0) (setRow_heap w.drew g cur _ 40 (0, 0) hh), hroom, hcm, ?_, ?_, .inl rfl, ?_, Nat.le_succ _⟩
    · rw [← Array.length_toList]
      rw [hxl, eb]; exact q2.trans (by rw [Array.length_toList]; exact hcs)
    · rw [hxl, ea, eb]; exact q1
    · refine ⟨rfl, rfl, rfl, by simp only [World.setRow, Array.size_modify]; exact Nat.le_refl _, fun b hb hne => ?_⟩
      rw [setRow_other _ _ _ _ (fun e => hne (by rw [e])), setRow_other _ _ _ _ (fun e => hne (by rw [e]))]; rfl
  · refine (ins_grow_f38 g n c i vb voff vc cur curv xs w hi hnc (by omega) hbig hh hcs hv hxl hx h1x h1d).mono ?_
    rintro e' w' ⟨G, R1, R2, rfl, hG1, hG2, hR1, hR1t, hR2, hheap, ho, ht, hout, hdr⟩
    obtain ⟨q1, q2⟩ := A.ins_list2 (i * 4) 4 ((n - i) * 4) cur.toList xs _ R1.toList hdl hxl (by rw [Array.length_toList, hR1]; omega) hR1t (by rw [Array.length_toList, hcs]; omega) R2.toList _ (by rw [hR2]) rfl
    obtain ⟨c', rfl⟩ : ∃ c', G = c' + 1 := ⟨G - 1, by omega⟩
    refine ⟨w.heap.size, c', (R2.toList.take ((i + 1) * 4) ++ (cur.toList.take (n * 4)).drop (i * 4) ++ R2.toList.drop ((i + 1) * 4 + (n - i) * 4)).toArray, rfl, ?_, hG1, hG2, ?_, ?_, .inr (Nat.le_refl _), ?_, hdr⟩
    rotate_left 3
    · refine ⟨ho, ht, hout, by rw [hheap]; simp only [World.setRow, Array.size_modify]; show _ ≤ (w.heap.push _).size; rw [Array.size_push]; exact Nat.le_succ _, fun b hb hne => ?_⟩
      rw [hheap, setRow_other _ _ _ _ (by omega), setRow_other _ _ _ _ (by omega)]; exact A.alloc_old w _ hb
    · rw [hheap]; exact setRow_heap _ _ _ _ 40 (0, 0) (setRow_heap _ _ R1 _ 40 (0, 0) (World.alloc_heap_new w _))
    · rw [← Array.length_toList]
      rw [eb]; exact q2.trans (by rw [Array.length_toList]; exact hR1)
    · rw [ea, eb]; exact q1
set_option maxHeartbeats 4000000 in
set_option maxRecDepth 100000 in
theorem ins_end_f38 : A.InsEnd Try.prog 38 22 := by
  intro base n c vb voff vc v' w w' hnc hn hrun
  have h1 : (0 : Int) ≤ (n : Int) := by omega
  cases base with
  | none =>
    have h0 := hn rfl
    subst h0
    go_enter Try.func38, Try.ntmps38
    go_wp2_with (at_builtin; refine Lib.wpList_append_run _ rfl _ _ _ _ rfl _ _ rfl rfl _ _ hrun ?_)
    go_ret
    exact ⟨rfl, rfl⟩
  | some a =>
    obtain ⟨ab, ao, asp⟩ := a
    go_enter Try.func38, Try.ntmps38
    go_wp2_with (at_builtin; refine Lib.wpList_append_run _ rfl _ _ _ _ rfl _ _ rfl rfl _ _ hrun ?_)
    all_goals (go_ret; exact ⟨rfl, rfl⟩)
set_option maxHeartbeats 1000000 in
theorem clone_f45 (a : Option Addr) (c : Nat) (css : List (List Value)) (w : World) (hs : SlC w 4 a css) (h1 : ∀ cs ∈ css, ∀ u ∈ cs, u.oneCell' = true) (hb : css.length * 32 ≤ 140737488355328) :
    Calls Try.prog 45 #[.slice a css.length c] w fun e w' => ∃ v, e = .returned v ∧ OwnL w' w.heap.size 40 4 v css ∧ Ext w w' ∧ w.drawn ≤ w'.drawn := by
  have keq := eql_slice_nil Try.underlying22
  cases a with
  | none =>
    have hnil : css = [] := by
      cases css with
      | nil => rfl
      | cons c r => obtain ⟨_, b, o, h2, _⟩ := hs 0 c rfl; cases h2
    subst hnil
    have kn := fun (w : World) (l c : Nat) => keq w none l c
    simp only [Option.isNone_none] at kn
    clear keq
    go_enter Try.func45, Try.ntmps45
    go_wp2
    go_ret
    exact ⟨_, rfl, OwnL.nil _ _ _ _, by repeat (first | exact Ext.refl _ | assumption | apply Ext.alloc | apply Ext.drewN | apply Ext.drew), by first | exact Nat.le_refl _ | exact Nat.le_succ _⟩
  | some ad =>
    have kn := fun (w : World) (l c : Nat) => keq w (some ad) l c
    simp only [Option.isNone_some] at kn
    clear keq
    have ho : OwnL (w.alloc (.cells #[] 40)) w.heap.size 40 4 (.slice (some ⟨w.heap.size, 0, none⟩) 0 0) [] := ⟨World.ownsRow_lit w #[] 0 (Nat.le_refl _) (Nat.zero_le _) (by simp), fun c hc => by cases hc⟩
    go_enter Try.func45, Try.ntmps45
    go_wp2_with (at_builtin; refine wpl_append_d rfl _ _ 22 rfl elemT_22 w.heap.size rfl ho rfl rfl (hs.ext ((Ext.refl w).alloc _)) h1 (by simpa using hb) (by decide) (by simp) ?_; intro v' W' ho' hg' hd'; have he' := ext_own ((Ext.refl w).alloc _) ho (Nat.le_refl _) hg'; clear hg')
    go_ret
    exact ⟨_, rfl, by simpa using ho', he', hd'⟩
end Go.Proofs.Ytabadcnpmfafnaa.F

/- What the evaluator is told of the functions. No condition. -/
namespace Go.Proofs.Ytabadcnpmfafnaa.F
open Go Go.Proofs.Ytabadcnpmfafnaa.A
def fns : FuncId → Option AFunc
  | 3 => some f3
  | 4 => some f4
  | 5 => some f5
  | 7 => some f7
  | 8 => some f8
  | 9 => some f9
  | 10 => some f10
  | 11 => some f11
  | 12 => some f12
  | 13 => some f13
  | 14 => some f14
  | 15 => some f15
  | 16 => some f16
  | 17 => some f17
  | 18 => some f18
  | 19 => some f19
  | 20 => some f20
  | 21 => some f21
  | 22 => some f22
  | 23 => some f23
  | 24 => some f24
  | 28 => some f28
  | 29 => some f29
  | 30 => some f30
  | 31 => some f31
  | 32 => some f32
  | 33 => some f33
  | 34 => some f34
  | 35 => some f35
  | 36 => some f36
  | 37 => some f37
  | 39 => some f39
  | 40 => some f40
  | 41 => some f41
  | 42 => some f42
  | 43 => some f43
  | 44 => some f44
  | 46 => some f46
  | 47 => some f47
  | 50 => some f50
  | 51 => some f51
  | 52 => some f52
  | 54 => some f54
  | _ => none
def prims : FuncId → Option (List AV → List Blk → Option (AV × List Blk))
  | 38 => some (pInsert 40 4 32)
  | 45 => some (pClone 40 4 32)
  | _ => none
def E : Env := ⟨fns, prims⟩
theorem envOk : EnvOk Try.prog G E := by
  refine ⟨fun f af _ h => ?_, fun f p h => ?_⟩
  · show ∃ fm g, _
    change fns f = some af at h
    unfold fns at h
    split at h
    · cases h; exact ⟨Try.f3, f3, Try.func3, by kernel_rfl, c3⟩
    · cases h; exact ⟨Try.f4, f4, Try.func4, by kernel_rfl, c4⟩
    · cases h; exact ⟨Try.f5, f5, Try.func5, by kernel_rfl, c5⟩
    · cases h; exact ⟨Try.f7, f7, Try.func7, by kernel_rfl, c7⟩
    · cases h; exact ⟨Try.f8, f8, Try.func8, by kernel_rfl, c8⟩
    · cases h; exact ⟨Try.f9, f9, Try.func9, by kernel_rfl, c9⟩
    · cases h; exact ⟨Try.f10, f10, Try.func10, by kernel_rfl, c10⟩
    · cases h; exact ⟨Try.f11, f11, Try.func11, by kernel_rfl, c11⟩
    · cases h; exact ⟨Try.f12, f12, Try.func12, by kernel_rfl, c12⟩
    · cases h; exact ⟨Try.f13, f13, Try.func13, by kernel_rfl, c13⟩
    · cases h; exact ⟨Try.f14, f14, Try.func14, by kernel_rfl, c14⟩
    · cases h; exact ⟨Try.f15, f15, Try.func15, by kernel_rfl, c15⟩
    · cases h; exact ⟨Try.f16, f16, Try.func16, by kernel_rfl, c16⟩
    · cases h; exact ⟨Try.f17, f17, Try.func17, by kernel_rfl, c17⟩
    · cases h; exact ⟨Try.f18, f18, Try.func18, by kernel_rfl, c18⟩
    · cases h; exact ⟨Try.f19, f19, Try.func19, by kernel_rfl, c19⟩
    · cases h; exact ⟨Try.f20, f20, Try.func20, by kernel_rfl, c20⟩
    · cases h; exact ⟨Try.f21, f21, Try.func21, by kernel_rfl, c21⟩
    · cases h; exact ⟨Try.f22, f22, Try.func22, by kernel_rfl, c22⟩
    · cases h; exact ⟨Try.f23, f23, Try.func23, by kernel_rfl, c23⟩
    · cases h; exact ⟨Try.f24, f24, Try.func24, by kernel_rfl, c24⟩
    · cases h; exact ⟨Try.f28, f28, Try.func28, by kernel_rfl, c28⟩
    · cases h; exact ⟨Try.f29, f29, Try.func29, by kernel_rfl, c29⟩
    · cases h; exact ⟨Try.f30, f30, Try.func30, by kernel_rfl, c30⟩
    · cases h; exact ⟨Try.f31, f31, Try.func31, by kernel_rfl, c31⟩
    · cases h; exact ⟨Try.f32, f32, Try.func32, by kernel_rfl, c32⟩
    · cases h; exact ⟨Try.f33, f33, Try.func33, by kernel_rfl, c33⟩
    · cases h; exact ⟨Try.f34, f34, Try.func34, by kernel_rfl, c34⟩
    · cases h; exact ⟨Try.f35, f35, Try.func35, by kernel_rfl, c35⟩
    · cases h; exact ⟨Try.f36, f36, Try.func36, by kernel_rfl, c36⟩
    · cases h; exact ⟨Try.f37, f37, Try.func37, by kernel_rfl, c37⟩
    · cases h; exact ⟨Try.f39, f39, Try.func39, by kernel_rfl, c39⟩
    · cases h; exact ⟨Try.f40, f40, Try.func40, by kernel_rfl, c40⟩
    · cases h; exact ⟨Try.f41, f41, Try.func41, by kernel_rfl, c41⟩
    · cases h; exact ⟨Try.f42, f42, Try.func42, by kernel_rfl, c42⟩
    · cases h; exact ⟨Try.f43, f43, Try.func43, by kernel_rfl, c43⟩
    · cases h; exact ⟨Try.f44, f44, Try.func44, by kernel_rfl, c44⟩
    · cases h; exact ⟨Try.f46, f46, Try.func46, by kernel_rfl, c46⟩
    · cases h; exact ⟨Try.f47, f47, Try.func47, by kernel_rfl, c47⟩
    · cases h; exact ⟨Try.f50, f50, Try.func50, by kernel_rfl, c50⟩
    · cases h; exact ⟨Try.f51, f51, Try.func51, by kernel_rfl, c51⟩
    · cases h; exact ⟨Try.f52, f52, Try.func52, by kernel_rfl, c52⟩
    · cases h; exact ⟨Try.f54, f54, Try.func54, by kernel_rfl, c54⟩
    · cases h
  · change prims f = some p at h
    unfold prims at h
    split at h
    · cases h; exact pInsert_ok' (ent_of Try.func38 (by kernel_rfl) (c := _) rfl) (by kernel_rfl) elemT_22 ins_mid_f38 ins_end_f38
    · cases h; exact pClone_ok (ent_of Try.func45 (by kernel_rfl) (c := _) rfl) clone_f45
    · cases h
end Go.Proofs.Ytabadcnpmfafnaa.F

/- A peer's row, as data; which may be. No condition. -/
set_option linter.unusedSimpArgs false
namespace Go.Proofs.Ytabadcnpmfafnaa.D
open Go Go.Proofs.Ytabadcnpmfafnaa.A
structure Pu where
  num : Int
  heard : Int
  good : Int
  st : Int
  deriving DecidableEq
def uv (p : Pu) : List AV := [.int .i64 p.num, .int .i64 p.heard, .int .i64 p.good, .int .i64 p.st]
def zerU : Pu := ⟨0, 0, 0, 0⟩
theorem uv_zer : uv zerU = [.int .i64 0, .int .i64 0, .int .i64 0, .int .i64 0] := rfl
theorem uv_len (p : Pu) : (uv p).length = 4 := rfl
theorem uv_data (p : Pu) : dataL (uv p) = true := rfl
theorem uv_below (m : Nat) (p : Pu) : belowL m (uv p) = true := rfl
theorem uv_p (p : Pu) : piece (uv p) 0 4 = some (uv p) := rfl
theorem uv_0 (p : Pu) : piece (uv p) 0 1 = some [.int .i64 p.num] := rfl
theorem uv_1 (p : Pu) : piece (uv p) 1 1 = some [.int .i64 p.heard] := rfl
theorem uv_2 (p : Pu) : piece (uv p) 2 1 = some [.int .i64 p.good] := rfl
theorem uv_3 (p : Pu) : piece (uv p) 3 1 = some [.int .i64 p.st] := rfl
theorem uv_snap (bs : List Blk) (p : Pu) : snap bs (.agg (uv p)) = some (.agg (uv p)) := rfl
def urows (l : List Pu) : List (List AV) := l.map uv
theorem urows_len (l : List Pu) : (urows l).length = l.length := by simp [urows]
def PuOk (now : Int) (p : Pu) : Prop := 1 ≤ p.num ∧ p.num ≤ 8 ∧ 0 ≤ p.heard ∧ p.heard ≤ now ∧ 0 ≤ p.good ∧ p.good ≤ 3 ∧
  ((p.st = 1 ∧ now - p.heard ≤ 4) ∨ (p.st = 2 ∧ 4 < now - p.heard ∧ now - p.heard ≤ 9 ∧ p.good = 0) ∨ (p.st = 0 ∧ now - p.heard ≤ 9 ∧ p.good < 3 ∧ (now - p.heard ≤ 4 ∨ p.good = 0)) ∨ (p.st = 3 ∧ p.good < 3 ∧ (now - p.heard ≤ 4 ∨ p.good = 0)))
instance {now : Int} {p : Pu} : Decidable (PuOk now p) := by unfold PuOk; infer_instance
end Go.Proofs.Ytabadcnpmfafnaa.D
namespace Go.Proofs.Ytabadcnpmfafnaa.F
open Go Go.Proofs.Ytabadcnpmfafnaa.A Go.Proofs.Ytabadcnpmfafnaa.D
def spanI (n : Int) : Int := if n ≤ 4 then 0 else if n ≤ 9 then 1 else 2
theorem e34 (now : Int) (p : Pu) : LV E 34 [.int .i64 now, .agg (uv p)] = some (.int .i64 (spanI (IntKind.i64.wrap (now - p.heard)))) := by
  rw [LV_R (fn := f34) rfl rfl rfl]
  simp only [f34, RB, pickV, eqbV, notV, negV, convV, faddrV, fldV, idxV, eqaggV, iaddrV, isnilV, nilckV, cloV, extrV, slenV, minV, sidxV, abin, cmpInt, params, growLists, fillCells, newAt, rdPtr, wrPtr, AV.cells, asVal, lenOf, boundOf, rowsOf, argIds, freshIn, scalar1, setAll, AV.isData, AV.isYld, Nat.reduceAdd, Nat.reduceMul, Nat.reduceSub, Nat.reduceEqDiff, Nat.reduceLeDiff, Nat.reduceLT, Int.reduceNeg, ↓reduceIte, reduceCtorEq, Int.reduceEq, Int.reduceLT, Int.reduceLE, Int.reduceBEq, Int.reduceBNe, Int.reduceToNat, IntKind.bits, Int.reduceAdd, Int.reduceSub, Int.reduceMul, Int.reduceTDiv, Int.reduceTMod, uv_len, uv_data, uv_p, uv_1]
  unfold spanI
  by_cases h1 : IntKind.i64.wrap (now - p.heard) ≤ 4
  · simp only [RB, pickV, eqbV, notV, negV, convV, faddrV, fldV, idxV, eqaggV, iaddrV, isnilV, nilckV, cloV, extrV, slenV, minV, sidxV, abin, cmpInt, params, growLists, fillCells, newAt, rdPtr, wrPtr, AV.cells, asVal, lenOf, boundOf, rowsOf, argIds, freshIn, scalar1, setAll, AV.isData, AV.isYld, Nat.reduceAdd, Nat.reduceMul, Nat.reduceSub, Nat.reduceEqDiff, Nat.reduceLeDiff, Nat.reduceLT, Int.reduceNeg, ↓reduceIte, reduceCtorEq, Int.reduceEq, Int.reduceLT, Int.reduceLE, Int.reduceBEq, Int.reduceBNe, Int.reduceToNat, IntKind.bits, Int.reduceAdd, Int.reduceSub, Int.reduceMul, Int.reduceTDiv, Int.reduceTMod, h1]
  · by_cases h2 : IntKind.i64.wrap (now - p.heard) ≤ 9
    · simp only [RB, pickV, eqbV, notV, negV, convV, faddrV, fldV, idxV, eqaggV, iaddrV, isnilV, nilckV, cloV, extrV, slenV, minV, sidxV, abin, cmpInt, params, growLists, fillCells, newAt, rdPtr, wrPtr, AV.cells, asVal, lenOf, boundOf, rowsOf, argIds, freshIn, scalar1, setAll, AV.isData, AV.isYld, Nat.reduceAdd, Nat.reduceMul, Nat.reduceSub, Nat.reduceEqDiff, Nat.reduceLeDiff, Nat.reduceLT, Int.reduceNeg, ↓reduceIte, reduceCtorEq, Int.reduceEq, Int.reduceLT, Int.reduceLE, Int.reduceBEq, Int.reduceBNe, Int.reduceToNat, IntKind.bits, Int.reduceAdd, Int.reduceSub, Int.reduceMul, Int.reduceTDiv, Int.reduceTMod, h1, h2]
    · simp only [RB, pickV, eqbV, notV, negV, convV, faddrV, fldV, idxV, eqaggV, iaddrV, isnilV, nilckV, cloV, extrV, slenV, minV, sidxV, abin, cmpInt, params, growLists, fillCells, newAt, rdPtr, wrPtr, AV.cells, asVal, lenOf, boundOf, rowsOf, argIds, freshIn, scalar1, setAll, AV.isData, AV.isYld, Nat.reduceAdd, Nat.reduceMul, Nat.reduceSub, Nat.reduceEqDiff, Nat.reduceLeDiff, Nat.reduceLT, Int.reduceNeg, ↓reduceIte, reduceCtorEq, Int.reduceEq, Int.reduceLT, Int.reduceLE, Int.reduceBEq, Int.reduceBNe, Int.reduceToNat, IntKind.bits, Int.reduceAdd, Int.reduceSub, Int.reduceMul, Int.reduceTDiv, Int.reduceTMod, h1, h2]
end Go.Proofs.Ytabadcnpmfafnaa.F

/- A peer's row that may be: by the program. No condition. -/
set_option linter.unusedSimpArgs false
namespace Go.Proofs.Ytabadcnpmfafnaa.F
open Go Go.Proofs.Ytabadcnpmfafnaa.A Go.Proofs.Ytabadcnpmfafnaa.D
theorem span_cases (n : Int) : (spanI n = 0 ∧ n ≤ 4) ∨ (spanI n = 1 ∧ 4 < n ∧ n ≤ 9) ∨ (spanI n = 2 ∧ 9 < n) := by
  unfold spanI
  by_cases h1 : n ≤ 4
  · exact .inl ⟨if_pos h1, h1⟩
  · by_cases h2 : n ≤ 9
    · exact .inr (.inl ⟨by rw [if_neg h1, if_pos h2], by omega, h2⟩)
    · exact .inr (.inr ⟨by rw [if_neg h1, if_neg h2], by omega⟩)
set_option maxHeartbeats 4000000 in
theorem e43 (now : Int) (p : Pu) (hn : now ≤ 4611686018427387904) : LV E 43 [.int .i64 now, .agg (uv p)] = some (.bool (decide (PuOk now p))) := by
  rw [LV_R (fn := f43) rfl rfl rfl]
  have no : ¬ PuOk now p → (decide (PuOk now p)) = false := fun h => decide_eq_false h
  by_cases a1 : p.num < 1
  · rw [no (by unfold PuOk; omega)]; simp only [f43, RB, pickV, eqbV, notV, negV, convV, faddrV, fldV, idxV, eqaggV, iaddrV, isnilV, nilckV, cloV, extrV, slenV, minV, sidxV, abin, cmpInt, params, growLists, fillCells, newAt, rdPtr, wrPtr, AV.cells, asVal, lenOf, boundOf, rowsOf, argIds, freshIn, scalar1, setAll, AV.isData, AV.isYld, Nat.reduceAdd, Nat.reduceMul, Nat.reduceSub, Nat.reduceEqDiff, Nat.reduceLeDiff, Nat.reduceLT, Int.reduceNeg, ↓reduceIte, reduceCtorEq, Int.reduceEq, Int.reduceLT, Int.reduceLE, Int.reduceBEq, Int.reduceBNe, Int.reduceToNat, IntKind.bits, Int.reduceAdd, Int.reduceSub, Int.reduceMul, Int.reduceTDiv, Int.reduceTMod, uv_len, uv_data, uv_p, uv_0, uv_1, uv_2, uv_3, a1]
  by_cases a2 : 8 < p.num
  · rw [no (by unfold PuOk; omega)]; simp only [f43, RB, pickV, eqbV, notV, negV, convV, faddrV, fldV, idxV, eqaggV, iaddrV, isnilV, nilckV, cloV, extrV, slenV, minV, sidxV, abin, cmpInt, params, growLists, fillCells, newAt, rdPtr, wrPtr, AV.cells, asVal, lenOf, boundOf, rowsOf, argIds, freshIn, scalar1, setAll, AV.isData, AV.isYld, Nat.reduceAdd, Nat.reduceMul, Nat.reduceSub, Nat.reduceEqDiff, Nat.reduceLeDiff, Nat.reduceLT, Int.reduceNeg, ↓reduceIte, reduceCtorEq, Int.reduceEq, Int.reduceLT, Int.reduceLE, Int.reduceBEq, Int.reduceBNe, Int.reduceToNat, IntKind.bits, Int.reduceAdd, Int.reduceSub, Int.reduceMul, Int.reduceTDiv, Int.reduceTMod, uv_len, uv_data, uv_p, uv_0, uv_1, uv_2, uv_3, a1, a2]
  by_cases a3 : p.heard < 0
  · rw [no (by unfold PuOk; omega)]; simp only [f43, RB, pickV, eqbV, notV, negV, convV, faddrV, fldV, idxV, eqaggV, iaddrV, isnilV, nilckV, cloV, extrV, slenV, minV, sidxV, abin, cmpInt, params, growLists, fillCells, newAt, rdPtr, wrPtr, AV.cells, asVal, lenOf, boundOf, rowsOf, argIds, freshIn, scalar1, setAll, AV.isData, AV.isYld, Nat.reduceAdd, Nat.reduceMul, Nat.reduceSub, Nat.reduceEqDiff, Nat.reduceLeDiff, Nat.reduceLT, Int.reduceNeg, ↓reduceIte, reduceCtorEq, Int.reduceEq, Int.reduceLT, Int.reduceLE, Int.reduceBEq, Int.reduceBNe, Int.reduceToNat, IntKind.bits, Int.reduceAdd, Int.reduceSub, Int.reduceMul, Int.reduceTDiv, Int.reduceTMod, uv_len, uv_data, uv_p, uv_0, uv_1, uv_2, uv_3, a1, a2, a3]
  by_cases a4 : now < p.heard
  · rw [no (by unfold PuOk; omega)]; simp only [f43, RB, pickV, eqbV, notV, negV, convV, faddrV, fldV, idxV, eqaggV, iaddrV, isnilV, nilckV, cloV, extrV, slenV, minV, sidxV, abin, cmpInt, params, growLists, fillCells, newAt, rdPtr, wrPtr, AV.cells, asVal, lenOf, boundOf, rowsOf, argIds, freshIn, scalar1, setAll, AV.isData, AV.isYld, Nat.reduceAdd, Nat.reduceMul, Nat.reduceSub, Nat.reduceEqDiff, Nat.reduceLeDiff, Nat.reduceLT, Int.reduceNeg, ↓reduceIte, reduceCtorEq, Int.reduceEq, Int.reduceLT, Int.reduceLE, Int.reduceBEq, Int.reduceBNe, Int.reduceToNat, IntKind.bits, Int.reduceAdd, Int.reduceSub, Int.reduceMul, Int.reduceTDiv, Int.reduceTMod, uv_len, uv_data, uv_p, uv_0, uv_1, uv_2, uv_3, a1, a2, a3, a4]
  by_cases a5 : p.good < 0
  · rw [no (by unfold PuOk; omega)]; simp only [f43, RB, pickV, eqbV, notV, negV, convV, faddrV, fldV, idxV, eqaggV, iaddrV, isnilV, nilckV, cloV, extrV, slenV, minV, sidxV, abin, cmpInt, params, growLists, fillCells, newAt, rdPtr, wrPtr, AV.cells, asVal, lenOf, boundOf, rowsOf, argIds, freshIn, scalar1, setAll, AV.isData, AV.isYld, Nat.reduceAdd, Nat.reduceMul, Nat.reduceSub, Nat.reduceEqDiff, Nat.reduceLeDiff, Nat.reduceLT, Int.reduceNeg, ↓reduceIte, reduceCtorEq, Int.reduceEq, Int.reduceLT, Int.reduceLE, Int.reduceBEq, Int.reduceBNe, Int.reduceToNat, IntKind.bits, Int.reduceAdd, Int.reduceSub, Int.reduceMul, Int.reduceTDiv, Int.reduceTMod, uv_len, uv_data, uv_p, uv_0, uv_1, uv_2, uv_3, a1, a2, a3, a4, a5]
  by_cases a6 : 3 < p.good
  · rw [no (by unfold PuOk; omega)]; simp only [f43, RB, pickV, eqbV, notV, negV, convV, faddrV, fldV, idxV, eqaggV, iaddrV, isnilV, nilckV, cloV, extrV, slenV, minV, sidxV, abin, cmpInt, params, growLists, fillCells, newAt, rdPtr, wrPtr, AV.cells, asVal, lenOf, boundOf, rowsOf, argIds, freshIn, scalar1, setAll, AV.isData, AV.isYld, Nat.reduceAdd, Nat.reduceMul, Nat.reduceSub, Nat.reduceEqDiff, Nat.reduceLeDiff, Nat.reduceLT, Int.reduceNeg, ↓reduceIte, reduceCtorEq, Int.reduceEq, Int.reduceLT, Int.reduceLE, Int.reduceBEq, Int.reduceBNe, Int.reduceToNat, IntKind.bits, Int.reduceAdd, Int.reduceSub, Int.reduceMul, Int.reduceTDiv, Int.reduceTMod, uv_len, uv_data, uv_p, uv_0, uv_1, uv_2, uv_3, a1, a2, a3, a4, a5, a6]
  have hw : IntKind.i64.wrap (now - p.heard) = now - p.heard := IntWalk.i64_in _ (by omega)
  have e34 := e34 now p
  rw [hw] at e34
  have P : PuOk now p ↔ ((p.st = 1 ∧ now - p.heard ≤ 4) ∨ (p.st = 2 ∧ 4 < now - p.heard ∧ now - p.heard ≤ 9 ∧ p.good = 0) ∨ (p.st = 0 ∧ now - p.heard ≤ 9 ∧ p.good < 3 ∧ (now - p.heard ≤ 4 ∨ p.good = 0)) ∨ (p.st = 3 ∧ p.good < 3 ∧ (now - p.heard ≤ 4 ∨ p.good = 0))) := by
    unfold PuOk
    exact ⟨fun h => h.2.2.2.2.2.2, fun h => ⟨by omega, by omega, by omega, by omega, by omega, by omega, h⟩⟩
  have yes : PuOk now p → (decide (PuOk now p)) = true := fun h => decide_eq_true h
  replace no := fun (h : ¬ ((p.st = 1 ∧ now - p.heard ≤ 4) ∨ (p.st = 2 ∧ 4 < now - p.heard ∧ now - p.heard ≤ 9 ∧ p.good = 0) ∨ (p.st = 0 ∧ now - p.heard ≤ 9 ∧ p.good < 3 ∧ (now - p.heard ≤ 4 ∨ p.good = 0)) ∨ (p.st = 3 ∧ p.good < 3 ∧ (now - p.heard ≤ 4 ∨ p.good = 0)))) => no (fun k => h (P.1 k))
  replace yes := fun (h : ((p.st = 1 ∧ now - p.heard ≤ 4) ∨ (p.st = 2 ∧ 4 < now - p.heard ∧ now - p.heard ≤ 9 ∧ p.good = 0) ∨ (p.st = 0 ∧ now - p.heard ≤ 9 ∧ p.good < 3 ∧ (now - p.heard ≤ 4 ∨ p.good = 0)) ∨ (p.st = 3 ∧ p.good < 3 ∧ (now - p.heard ≤ 4 ∨ p.good = 0)))) => yes (P.2 h)
  rcases span_cases (now - p.heard) with ⟨s, s1⟩ | ⟨s, s1, s2⟩ | ⟨s, s1⟩
  all_goals
    rw [s] at e34
    have b3 : (p.good < 3) ∨ ¬ (p.good < 3) := Classical.em _
    have b0 : ((p.good == 0) = true ∧ p.good = 0) ∨ ((p.good == 0) = false ∧ p.good ≠ 0) := by
      by_cases h : p.good = 0
      · exact .inl ⟨by rw [beq_iff_eq]; exact h, h⟩
      · exact .inr ⟨by rw [beq_eq_false_iff_ne]; exact h, h⟩
    have t1 : ((p.st == 1) = true ∧ p.st = 1) ∨ ((p.st == 1) = false ∧ p.st ≠ 1) := by
      by_cases h : p.st = 1
      · exact .inl ⟨by rw [beq_iff_eq]; exact h, h⟩
      · exact .inr ⟨by rw [beq_eq_false_iff_ne]; exact h, h⟩
    have t2 : ((p.st == 2) = true ∧ p.st = 2) ∨ ((p.st == 2) = false ∧ p.st ≠ 2) := by
      by_cases h : p.st = 2
      · exact .inl ⟨by rw [beq_iff_eq]; exact h, h⟩
      · exact .inr ⟨by rw [beq_eq_false_iff_ne]; exact h, h⟩
    have t0 : ((p.st == 0) = true ∧ p.st = 0) ∨ ((p.st == 0) = false ∧ p.st ≠ 0) := by
      by_cases h : p.st = 0
      · exact .inl ⟨by rw [beq_iff_eq]; exact h, h⟩
      · exact .inr ⟨by rw [beq_eq_false_iff_ne]; exact h, h⟩
    have t3 : ((p.st == 3) = true ∧ p.st = 3) ∨ ((p.st == 3) = false ∧ p.st ≠ 3) := by
      by_cases h : p.st = 3
      · exact .inl ⟨by rw [beq_iff_eq]; exact h, h⟩
      · exact .inr ⟨by rw [beq_eq_false_iff_ne]; exact h, h⟩
    rcases b3 with b3 | b3 <;> rcases b0 with ⟨b0, c0⟩ | ⟨b0, c0⟩ <;> rcases t1 with ⟨t1, u1⟩ | ⟨t1, u1⟩ <;> (try (rcases t2 with ⟨t2, u2⟩ | ⟨t2, u2⟩)) <;> (try (rcases t0 with ⟨t0, u0⟩ | ⟨t0, u0⟩)) <;> (try (rcases t3 with ⟨t3, u3⟩ | ⟨t3, u3⟩)) <;> first
      | (exfalso; omega)
      | (rw [yes (by omega)]; simp only [f43, RB, pickV, eqbV, notV, negV, convV, faddrV, fldV, idxV, eqaggV, iaddrV, isnilV, nilckV, cloV, extrV, slenV, minV, sidxV, abin, cmpInt, params, growLists, fillCells, newAt, rdPtr, wrPtr, AV.cells, asVal, lenOf, boundOf, rowsOf, argIds, freshIn, scalar1, setAll, AV.isData, AV.isYld, Nat.reduceAdd, Nat.reduceMul, Nat.reduceSub, Nat.reduceEqDiff, Nat.reduceLeDiff, Nat.reduceLT, Int.reduceNeg, ↓reduceIte, reduceCtorEq, Int.reduceEq, Int.reduceLT, Int.reduceLE, Int.reduceBEq, Int.reduceBNe, Int.reduceToNat, IntKind.bits, Int.reduceAdd, Int.reduceSub, Int.reduceMul, Int.reduceTDiv, Int.reduceTMod, uv_len, uv_data, uv_p, uv_0, uv_1, uv_2, uv_3, a1, a2, a3, a4, a5, a6, uv_snap, e34, b3, b0, t1, t2, t0, t3]; done)
      | (rw [no (by omega)]; simp only [f43, RB, pickV, eqbV, notV, negV, convV, faddrV, fldV, idxV, eqaggV, iaddrV, isnilV, nilckV, cloV, extrV, slenV, minV, sidxV, abin, cmpInt, params, growLists, fillCells, newAt, rdPtr, wrPtr, AV.cells, asVal, lenOf, boundOf, rowsOf, argIds, freshIn, scalar1, setAll, AV.isData, AV.isYld, Nat.reduceAdd, Nat.reduceMul, Nat.reduceSub, Nat.reduceEqDiff, Nat.reduceLeDiff, Nat.reduceLT, Int.reduceNeg, ↓reduceIte, reduceCtorEq, Int.reduceEq, Int.reduceLT, Int.reduceLE, Int.reduceBEq, Int.reduceBNe, Int.reduceToNat, IntKind.bits, Int.reduceAdd, Int.reduceSub, Int.reduceMul, Int.reduceTDiv, Int.reduceTMod, uv_len, uv_data, uv_p, uv_0, uv_1, uv_2, uv_3, a1, a2, a3, a4, a5, a6, uv_snap, e34, b3, b0, t1, t2, t0, t3]; done)
end Go.Proofs.Ytabadcnpmfafnaa.F

/- A watch that may be: by the program. No condition. -/
set_option linter.unusedSimpArgs false
namespace Go.Proofs.Ytabadcnpmfafnaa.D
open Go Go.Proofs.Ytabadcnpmfafnaa.A
theorem w_0 (a b : AV) : piece [a, b] 0 1 = some [a] := rfl
theorem w_1 (a b : AV) : piece [a, b] 1 1 = some [b] := rfl
theorem w_2 (a b : AV) : piece [a, b] 0 2 = some [a, b] := rfl
theorem uv_o (l : List AV) (p : Pu) (h : l.length = 4) : ovr l 0 (uv p) = some (uv p) := by
  unfold ovr
  rw [if_pos (by rw [h, uv_len]; decide), List.take_zero, List.nil_append, List.drop_eq_nil_of_le (by rw [h, uv_len]; decide), List.append_nil]
theorem uv_oo (q p : Pu) : ovr (uv q) 0 (uv p) = some (uv p) := rfl
def urow (l : List Pu) (i : Nat) : Pu := l.getD i zerU
theorem urow_some (l : List Pu) {i : Nat} (h : i < l.length) : l[i]? = some (urow l i) := by simp [urow, List.getD_eq_getElem?_getD, h]
theorem urows_get (l : List Pu) {i : Nat} (h : i < l.length) : (urows l)[i]? = some (uv (urow l i)) := by
  rw [urows, List.getElem?_map, urow_some l h]; rfl
def URow (now : Int) (l : List Pu) (i : Nat) : Prop := PuOk now (urow l i) ∧ (0 < i → (urow l (i - 1)).num < (urow l i).num)
def UFrom (now : Int) (l : List Pu) (k : Nat) : Prop := ∀ i, k ≤ i → i < l.length → URow now l i
instance {now : Int} {l : List Pu} {i : Nat} : Decidable (URow now l i) := by unfold URow; infer_instance
instance {now : Int} {l : List Pu} {k : Nat} : Decidable (UFrom now l k) := decidable_of_iff (∀ i, i < l.length → k ≤ i → URow now l i) ⟨fun h i h1 h2 => h i h2 h1, fun h i h1 h2 => h i h2 h1⟩
/-- A watch that may be. -/
def WatOk (now : Int) (l : List Pu) : Prop := (0 ≤ now ∧ now ≤ 1099511627776) ∧ UFrom now l 0
instance {now : Int} {l : List Pu} : Decidable (WatOk now l) := by unfold WatOk; infer_instance
theorem UFrom.next {now : Int} {l : List Pu} {k : Nat} (h : URow now l k) : UFrom now l k ↔ UFrom now l (k + 1) := by
  constructor
  · exact fun H i h1 h2 => H i (by omega) h2
  · intro H i h1 h2
    rcases Nat.lt_or_eq_of_le h1 with h3 | rfl
    · exact H i h3 h2
    · exact h
theorem UFrom.not {now : Int} {l : List Pu} {k : Nat} (hk : k < l.length) (h : ¬ URow now l k) : ¬ UFrom now l k := fun H => h (H k (Nat.le_refl _) hk)
theorem UFrom.done {now : Int} {l : List Pu} {k : Nat} (h : l.length ≤ k) : UFrom now l k := fun i h1 h2 => by omega
end Go.Proofs.Ytabadcnpmfafnaa.D
namespace Go.Proofs.Ytabadcnpmfafnaa.F
open Go Go.Proofs.Ytabadcnpmfafnaa.A Go.Proofs.Ytabadcnpmfafnaa.D
theorem e22 (now : Int) (l : List Pu) (hl : l.length ≤ 4611686018427387904) : LV E 22 [.agg [.int .i64 now, .ro (urows l)]] = some (.int .i64 (if WatOk now l then 0 else 390)) := by
  rw [LV_R (fn := f22) rfl rfl rfl]
  simp only [f22, ← uv_zer]
  by_cases n1 : now < 0
  · rw [if_neg (by unfold WatOk; omega)]
    simp only [RB, pickV, eqbV, notV, negV, convV, faddrV, fldV, idxV, eqaggV, iaddrV, isnilV, nilckV, cloV, extrV, slenV, minV, sidxV, abin, cmpInt, params, growLists, fillCells, newAt, rdPtr, wrPtr, AV.cells, asVal, lenOf, boundOf, rowsOf, argIds, freshIn, scalar1, setAll, AV.isData, AV.isYld, Nat.reduceAdd, Nat.reduceMul, Nat.reduceSub, Nat.reduceEqDiff, Nat.reduceLeDiff, Nat.reduceLT, Int.reduceNeg, ↓reduceIte, reduceCtorEq, Int.reduceEq, Int.reduceLT, Int.reduceLE, Int.reduceBEq, Int.reduceBNe, Int.reduceToNat, IntKind.bits, Int.reduceAdd, Int.reduceSub, Int.reduceMul, Int.reduceTDiv, Int.reduceTMod, R7B, uv_len, uv_data, uv_p, uv_0, uv_1, uv_2, uv_3, uv_oo, uv_snap, w_0, w_1, w_2, urows_len, n1]
  by_cases n2 : 1099511627776 < now
  · rw [if_neg (by unfold WatOk; omega)]
    simp only [RB, pickV, eqbV, notV, negV, convV, faddrV, fldV, idxV, eqaggV, iaddrV, isnilV, nilckV, cloV, extrV, slenV, minV, sidxV, abin, cmpInt, params, growLists, fillCells, newAt, rdPtr, wrPtr, AV.cells, asVal, lenOf, boundOf, rowsOf, argIds, freshIn, scalar1, setAll, AV.isData, AV.isYld, Nat.reduceAdd, Nat.reduceMul, Nat.reduceSub, Nat.reduceEqDiff, Nat.reduceLeDiff, Nat.reduceLT, Int.reduceNeg, ↓reduceIte, reduceCtorEq, Int.reduceEq, Int.reduceLT, Int.reduceLE, Int.reduceBEq, Int.reduceBNe, Int.reduceToNat, IntKind.bits, Int.reduceAdd, Int.reduceSub, Int.reduceMul, Int.reduceTDiv, Int.reduceTMod, R7B, uv_len, uv_data, uv_p, uv_0, uv_1, uv_2, uv_3, uv_oo, uv_snap, w_0, w_1, w_2, urows_len, n1, n2]
  have n3 : 0 ≤ now ∧ now ≤ 1099511627776 := ⟨by omega, by omega⟩
  have eW : WatOk now l ↔ UFrom now l 0 := ⟨fun h => h.2, fun h => ⟨n3, h⟩⟩
  simp only [RB, pickV, eqbV, notV, negV, convV, faddrV, fldV, idxV, eqaggV, iaddrV, isnilV, nilckV, cloV, extrV, slenV, minV, sidxV, abin, cmpInt, params, growLists, fillCells, newAt, rdPtr, wrPtr, AV.cells, asVal, lenOf, boundOf, rowsOf, argIds, freshIn, scalar1, setAll, AV.isData, AV.isYld, Nat.reduceAdd, Nat.reduceMul, Nat.reduceSub, Nat.reduceEqDiff, Nat.reduceLeDiff, Nat.reduceLT, Int.reduceNeg, ↓reduceIte, reduceCtorEq, Int.reduceEq, Int.reduceLT, Int.reduceLE, Int.reduceBEq, Int.reduceBNe, Int.reduceToNat, IntKind.bits, Int.reduceAdd, Int.reduceSub, Int.reduceMul, Int.reduceTDiv, Int.reduceTMod, R7B, uv_len, uv_data, uv_p, uv_0, uv_1, uv_2, uv_3, uv_oo, uv_snap, w_0, w_1, w_2, urows_len, n1, n2, eW]
  refine (W_rec2 (β := AV) (ι := Nat) (M := fun k => [(1, .ptr 0 0 0 0), (14, .ro (urows l)), (15, .int .i64 (l.length : Int)), (16, .int .i64 (k : Int))]) (H := fun _ => ⟨[.box 0 24 [.int .i64 now, .ro (urows l)]], []⟩) (r := fun k => some (AV.int .i64 (if UFrom now l k then 0 else 390))) (μ := fun k => l.length - k) (fun i => ?_) (fun k ih => ?_) 0 rfl rfl)
  · simp [belowL, belowAll, AV.refsLt, Blk.refsLt]
  · by_cases hk : k < l.length
    · have f1 : (k : Int) < (l.length : Int) := by omega
      have f2 : (0 : Int) ≤ (k : Int) := by omega
      have f6 : IntKind.i64.wrap ((k : Int) + 1) = ((k + 1 : Nat) : Int) := by rw [IntWalk.i64_in _ (by omega)] <;> omega
      have g := urows_get l hk
      have h43 := e43 now (urow l k) (by omega)
      by_cases h2 : PuOk now (urow l k)
      · by_cases h4 : 0 < k
        · have g' := urows_get l (show k - 1 < l.length by omega)
          have f3 : IntKind.i64.wrap ((k : Int) - 1) = ((k - 1 : Nat) : Int) := by rw [IntWalk.i64_in _ (by omega)] <;> omega
          have f4 : (0 : Int) < (k : Int) := by omega
          have f5 : (0 : Int) ≤ ((k - 1 : Nat) : Int) := by omega
          by_cases h5 : (urow l k).num ≤ (urow l (k - 1)).num
          · simp only [RB, pickV, eqbV, notV, negV, convV, faddrV, fldV, idxV, eqaggV, iaddrV, isnilV, nilckV, cloV, extrV, slenV, minV, sidxV, abin, cmpInt, params, growLists, fillCells, newAt, rdPtr, wrPtr, AV.cells, asVal, lenOf, boundOf, rowsOf, argIds, freshIn, scalar1, setAll, AV.isData, AV.isYld, Nat.reduceAdd, Nat.reduceMul, Nat.reduceSub, Nat.reduceEqDiff, Nat.reduceLeDiff, Nat.reduceLT, Int.reduceNeg, ↓reduceIte, reduceCtorEq, Int.reduceEq, Int.reduceLT, Int.reduceLE, Int.reduceBEq, Int.reduceBNe, Int.reduceToNat, IntKind.bits, Int.reduceAdd, Int.reduceSub, Int.reduceMul, Int.reduceTDiv, Int.reduceTMod, R7B, uv_len, uv_data, uv_p, uv_0, uv_1, uv_2, uv_3, uv_oo, uv_snap, w_0, w_1, w_2, urows_len, f1, f2, f3, f4, f5, g, g', h43, h2, h5]
            rw [if_neg (UFrom.not hk fun h => by have := h.2 h4; omega)]
          · simp only [RB, pickV, eqbV, notV, negV, convV, faddrV, fldV, idxV, eqaggV, iaddrV, isnilV, nilckV, cloV, extrV, slenV, minV, sidxV, abin, cmpInt, params, growLists, fillCells, newAt, rdPtr, wrPtr, AV.cells, asVal, lenOf, boundOf, rowsOf, argIds, freshIn, scalar1, setAll, AV.isData, AV.isYld, Nat.reduceAdd, Nat.reduceMul, Nat.reduceSub, Nat.reduceEqDiff, Nat.reduceLeDiff, Nat.reduceLT, Int.reduceNeg, ↓reduceIte, reduceCtorEq, Int.reduceEq, Int.reduceLT, Int.reduceLE, Int.reduceBEq, Int.reduceBNe, Int.reduceToNat, IntKind.bits, Int.reduceAdd, Int.reduceSub, Int.reduceMul, Int.reduceTDiv, Int.reduceTMod, R7B, uv_len, uv_data, uv_p, uv_0, uv_1, uv_2, uv_3, uv_oo, uv_snap, w_0, w_1, w_2, urows_len, f1, f2, f3, f4, f5, f6, g, g', h43, h2, h5]
            rw [ih (k + 1) (by omega)]
            simp only [UFrom.next (show URow now l k from ⟨h2, fun _ => by omega⟩)]
        · have f4 : ¬ (0 : Int) < (k : Int) := by omega
          simp only [RB, pickV, eqbV, notV, negV, convV, faddrV, fldV, idxV, eqaggV, iaddrV, isnilV, nilckV, cloV, extrV, slenV, minV, sidxV, abin, cmpInt, params, growLists, fillCells, newAt, rdPtr, wrPtr, AV.cells, asVal, lenOf, boundOf, rowsOf, argIds, freshIn, scalar1, setAll, AV.isData, AV.isYld, Nat.reduceAdd, Nat.reduceMul, Nat.reduceSub, Nat.reduceEqDiff, Nat.reduceLeDiff, Nat.reduceLT, Int.reduceNeg, ↓reduceIte, reduceCtorEq, Int.reduceEq, Int.reduceLT, Int.reduceLE, Int.reduceBEq, Int.reduceBNe, Int.reduceToNat, IntKind.bits, Int.reduceAdd, Int.reduceSub, Int.reduceMul, Int.reduceTDiv, Int.reduceTMod, R7B, uv_len, uv_data, uv_p, uv_0, uv_1, uv_2, uv_3, uv_oo, uv_snap, w_0, w_1, w_2, urows_len, f1, f2, f4, f6, g, h43, h2]
          rw [ih (k + 1) (by omega)]
          simp only [UFrom.next (show URow now l k from ⟨h2, fun h => absurd h h4⟩)]
      · simp only [RB, pickV, eqbV, notV, negV, convV, faddrV, fldV, idxV, eqaggV, iaddrV, isnilV, nilckV, cloV, extrV, slenV, minV, sidxV, abin, cmpInt, params, growLists, fillCells, newAt, rdPtr, wrPtr, AV.cells, asVal, lenOf, boundOf, rowsOf, argIds, freshIn, scalar1, setAll, AV.isData, AV.isYld, Nat.reduceAdd, Nat.reduceMul, Nat.reduceSub, Nat.reduceEqDiff, Nat.reduceLeDiff, Nat.reduceLT, Int.reduceNeg, ↓reduceIte, reduceCtorEq, Int.reduceEq, Int.reduceLT, Int.reduceLE, Int.reduceBEq, Int.reduceBNe, Int.reduceToNat, IntKind.bits, Int.reduceAdd, Int.reduceSub, Int.reduceMul, Int.reduceTDiv, Int.reduceTMod, R7B, uv_len, uv_data, uv_p, uv_0, uv_1, uv_2, uv_3, uv_oo, uv_snap, w_0, w_1, w_2, urows_len, f1, f2, g, h43, h2]
        rw [if_neg (UFrom.not hk fun h => h2 h.1)]
    · simp only [RB, pickV, eqbV, notV, negV, convV, faddrV, fldV, idxV, eqaggV, iaddrV, isnilV, nilckV, cloV, extrV, slenV, minV, sidxV, abin, cmpInt, params, growLists, fillCells, newAt, rdPtr, wrPtr, AV.cells, asVal, lenOf, boundOf, rowsOf, argIds, freshIn, scalar1, setAll, AV.isData, AV.isYld, Nat.reduceAdd, Nat.reduceMul, Nat.reduceSub, Nat.reduceEqDiff, Nat.reduceLeDiff, Nat.reduceLT, Int.reduceNeg, ↓reduceIte, reduceCtorEq, Int.reduceEq, Int.reduceLT, Int.reduceLE, Int.reduceBEq, Int.reduceBNe, Int.reduceToNat, IntKind.bits, Int.reduceAdd, Int.reduceSub, Int.reduceMul, Int.reduceTDiv, Int.reduceTMod, R7B, uv_len, uv_data, uv_p, uv_0, uv_1, uv_2, uv_3, uv_oo, uv_snap, w_0, w_1, w_2, urows_len, show ¬ (k : Int) < (l.length : Int) by omega]
      rw [if_pos (UFrom.done (by omega))]
end Go.Proofs.Ytabadcnpmfafnaa.F

/- Where a peer stands in a watch. No condition. -/
set_option linter.unusedSimpArgs false
namespace Go.Proofs.Ytabadcnpmfafnaa.D
open Go Go.Proofs.Ytabadcnpmfafnaa.A
theorem LPB : ((((type_of% (@refs_int) ∧ (type_of% (@refs_bool) ∧ type_of% (@refs_str))) ∧ ((type_of% (@refs_ro) ∧ type_of% (@refs_clip)) ∧ (type_of% (@refs_nilf) ∧ type_of% (@refs_nilp)))) ∧ ((type_of% (@refs_rp) ∧ (type_of% (@refs_yld) ∧ type_of% (@refs_refs))) ∧ ((type_of% (@refs_rq) ∧ type_of% (@belowR_nil)) ∧ (type_of% (@belowR_cons) ∧ type_of% (@refs_ptr))))) ∧ (((type_of% (@refs_lis) ∧ (type_of% (@refs_clo) ∧ type_of% (@refs_agg))) ∧ ((type_of% (@refs_tup) ∧ type_of% (@below_nil)) ∧ (type_of% (@below_cons) ∧ type_of% (@bref_dead)))) ∧ (((type_of% (@bref_box) ∧ type_of% (@bref_lst)) ∧ (type_of% (@ball_nil) ∧ type_of% (@ball_cons))) ∧ ((type_of% (@uv_below) ∧ type_of% (@uv_below)) ∧ (type_of% (@uv_below) ∧ type_of% (@uv_below)))))) := ⟨⟨⟨⟨@refs_int, ⟨@refs_bool, @refs_str⟩⟩, ⟨⟨@refs_ro, @refs_clip⟩, ⟨@refs_nilf, @refs_nilp⟩⟩⟩, ⟨⟨@refs_rp, ⟨@refs_yld, @refs_refs⟩⟩, ⟨⟨@refs_rq, @belowR_nil⟩, ⟨@belowR_cons, @refs_ptr⟩⟩⟩⟩, ⟨⟨⟨@refs_lis, ⟨@refs_clo, @refs_agg⟩⟩, ⟨⟨@refs_tup, @below_nil⟩, ⟨@below_cons, @bref_dead⟩⟩⟩, ⟨⟨⟨@bref_box, @bref_lst⟩, ⟨@ball_nil, @ball_cons⟩⟩, ⟨⟨@uv_below, @uv_below⟩, ⟨@uv_below, @uv_below⟩⟩⟩⟩⟩
def cmpZ (a b : Int) : Int := if a < b then -1 else if b < a then 1 else 0
def RiseU (l : List Pu) : Prop := ∀ i j, i < j → j < l.length → (urow l i).num < (urow l j).num
theorem UFrom.rise {now : Int} {l : List Pu} (h : UFrom now l 0) : RiseU l := by
  intro i j hij hj
  induction j with
  | zero => omega
  | succ j ih =>
    have h1 := (h (j + 1) (Nat.zero_le _) hj).2 (by omega)
    rw [Nat.add_sub_cancel] at h1
    by_cases e : i = j
    · subst e; exact h1
    · have := ih (by omega) (by omega); omega
end Go.Proofs.Ytabadcnpmfafnaa.D
namespace Go.Proofs.Ytabadcnpmfafnaa.F
open Go Go.Proofs.Ytabadcnpmfafnaa.A Go.Proofs.Ytabadcnpmfafnaa.D
theorem e54 (a : Int) : LV E 54 [.int .i64 a] = some (.bool false) := by
  rw [LV_R (fn := f54) rfl rfl rfl]
  simp only [f54, RB, pickV, eqbV, notV, negV, convV, faddrV, fldV, idxV, eqaggV, iaddrV, isnilV, nilckV, cloV, extrV, slenV, minV, sidxV, abin, cmpInt, params, growLists, fillCells, newAt, rdPtr, wrPtr, AV.cells, asVal, lenOf, boundOf, rowsOf, argIds, freshIn, scalar1, setAll, AV.isData, AV.isYld, Nat.reduceAdd, Nat.reduceMul, Nat.reduceSub, Nat.reduceEqDiff, Nat.reduceLeDiff, Nat.reduceLT, Int.reduceNeg, ↓reduceIte, reduceCtorEq, Int.reduceEq, Int.reduceLT, Int.reduceLE, Int.reduceBEq, Int.reduceBNe, Int.reduceToNat, IntKind.bits, Int.reduceAdd, Int.reduceSub, Int.reduceMul, Int.reduceTDiv, Int.reduceTMod, bne_self_eq_false]
theorem e52 (a b : Int) : LV E 52 [.int .i64 a, .int .i64 b] = some (.int .i64 (cmpZ a b)) := by
  rw [LV_R (fn := f52) rfl rfl rfl]
  unfold cmpZ
  by_cases h1 : a < b
  · simp only [f52, RB, pickV, eqbV, notV, negV, convV, faddrV, fldV, idxV, eqaggV, iaddrV, isnilV, nilckV, cloV, extrV, slenV, minV, sidxV, abin, cmpInt, params, growLists, fillCells, newAt, rdPtr, wrPtr, AV.cells, asVal, lenOf, boundOf, rowsOf, argIds, freshIn, scalar1, setAll, AV.isData, AV.isYld, Nat.reduceAdd, Nat.reduceMul, Nat.reduceSub, Nat.reduceEqDiff, Nat.reduceLeDiff, Nat.reduceLT, Int.reduceNeg, ↓reduceIte, reduceCtorEq, Int.reduceEq, Int.reduceLT, Int.reduceLE, Int.reduceBEq, Int.reduceBNe, Int.reduceToNat, IntKind.bits, Int.reduceAdd, Int.reduceSub, Int.reduceMul, Int.reduceTDiv, Int.reduceTMod, R7B, e54, h1]
  · by_cases h2 : b < a
    · simp only [f52, RB, pickV, eqbV, notV, negV, convV, faddrV, fldV, idxV, eqaggV, iaddrV, isnilV, nilckV, cloV, extrV, slenV, minV, sidxV, abin, cmpInt, params, growLists, fillCells, newAt, rdPtr, wrPtr, AV.cells, asVal, lenOf, boundOf, rowsOf, argIds, freshIn, scalar1, setAll, AV.isData, AV.isYld, Nat.reduceAdd, Nat.reduceMul, Nat.reduceSub, Nat.reduceEqDiff, Nat.reduceLeDiff, Nat.reduceLT, Int.reduceNeg, ↓reduceIte, reduceCtorEq, Int.reduceEq, Int.reduceLT, Int.reduceLE, Int.reduceBEq, Int.reduceBNe, Int.reduceToNat, IntKind.bits, Int.reduceAdd, Int.reduceSub, Int.reduceMul, Int.reduceTDiv, Int.reduceTMod, R7B, e54, h1, h2]
    · simp only [f52, RB, pickV, eqbV, notV, negV, convV, faddrV, fldV, idxV, eqaggV, iaddrV, isnilV, nilckV, cloV, extrV, slenV, minV, sidxV, abin, cmpInt, params, growLists, fillCells, newAt, rdPtr, wrPtr, AV.cells, asVal, lenOf, boundOf, rowsOf, argIds, freshIn, scalar1, setAll, AV.isData, AV.isYld, Nat.reduceAdd, Nat.reduceMul, Nat.reduceSub, Nat.reduceEqDiff, Nat.reduceLeDiff, Nat.reduceLT, Int.reduceNeg, ↓reduceIte, reduceCtorEq, Int.reduceEq, Int.reduceLT, Int.reduceLE, Int.reduceBEq, Int.reduceBNe, Int.reduceToNat, IntKind.bits, Int.reduceAdd, Int.reduceSub, Int.reduceMul, Int.reduceTDiv, Int.reduceTMod, R7B, e54, h1, h2]
theorem r47 {ys : List Hd} {pend : List (Option AExit)} (bs : List Blk) (r : Pu) : LR E ys 47 [.agg (uv r)] ⟨bs, pend⟩ = some (.int .i64 r.num, ⟨bs ++ [.box 0 40 (uv r)], pend⟩) := by
  rw [LR_R (fn := f47) rfl rfl rfl]
  simp only [f47, RB, pickV, eqbV, notV, negV, convV, faddrV, fldV, idxV, eqaggV, iaddrV, isnilV, nilckV, cloV, extrV, slenV, minV, sidxV, abin, cmpInt, params, growLists, fillCells, newAt, rdPtr, wrPtr, AV.cells, asVal, lenOf, boundOf, rowsOf, argIds, freshIn, scalar1, setAll, AV.isData, AV.isYld, Nat.reduceAdd, Nat.reduceMul, Nat.reduceSub, Nat.reduceEqDiff, Nat.reduceLeDiff, Nat.reduceLT, Int.reduceNeg, ↓reduceIte, reduceCtorEq, Int.reduceEq, Int.reduceLT, Int.reduceLE, Int.reduceBEq, Int.reduceBNe, Int.reduceToNat, IntKind.bits, Int.reduceAdd, Int.reduceSub, Int.reduceMul, Int.reduceTDiv, Int.reduceTMod, R7B, take_add, List.append_assoc, List.length_append, Nat.add_assoc, shrink_lit, ball_app, RG, LPB, uv_len, uv_data, uv_p, uv_0, uv_1, uv_2, uv_3, uv_oo, uv_snap, w_0, w_1, w_2, urows_len]
theorem r51 {ys : List Hd} {pend : List (Option AExit)} {bs : List Blk} {a lk e : Nat} (r : Pu) (n : Int) (ha : bs[a]? = some (.box lk e [.clo 47 []])) (hlow : belowAll bs.length bs = true) : LR E ys 51 [.agg (uv r), .int .i64 n, .ptr a 0 0 0] ⟨bs, pend⟩ = some (.int .i64 (cmpZ r.num n), ⟨bs ++ [.box 0 40 (uv r)], pend⟩) := by
  have hA : ∀ r, (bs ++ r)[a]? = some (.box lk e [.clo 47 []]) := fun r => get_lt ha
  have h47 := r47 (ys := ys) (pend := pend) (bs ++ [.box 0 40 (uv r)]) r
  have hbb : belowAll (bs.length + 1) (bs ++ [.box 0 40 (uv r)]) = true := by rw [ball_app, belowAll_mono (by omega) hlow]; rfl
  have hsh : shrink false (bs.length + 1) (.int .i64 r.num) ⟨(bs ++ [.box 0 40 (uv r)]) ++ [.box 0 40 (uv r)], pend⟩ = some ⟨bs ++ [.box 0 40 (uv r)], pend⟩ := shrink_app (by simp) rfl hbb
  have hb1 : belowAll (bs.length + 1) bs = true := belowAll_mono (by omega) hlow
  simp only [List.append_assoc] at h47 hsh
  rw [LR_R (fn := f51) rfl rfl rfl]
  simp only [f51, RB, pickV, eqbV, notV, negV, convV, faddrV, fldV, idxV, eqaggV, iaddrV, isnilV, nilckV, cloV, extrV, slenV, minV, sidxV, abin, cmpInt, params, growLists, fillCells, newAt, rdPtr, wrPtr, AV.cells, asVal, lenOf, boundOf, rowsOf, argIds, freshIn, scalar1, setAll, AV.isData, AV.isYld, Nat.reduceAdd, Nat.reduceMul, Nat.reduceSub, Nat.reduceEqDiff, Nat.reduceLeDiff, Nat.reduceLT, Int.reduceNeg, ↓reduceIte, reduceCtorEq, Int.reduceEq, Int.reduceLT, Int.reduceLE, Int.reduceBEq, Int.reduceBNe, Int.reduceToNat, IntKind.bits, Int.reduceAdd, Int.reduceSub, Int.reduceMul, Int.reduceTDiv, Int.reduceTMod, R7B, take_add, List.append_assoc, List.length_append, Nat.add_assoc, shrink_lit, ball_app, RG, LPB, uv_len, uv_data, uv_p, uv_0, uv_1, uv_2, uv_3, uv_oo, uv_snap, w_0, w_1, w_2, urows_len, hA, h47, hsh, hb1, e52]
end Go.Proofs.Ytabadcnpmfafnaa.F

/- Where a peer stands in a watch: the search. No condition. -/
set_option linter.unusedSimpArgs false
namespace Go.Proofs.Ytabadcnpmfafnaa.D
open Go Go.Proofs.Ytabadcnpmfafnaa.A
def LoU (l : List Pu) (n : Int) (i : Nat) : Prop := ∀ j, j < i → (urow l j).num < n
def HiU (l : List Pu) (n : Int) (i : Nat) : Prop := ∀ j, i ≤ j → j < l.length → n ≤ (urow l j).num
end Go.Proofs.Ytabadcnpmfafnaa.D
namespace Go.Proofs.Ytabadcnpmfafnaa.F
open Go Go.Proofs.Ytabadcnpmfafnaa.A Go.Proofs.Ytabadcnpmfafnaa.D
theorem r50 {ys : List Hd} {bs : List Blk} {pend : List (Option AExit)} {v : AV} {l : List Pu} (n : Int) (hn : l.length ≤ 1000000) (hv : SlV bs 4 v (urows l)) (hr : RiseU l) (hlow : belowAll bs.length bs = true) {a lk be : Nat} (ha : bs[a]? = some (.box lk be [.clo 47 []])) :
    ∃ i, i ≤ l.length ∧ LoU l n i ∧ HiU l n i ∧ LR E ys 50 [v, .int .i64 n, .clo 51 [.ptr a 0 0 0]] ⟨bs, pend⟩ = some (.tup [.int .i64 (i : Nat), .bool (decide (i < l.length ∧ (urow l i).num = n))], ⟨bs, pend⟩) := by
  have huf := hv.uf
  have hlen := hv.len
  rw [urows_len] at hlen
  have hlo1 : v.refsLt bs.length = true := hv.low
  have hal : a < bs.length := (List.getElem?_eq_some_iff.1 ha).1
  have hget : ∀ k, k < l.length → ∃ q, iaddrV bs 4 none v (.int .i64 (k : Int)) = some q ∧ rdPtr bs q 4 = some (uv (urow l k)) := fun k hk => by
    obtain ⟨q, h1, h2⟩ := hv.get [] k (by rw [urows_len]; exact hk)
    have h3 := h2 []
    rw [List.append_nil] at h1 h3
    exact ⟨q, h1, by rw [h3, urows_get l hk]⟩
  have hcmp : ∀ k, LR E ys 51 [.agg (uv (urow l k)), .int .i64 n, .ptr a 0 0 0] ⟨bs, pend⟩ = some (.int .i64 (cmpZ (urow l k).num n), ⟨bs ++ [.box 0 40 (uv (urow l k))], pend⟩) := fun k => r51 _ n ha hlow
  have hsh : ∀ k, shrink false bs.length (.int .i64 (cmpZ (urow l k).num n)) ⟨bs ++ [.box 0 40 (uv (urow l k))], pend⟩ = some ⟨bs, pend⟩ := fun k => shrink_app rfl rfl hlow
  have hz1 : ∀ x : Int, cmpZ x n < 0 ↔ x < n := fun x => by unfold cmpZ; split <;> (try split) <;> omega
  have hz2 : ∀ x : Int, (cmpZ x n == 0) = decide (x = n) := fun x => by
    rw [Bool.eq_iff_iff, beq_iff_eq, decide_eq_true_eq]; unfold cmpZ; split <;> (try split) <;> omega
  rw [LR_R (fn := f50) rfl rfl rfl]
  simp only [f50, RB, pickV, eqbV, notV, negV, convV, faddrV, fldV, idxV, eqaggV, isnilV, nilckV, cloV, extrV, slenV, minV, sidxV, abin, cmpInt, params, growLists, fillCells, newAt, AV.cells, asVal, boundOf, argIds, freshIn, scalar1, setAll, AV.isData, AV.isYld, Nat.reduceAdd, Nat.reduceMul, Nat.reduceSub, Nat.reduceEqDiff, Nat.reduceLeDiff, Nat.reduceLT, Int.reduceNeg, ↓reduceIte, reduceCtorEq, Int.reduceEq, Int.reduceLT, Int.reduceLE, Int.reduceBEq, Int.reduceBNe, Int.reduceToNat, IntKind.bits, Int.reduceAdd, Int.reduceSub, Int.reduceMul, Int.reduceTDiv, Int.reduceTMod, R7B, take_add, List.append_assoc, List.length_append, Nat.add_assoc, shrink_lit, ball_app, RG, LPB, huf, hlen]
  refine W_recP2 (ι := {s : Nat × Nat // s.1 ≤ s.2 ∧ s.2 ≤ l.length ∧ LoU l n s.1 ∧ HiU l n s.2}) (M := fun s => [(0, v), (1, .int .i64 n), (2, .clo 51 [.ptr a 0 0 0]), (8, .int .i64 (l.length : Int)), (9, .int .i64 (s.1.1 : Int)), (10, .int .i64 (s.1.2 : Int))])
    (H := fun _ => ⟨bs, pend⟩)
    (Q := fun _ x => ∃ i, i ≤ l.length ∧ LoU l n i ∧ HiU l n i ∧ x = some ((AV.tup [.int .i64 (i : Nat), .bool (decide (i < l.length ∧ (urow l i).num = n))], ⟨bs, pend⟩) : AV × Hp)) (μ := fun s => s.1.2 - s.1.1) (fun s => ?_) (fun s ih => ?_) ⟨(0, l.length), Nat.zero_le _, Nat.le_refl _, fun j h => by omega, fun j h1 h2 => by omega⟩ rfl rfl
  · refine ⟨?_, hlow⟩
    simp only [List.map_cons, List.map_nil, LPB, hlo1, Bool.and_self]
    simp [hal]
  · obtain ⟨⟨lo, hi⟩, h1, h2, h3, h4⟩ := s
    simp only at h1 h2 h3 h4 ih ⊢
    by_cases hk : lo < hi
    · have f1 : (lo : Int) < (hi : Int) := by omega
      have w1 : IntKind.i64.wrap ((lo : Int) + (hi : Int)) = ((lo + hi : Nat) : Int) := by rw [IntWalk.i64_in _ (by omega)]; omega
      have w2 : IntKind.u64.wrap ((lo + hi : Nat) : Int) = ((lo + hi : Nat) : Int) := IntWalk.u64_in _ (by omega)
      have w3 : ((lo + hi : Nat) : Int).fdiv (2 ^ (Nat.min 1 64)) = (((lo + hi) / 2 : Nat) : Int) := by
        rw [show Nat.min 1 64 = 1 from rfl, Int.fdiv_eq_ediv_of_nonneg _ (by decide)]; omega
      have w4 : IntKind.i64.wrap (((lo + hi) / 2 : Nat) : Int) = (((lo + hi) / 2 : Nat) : Int) := IntWalk.i64_in _ (by omega)
      have w5 : IntKind.i64.wrap ((((lo + hi) / 2 : Nat) : Int) + 1) = (((lo + hi) / 2 + 1 : Nat) : Int) := by rw [IntWalk.i64_in _ (by omega)]; omega
      have hm1 : lo ≤ (lo + hi) / 2 := by omega
      have hm2 : (lo + hi) / 2 < hi := by omega
      generalize (lo + hi) / 2 = m at *
      obtain ⟨q, g1, g2⟩ := hget m (by omega)
      by_cases hc : cmpZ (urow l m).num n < 0
      · simp only [RB, pickV, eqbV, notV, negV, convV, faddrV, fldV, idxV, eqaggV, isnilV, nilckV, cloV, extrV, slenV, minV, sidxV, abin, cmpInt, params, growLists, fillCells, newAt, AV.cells, asVal, boundOf, argIds, freshIn, scalar1, setAll, AV.isData, AV.isYld, Nat.reduceAdd, Nat.reduceMul, Nat.reduceSub, Nat.reduceEqDiff, Nat.reduceLeDiff, Nat.reduceLT, Int.reduceNeg, ↓reduceIte, reduceCtorEq, Int.reduceEq, Int.reduceLT, Int.reduceLE, Int.reduceBEq, Int.reduceBNe, Int.reduceToNat, IntKind.bits, Int.reduceAdd, Int.reduceSub, Int.reduceMul, Int.reduceTDiv, Int.reduceTMod, R7B, take_add, List.append_assoc, List.length_append, Nat.add_assoc, shrink_lit, ball_app, RG, LPB, f1, w1, w2, w3, w4, w5, huf, g1, g2, hlow, hcmp, hsh, hc, List.take_length]
        exact ih ⟨(m + 1, hi), by omega, h2, fun j hj => by
          have := (hz1 _).1 hc
          rcases Nat.lt_or_eq_of_le (show j ≤ m by omega) with h | rfl
          · have := hr j m h (by omega); omega
          · exact this, h4⟩ (by simp only; omega)
      · simp only [RB, pickV, eqbV, notV, negV, convV, faddrV, fldV, idxV, eqaggV, isnilV, nilckV, cloV, extrV, slenV, minV, sidxV, abin, cmpInt, params, growLists, fillCells, newAt, AV.cells, asVal, boundOf, argIds, freshIn, scalar1, setAll, AV.isData, AV.isYld, Nat.reduceAdd, Nat.reduceMul, Nat.reduceSub, Nat.reduceEqDiff, Nat.reduceLeDiff, Nat.reduceLT, Int.reduceNeg, ↓reduceIte, reduceCtorEq, Int.reduceEq, Int.reduceLT, Int.reduceLE, Int.reduceBEq, Int.reduceBNe, Int.reduceToNat, IntKind.bits, Int.reduceAdd, Int.reduceSub, Int.reduceMul, Int.reduceTDiv, Int.reduceTMod, R7B, take_add, List.append_assoc, List.length_append, Nat.add_assoc, shrink_lit, ball_app, RG, LPB, f1, w1, w2, w3, w4, w5, huf, g1, g2, hlow, hcmp, hsh, hc, List.take_length]
        exact ih ⟨(lo, m), by omega, by omega, h3, fun j hj hj2 => by
          have : ¬ (urow l m).num < n := fun h => hc ((hz1 _).2 h)
          rcases Nat.lt_or_eq_of_le (show m ≤ j by omega) with h | rfl
          · have := hr m j h hj2; omega
          · omega⟩ (by simp only; omega)
    · have e : lo = hi := by omega
      subst e
      simp only [RB, pickV, eqbV, notV, negV, convV, faddrV, fldV, idxV, eqaggV, isnilV, nilckV, cloV, extrV, slenV, minV, sidxV, abin, cmpInt, params, growLists, fillCells, newAt, AV.cells, asVal, boundOf, argIds, freshIn, scalar1, setAll, AV.isData, AV.isYld, Nat.reduceAdd, Nat.reduceMul, Nat.reduceSub, Nat.reduceEqDiff, Nat.reduceLeDiff, Nat.reduceLT, Int.reduceNeg, ↓reduceIte, reduceCtorEq, Int.reduceEq, Int.reduceLT, Int.reduceLE, Int.reduceBEq, Int.reduceBNe, Int.reduceToNat, IntKind.bits, Int.reduceAdd, Int.reduceSub, Int.reduceMul, Int.reduceTDiv, Int.reduceTMod, R7B, take_add, List.append_assoc, List.length_append, Nat.add_assoc, shrink_lit, ball_app, RG, LPB, hk, show ¬ (lo : Int) < (lo : Int) by omega]
      refine ⟨lo, h2, h3, h4, ?_⟩
      by_cases hl : lo < l.length
      · have f1 : (lo : Int) < (l.length : Int) := by omega
        obtain ⟨q, g1, g2⟩ := hget lo hl
        simp only [RB, pickV, eqbV, notV, negV, convV, faddrV, fldV, idxV, eqaggV, isnilV, nilckV, cloV, extrV, slenV, minV, sidxV, abin, cmpInt, params, growLists, fillCells, newAt, AV.cells, asVal, boundOf, argIds, freshIn, scalar1, setAll, AV.isData, AV.isYld, Nat.reduceAdd, Nat.reduceMul, Nat.reduceSub, Nat.reduceEqDiff, Nat.reduceLeDiff, Nat.reduceLT, Int.reduceNeg, ↓reduceIte, reduceCtorEq, Int.reduceEq, Int.reduceLT, Int.reduceLE, Int.reduceBEq, Int.reduceBNe, Int.reduceToNat, IntKind.bits, Int.reduceAdd, Int.reduceSub, Int.reduceMul, Int.reduceTDiv, Int.reduceTMod, R7B, take_add, List.append_assoc, List.length_append, Nat.add_assoc, shrink_lit, ball_app, RG, LPB, f1, huf, g1, g2, hlow, hcmp, hsh, hz2, hl]
      · simp only [RB, pickV, eqbV, notV, negV, convV, faddrV, fldV, idxV, eqaggV, isnilV, nilckV, cloV, extrV, slenV, minV, sidxV, abin, cmpInt, params, growLists, fillCells, newAt, AV.cells, asVal, boundOf, argIds, freshIn, scalar1, setAll, AV.isData, AV.isYld, Nat.reduceAdd, Nat.reduceMul, Nat.reduceSub, Nat.reduceEqDiff, Nat.reduceLeDiff, Nat.reduceLT, Int.reduceNeg, ↓reduceIte, reduceCtorEq, Int.reduceEq, Int.reduceLT, Int.reduceLE, Int.reduceBEq, Int.reduceBNe, Int.reduceToNat, IntKind.bits, Int.reduceAdd, Int.reduceSub, Int.reduceMul, Int.reduceTDiv, Int.reduceTMod, R7B, take_add, List.append_assoc, List.length_append, Nat.add_assoc, shrink_lit, ball_app, RG, LPB, show ¬ (lo : Int) < (l.length : Int) by omega, hl]
end Go.Proofs.Ytabadcnpmfafnaa.F

/- Where a peer stands in a watch: beat.place. No condition. -/
set_option linter.unusedSimpArgs false
namespace Go.Proofs.Ytabadcnpmfafnaa.F
open Go Go.Proofs.Ytabadcnpmfafnaa.A Go.Proofs.Ytabadcnpmfafnaa.D
theorem urows_all (l : List Pu) : ∀ r ∈ urows l, r.length = 4 := fun r hr => by
  obtain ⟨x, _, rfl⟩ := List.mem_map.1 hr
  rfl
theorem r46 {ys : List Hd} {bs : List Blk} {pend : List (Option AExit)} {l : List Pu} (n : Int) (hn : l.length ≤ 1000000) (hr : RiseU l) (hlow : belowAll bs.length bs = true) :
    ∃ i, i ≤ l.length ∧ LoU l n i ∧ HiU l n i ∧ LR E ys 46 [.ro (urows l), .int .i64 n, .clo 47 []] ⟨bs, pend⟩ = some (.tup [.int .i64 (i : Nat), .bool (decide (i < l.length ∧ (urow l i).num = n))], ⟨bs ++ [.box 0 77 [.clo 47 []]], pend⟩) := by
  have hlow' : belowAll (bs ++ [Blk.box 0 77 [.clo 47 []]]).length (bs ++ [.box 0 77 [.clo 47 []]]) = true := by rw [ball_app, belowAll_mono (by simp) hlow]; simp [LPB]
  obtain ⟨i, k1, k2, k3, k4⟩ := r50 (ys := ys) (pend := pend) (bs := bs ++ [.box 0 77 [.clo 47 []]]) (v := .ro (urows l)) (l := l) n hn (SlV.ro (urows_all l)) hr hlow' (a := bs.length) (lk := 0) (be := 77) (by simp)
  have hsh : shrink false (bs ++ [Blk.box 0 77 [.clo 47 []]]).length (.tup [.int .i64 (i : Nat), .bool (decide (i < l.length ∧ (urow l i).num = n))]) ⟨bs ++ [.box 0 77 [.clo 47 []]], pend⟩ = some ⟨bs ++ [.box 0 77 [.clo 47 []]], pend⟩ := shrink_id rfl rfl hlow'
  refine ⟨i, k1, k2, k3, ?_⟩
  simp only [List.length_append, List.length_cons, List.length_nil, Nat.zero_add] at hsh
  have hb1 : belowAll (bs.length + 1) bs = true := belowAll_mono (by omega) hlow
  rw [LR_R (fn := f46) rfl rfl rfl]
  simp only [f46, RB, pickV, eqbV, notV, negV, convV, faddrV, fldV, idxV, eqaggV, iaddrV, isnilV, nilckV, cloV, extrV, slenV, minV, sidxV, abin, cmpInt, params, growLists, fillCells, newAt, rdPtr, wrPtr, AV.cells, asVal, lenOf, boundOf, rowsOf, argIds, freshIn, scalar1, setAll, AV.isData, AV.isYld, Nat.reduceAdd, Nat.reduceMul, Nat.reduceSub, Nat.reduceEqDiff, Nat.reduceLeDiff, Nat.reduceLT, Int.reduceNeg, ↓reduceIte, reduceCtorEq, Int.reduceEq, Int.reduceLT, Int.reduceLE, Int.reduceBEq, Int.reduceBNe, Int.reduceToNat, IntKind.bits, Int.reduceAdd, Int.reduceSub, Int.reduceMul, Int.reduceTDiv, Int.reduceTMod, R7B, take_add, List.append_assoc, List.length_append, Nat.add_assoc, shrink_lit, ball_app, RG, LPB, k4, hsh, hb1]
theorem e37 (now : Int) (l : List Pu) (n : Int) (hn : l.length ≤ 1000000) (hr : RiseU l) : ∃ i, i ≤ l.length ∧ LoU l n i ∧ HiU l n i ∧ LV E 37 [.agg [.int .i64 now, .ro (urows l)], .int .i64 n] = some (.tup [.int .i64 (i : Nat), .bool (decide (i < l.length ∧ (urow l i).num = n))]) := by
  obtain ⟨i, k1, k2, k3, k4⟩ := r46 (ys := []) (pend := []) (bs := [.box 0 24 [.int .i64 now, .ro (urows l)]]) (l := l) n hn hr (by simp [LPB])
  refine ⟨i, k1, k2, k3, ?_⟩
  simp only [List.cons_append, List.nil_append] at k4
  rw [LV_R (fn := f37) rfl rfl rfl]
  simp only [f37, RB, pickV, eqbV, notV, negV, convV, faddrV, fldV, idxV, eqaggV, iaddrV, isnilV, nilckV, cloV, extrV, slenV, minV, sidxV, abin, cmpInt, params, growLists, fillCells, newAt, rdPtr, wrPtr, AV.cells, asVal, lenOf, boundOf, rowsOf, argIds, freshIn, scalar1, setAll, AV.isData, AV.isYld, Nat.reduceAdd, Nat.reduceMul, Nat.reduceSub, Nat.reduceEqDiff, Nat.reduceLeDiff, Nat.reduceLT, Int.reduceNeg, ↓reduceIte, reduceCtorEq, Int.reduceEq, Int.reduceLT, Int.reduceLE, Int.reduceBEq, Int.reduceBNe, Int.reduceToNat, IntKind.bits, Int.reduceAdd, Int.reduceSub, Int.reduceMul, Int.reduceTDiv, Int.reduceTMod, R7B, take_add, List.append_assoc, List.length_append, Nat.add_assoc, shrink_lit, ball_app, RG, LPB, w_0, w_1, w_2, k4]
end Go.Proofs.Ytabadcnpmfafnaa.F

/- A peer is added: the closure of beat.Add. No condition. -/
set_option linter.unusedSimpArgs false
namespace Go.Proofs.Ytabadcnpmfafnaa.D
open Go Go.Proofs.Ytabadcnpmfafnaa.A
theorem LR_prim {E : Env} {ys : List Hd} {hp : Hp} {f : FuncId} {args : List AV} {p : List AV → List Blk → Option (AV × List Blk)} (h1 : E.prim f = some p) (ha : args.any AV.isYld = false) : LR E ys f args hp = (p args hp.bs).map fun r => (r.1, { hp with bs := r.2 }) := by
  rw [LR_eq, h1]; simp [ha]
theorem urows_ins (l : List Pu) (i : Nat) (r : Pu) : (urows l).take i ++ [uv r] ++ (urows l).drop i = urows (l.take i ++ [r] ++ l.drop i) := by
  unfold urows; simp [List.map_take, List.map_drop]
theorem snap_wat (bs : List Blk) (t : Int) (a b c d : Nat) : snap bs (.agg [.int .i64 t, .lis a b c d]) = (rowsOf bs (.lis a b c d)).map fun x => .agg [.int .i64 t, .ro x] := by
  have e : snap bs (.agg [.int .i64 t, .lis a b c d]) = ([AV.int .i64 t, AV.lis a b c d].mapM (snapCell bs)).map AV.agg := rfl
  have e1 : snapCell bs (.int .i64 t) = some (.int .i64 t) := rfl
  have e2 : snapCell bs (.lis a b c d) = (rowsOf bs (.lis a b c d)).map AV.ro := rfl
  rw [e, List.mapM_cons, List.mapM_cons, List.mapM_nil, e1, e2]
  cases rowsOf bs (.lis a b c d) <;> rfl
end Go.Proofs.Ytabadcnpmfafnaa.D
namespace Go.Proofs.Ytabadcnpmfafnaa.F
open Go Go.Proofs.Ytabadcnpmfafnaa.A Go.Proofs.Ytabadcnpmfafnaa.D
theorem r38 {ys : List Hd} {bs : List Blk} {pend : List (Option AExit)} {id g id2 g2 lk2 : Nat} {l : List Pu} {n i : Nat} (r : Pu) (hb : bs[id]? = some (.lst 0 g 40 4 (urows l))) (hb2 : bs[id2]? = some (.lst lk2 g2 40 4 [uv r])) (hn : l.length = n) (hi : i ≤ n) (hne : id ≠ id2) (hl : n ≤ 1000000) :
    LR E ys 38 [.lis id g 0 n, .int .i64 (i : Nat), .lis id2 g2 0 1] ⟨bs, pend⟩ = some (.lis id (g + 1) 0 (n + 1), ⟨bs.set id (.lst 0 (g + 1) 40 4 (urows (l.take i ++ [r] ++ l.drop i))), pend⟩) := by
  rw [LR_prim (p := pInsert 40 4 32) rfl rfl]
  subst hn
  unfold pInsert
  simp only [hb, hb2, urows_len, true_and, and_true, and_self, List.length_singleton, hne, ne_eq, not_false_eq_true, show (0 : Int) ≤ (i : Nat) by omega, show ((i : Nat) : Int) ≤ (l.length : Nat) by omega, show (l.length + 1) * 32 ≤ 140737488355328 by omega, show l.length + 1 ≤ 4611686018427387904 by omega, if_true, Int.toNat_natCast, urows_ins, Option.map_some]
end Go.Proofs.Ytabadcnpmfafnaa.F

/- A peer is added: the closure of beat.Add, its errors. No condition. -/
set_option linter.unusedSimpArgs false
namespace Go.Proofs.Ytabadcnpmfafnaa.F
open Go Go.Proofs.Ytabadcnpmfafnaa.A Go.Proofs.Ytabadcnpmfafnaa.D
theorem r36_arg {ys : List Hd} {bs : List Blk} {pend : List (Option AExit)} {a b L g lk : Nat} {eb : TypeId} (now n : Int) (l : List Pu) (hn : l.length ≤ 1000000) (hr : RiseU l) (ha : bs[a]? = some (.box 0 24 [.int .i64 now, .lis L g 0 l.length])) (hL : bs[L]? = some (.lst 0 g 40 4 (urows l))) (hb : bs[b]? = some (.box lk eb [.int .i64 n])) (h : n < 1 ∨ 8 < n) :
    LR E ys 36 [.ptr a 0 0 0, .ptr b 0 0 0] ⟨bs, pend⟩ = some (.int .i64 2, ⟨bs, pend⟩) := by
  have hA : ∀ r, (bs ++ r)[a]? = some (.box 0 24 [.int .i64 now, .lis L g 0 l.length]) := fun r => get_lt ha
  have hL' : ∀ r, (bs ++ r)[L]? = some (.lst 0 g 40 4 (urows l)) := fun r => get_lt hL
  have hB : ∀ r, (bs ++ r)[b]? = some (.box lk eb [.int .i64 n]) := fun r => get_lt hb
  have ia := (List.getElem?_eq_some_iff.1 ha).1
  have iL := (List.getElem?_eq_some_iff.1 hL).1
  have hT : (urows l).take l.length = urows l := List.take_of_length_le (by rw [urows_len]; exact Nat.le_refl _)
  obtain ⟨i, k1, k2, k3, h37⟩ := e37 now l n hn hr
  rw [LR_R (fn := f36) rfl rfl rfl]
  by_cases c1 : n < 1
  · simp only [f36, ← uv_zer, RB, pickV, eqbV, notV, negV, convV, faddrV, fldV, idxV, eqaggV, iaddrV, isnilV, nilckV, cloV, extrV, slenV, minV, sidxV, abin, cmpInt, params, growLists, fillCells, newAt, rdPtr, wrPtr, AV.cells, asVal, lenOf, boundOf, rowsOf, argIds, freshIn, scalar1, setAll, AV.isData, AV.isYld, Nat.reduceAdd, Nat.reduceMul, Nat.reduceSub, Nat.reduceEqDiff, Nat.reduceLeDiff, Nat.reduceLT, Int.reduceNeg, ↓reduceIte, reduceCtorEq, Int.reduceEq, Int.reduceLT, Int.reduceLE, Int.reduceBEq, Int.reduceBNe, Int.reduceToNat, IntKind.bits, Int.reduceAdd, Int.reduceSub, Int.reduceMul, Int.reduceTDiv, Int.reduceTMod, R7B, take_add, List.append_assoc, List.length_append, Nat.add_assoc, shrink_lit, ball_app, RG, LPB, uv_len, w_0, w_1, w_2, ha, hL, hb, snap_wat, urows_len, hT, h37, c1, List.append_nil, CW_some, scalar, scalar1, lockAll, lockAt, reduceCtorEq, extrV, List.all_cons, List.all_nil, pairOk, AV.ids, List.contains_cons, List.contains_nil, Nat.reduceBEq, List.all_cons, List.all_nil, Bool.or_self, Bool.not_false, Bool.and_self, Bool.or_false, mutIds]
  · have c2 : 8 < n := by omega
    simp only [f36, ← uv_zer, RB, pickV, eqbV, notV, negV, convV, faddrV, fldV, idxV, eqaggV, iaddrV, isnilV, nilckV, cloV, extrV, slenV, minV, sidxV, abin, cmpInt, params, growLists, fillCells, newAt, rdPtr, wrPtr, AV.cells, asVal, lenOf, boundOf, rowsOf, argIds, freshIn, scalar1, setAll, AV.isData, AV.isYld, Nat.reduceAdd, Nat.reduceMul, Nat.reduceSub, Nat.reduceEqDiff, Nat.reduceLeDiff, Nat.reduceLT, Int.reduceNeg, ↓reduceIte, reduceCtorEq, Int.reduceEq, Int.reduceLT, Int.reduceLE, Int.reduceBEq, Int.reduceBNe, Int.reduceToNat, IntKind.bits, Int.reduceAdd, Int.reduceSub, Int.reduceMul, Int.reduceTDiv, Int.reduceTMod, R7B, take_add, List.append_assoc, List.length_append, Nat.add_assoc, shrink_lit, ball_app, RG, LPB, uv_len, w_0, w_1, w_2, ha, hL, hb, snap_wat, urows_len, hT, h37, c1, c2, List.append_nil, CW_some, scalar, scalar1, lockAll, lockAt, reduceCtorEq, extrV, List.all_cons, List.all_nil, pairOk, AV.ids, List.contains_cons, List.contains_nil, Nat.reduceBEq, List.all_cons, List.all_nil, Bool.or_self, Bool.not_false, Bool.and_self, Bool.or_false, mutIds]
theorem r36_there {ys : List Hd} {bs : List Blk} {pend : List (Option AExit)} {a b L g lk : Nat} {eb : TypeId} (now n : Int) (l : List Pu) (hn : l.length ≤ 1000000) (hr : RiseU l) (ha : bs[a]? = some (.box 0 24 [.int .i64 now, .lis L g 0 l.length])) (hL : bs[L]? = some (.lst 0 g 40 4 (urows l))) (hb : bs[b]? = some (.box lk eb [.int .i64 n])) (h : 1 ≤ n ∧ n ≤ 8) (ht : ∃ i, i < l.length ∧ (urow l i).num = n) :
    LR E ys 36 [.ptr a 0 0 0, .ptr b 0 0 0] ⟨bs, pend⟩ = some (.int .i64 5, ⟨bs, pend⟩) := by
  have hA : ∀ r, (bs ++ r)[a]? = some (.box 0 24 [.int .i64 now, .lis L g 0 l.length]) := fun r => get_lt ha
  have hL' : ∀ r, (bs ++ r)[L]? = some (.lst 0 g 40 4 (urows l)) := fun r => get_lt hL
  have hB : ∀ r, (bs ++ r)[b]? = some (.box lk eb [.int .i64 n]) := fun r => get_lt hb
  have ia := (List.getElem?_eq_some_iff.1 ha).1
  have iL := (List.getElem?_eq_some_iff.1 hL).1
  have hT : (urows l).take l.length = urows l := List.take_of_length_le (by rw [urows_len]; exact Nat.le_refl _)
  obtain ⟨i, k1, k2, k3, h37⟩ := e37 now l n hn hr
  rw [LR_R (fn := f36) rfl rfl rfl]
  have c1 : ¬ n < 1 := by omega
  have c2 : ¬ 8 < n := by omega
  have c3 : i < l.length ∧ (urow l i).num = n := by
    obtain ⟨j, j1, j2⟩ := ht
    have h1 : ¬ j < i := fun h => by have := k2 j h; omega
    rcases Nat.lt_or_eq_of_le (Nat.not_lt.1 h1) with h2 | rfl
    · have := hr i j h2 j1
      have := k3 i (Nat.le_refl _) (by omega)
      omega
    · exact ⟨j1, j2⟩
  simp only [f36, ← uv_zer, RB, pickV, eqbV, notV, negV, convV, faddrV, fldV, idxV, eqaggV, iaddrV, isnilV, nilckV, cloV, extrV, slenV, minV, sidxV, abin, cmpInt, params, growLists, fillCells, newAt, rdPtr, wrPtr, AV.cells, asVal, lenOf, boundOf, rowsOf, argIds, freshIn, scalar1, setAll, AV.isData, AV.isYld, Nat.reduceAdd, Nat.reduceMul, Nat.reduceSub, Nat.reduceEqDiff, Nat.reduceLeDiff, Nat.reduceLT, Int.reduceNeg, ↓reduceIte, reduceCtorEq, Int.reduceEq, Int.reduceLT, Int.reduceLE, Int.reduceBEq, Int.reduceBNe, Int.reduceToNat, IntKind.bits, Int.reduceAdd, Int.reduceSub, Int.reduceMul, Int.reduceTDiv, Int.reduceTMod, R7B, take_add, List.append_assoc, List.length_append, Nat.add_assoc, shrink_lit, ball_app, RG, LPB, uv_len, w_0, w_1, w_2, ha, hL, hb, snap_wat, urows_len, hT, h37, c1, c2, c3.1, c3.2, List.append_nil, CW_some, scalar, scalar1, lockAll, lockAt, reduceCtorEq, extrV, List.all_cons, List.all_nil, pairOk, AV.ids, List.contains_cons, List.contains_nil, Nat.reduceBEq, List.all_cons, List.all_nil, Bool.or_self, Bool.not_false, Bool.and_self, Bool.or_false, mutIds]
end Go.Proofs.Ytabadcnpmfafnaa.F

/- A peer is added: the closure of beat.Add. No condition. -/
set_option linter.unusedSimpArgs false
namespace Go.Proofs.Ytabadcnpmfafnaa.D
open Go Go.Proofs.Ytabadcnpmfafnaa.A
theorem zu1 : zerU.heard = 0 := rfl
theorem zu2 : zerU.good = 0 := rfl
theorem zu3 : zerU.st = 0 := rfl
theorem uv_on (q : Pu) (x : Int) : ovr (uv q) 0 [.int .i64 x] = some (uv ⟨x, q.heard, q.good, q.st⟩) := rfl
theorem uv_oh (q : Pu) (x : Int) : ovr (uv q) 1 [.int .i64 x] = some (uv ⟨q.num, x, q.good, q.st⟩) := rfl
theorem uv_fit (p : Pu) : headFits 4 [uv p] = true := rfl
theorem w_o1 (a b c : AV) : ovr [a, b] 1 [c] = some [a, c] := rfl
end Go.Proofs.Ytabadcnpmfafnaa.D
namespace Go.Proofs.Ytabadcnpmfafnaa.F
open Go Go.Proofs.Ytabadcnpmfafnaa.A Go.Proofs.Ytabadcnpmfafnaa.D
theorem r36_ins {ys : List Hd} {bs : List Blk} {pend : List (Option AExit)} {a b L g lk : Nat} {eb : TypeId} (now n : Int) (l : List Pu) (hn : l.length ≤ 1000000) (hr : RiseU l) (ha : bs[a]? = some (.box 0 24 [.int .i64 now, .lis L g 0 l.length])) (hL : bs[L]? = some (.lst 0 g 40 4 (urows l))) (hb : bs[b]? = some (.box lk eb [.int .i64 n])) (haL : a ≠ L) (h : 1 ≤ n ∧ n ≤ 8) (ht : ¬ ∃ i, i < l.length ∧ (urow l i).num = n) :
    ∃ i e, i ≤ l.length ∧ LoU l n i ∧ HiU l n i ∧ LR E ys 36 [.ptr a 0 0 0, .ptr b 0 0 0] ⟨bs, pend⟩ = some (.int .i64 0, ⟨(bs.set L (.lst 0 (g + 1) 40 4 (urows (l.take i ++ [⟨n, now, 0, 0⟩] ++ l.drop i)))).set a (.box 0 24 [.int .i64 now, .lis L (g + 1) 0 (l.length + 1)]) ++ e, pend⟩) := by
  have hA : ∀ r, (bs ++ r)[a]? = some (.box 0 24 [.int .i64 now, .lis L g 0 l.length]) := fun r => get_lt ha
  have hL' : ∀ r, (bs ++ r)[L]? = some (.lst 0 g 40 4 (urows l)) := fun r => get_lt hL
  have hB : ∀ r, (bs ++ r)[b]? = some (.box lk eb [.int .i64 n]) := fun r => get_lt hb
  have ia := (List.getElem?_eq_some_iff.1 ha).1
  have iL := (List.getElem?_eq_some_iff.1 hL).1
  have hT : (urows l).take l.length = urows l := List.take_of_length_le (by rw [urows_len]; exact Nat.le_refl _)
  obtain ⟨i, k1, k2, k3, h37⟩ := e37 now l n hn hr
  have c1 : ¬ n < 1 := by omega
  have c2 : ¬ 8 < n := by omega
  have c3 : decide (i < l.length ∧ (urow l i).num = n) = false := decide_eq_false fun h => ht ⟨i, h⟩
  have h38 := r38 (ys := ys) (pend := pend) (bs := bs ++ [.lst 0 0 40 4 [uv ⟨n, now, 0, 0⟩]]) (id := L) (g := g) (id2 := bs.length) (g2 := 0) (lk2 := 0) (l := l) (n := l.length) (i := i) ⟨n, now, 0, 0⟩ (hL' _) (by simp) rfl k1 (by omega) hn
  have sL : ∀ r x, (bs ++ r).set L x = bs.set L x ++ r := fun r x => by rw [List.set_append_left _ _ iL]
  have aL : ∀ X r, (bs.set L X ++ r)[a]? = some (.box 0 24 [.int .i64 now, .lis L g 0 l.length]) := fun X r => by
    rw [List.getElem?_append_left (by rw [List.length_set]; exact ia), List.getElem?_set_ne (by omega)]; exact ha
  have sA : ∀ X r x, (bs.set L X ++ r).set a x = (bs.set L X).set a x ++ r := fun X r x => by rw [List.set_append_left _ _ (by rw [List.length_set]; exact ia)]
  have hne : (a == bs.length) = false := by rw [beq_eq_false_iff_ne]; omega
  rw [sL] at h38
  refine ⟨i, [.lst 0 0 40 4 [uv ⟨n, now, 0, 0⟩]], k1, k2, k3, ?_⟩
  rw [LR_R (fn := f36) rfl rfl rfl]
  simp only [f36, ← uv_zer, RB, pickV, eqbV, notV, negV, convV, faddrV, fldV, idxV, eqaggV, iaddrV, isnilV, nilckV, cloV, extrV, slenV, minV, sidxV, abin, cmpInt, params, growLists, fillCells, newAt, rdPtr, wrPtr, AV.cells, asVal, lenOf, boundOf, rowsOf, argIds, freshIn, scalar1, setAll, AV.isData, AV.isYld, Nat.reduceAdd, Nat.reduceMul, Nat.reduceSub, Nat.reduceEqDiff, Nat.reduceLeDiff, Nat.reduceLT, Int.reduceNeg, ↓reduceIte, reduceCtorEq, Int.reduceEq, Int.reduceLT, Int.reduceLE, Int.reduceBEq, Int.reduceBNe, Int.reduceToNat, IntKind.bits, Int.reduceAdd, Int.reduceSub, Int.reduceMul, Int.reduceTDiv, Int.reduceTMod, R7B, take_add, List.append_assoc, List.length_append, Nat.add_assoc, shrink_lit, ball_app, RG, LPB, O_buildSlq, quietOk, aop_buildSl, fillRows, asData, aappend, uv_len, uv_data, uv_on, uv_oh, uv_fit, w_0, w_1, w_2, w_o1, ha, hL, hb, hA, hL', hB, aL, sA, sL, snap_wat, urows_len, hT, h37, c1, c2, c3, h38, List.append_nil, CW_some, scalar, scalar1, lockAll, lockAt, reduceCtorEq, extrV, List.all_cons, List.all_nil, pairOk, AV.ids, List.contains_cons, List.contains_nil, Nat.reduceBEq, List.all_cons, List.all_nil, Bool.or_self, Bool.not_false, Bool.and_self, Bool.or_false, mutIds, zu1, zu2, zu3, hne, Bool.not_false, if_true]
end Go.Proofs.Ytabadcnpmfafnaa.F

/- Delete among peers. No condition. -/
set_option linter.unusedSimpArgs false
namespace Go.Proofs.Ytabadcnpmfafnaa.D
open Go Go.Proofs.Ytabadcnpmfafnaa.A
theorem urows_take (l : List Pu) (n : Nat) : (urows l).take n = urows (l.take n) := by simp [urows, List.map_take]
theorem urows_drop (l : List Pu) (n : Nat) : (urows l).drop n = urows (l.drop n) := by simp [urows, List.map_drop]
theorem urows_append (l r : List Pu) : urows l ++ urows r = urows (l ++ r) := by simp [urows]
theorem urows_snoc (p : Pu) : [uv p] = urows [p] := rfl
end Go.Proofs.Ytabadcnpmfafnaa.D
namespace Go.Proofs.Ytabadcnpmfafnaa.F
open Go Go.Proofs.Ytabadcnpmfafnaa.A Go.Proofs.Ytabadcnpmfafnaa.D
theorem r40 {ys : List Hd} {bs : List Blk} {pend : List (Option AExit)} {id g : Nat} {l : List Pu} {n i : Nat} (hb : bs[id]? = some (.lst 0 g 40 4 (urows l))) (hn : l.length = n) (hi : i < n) (hl : n ≤ 1000000) (hlow : belowAll bs.length bs = true) :
    ∃ z e, LR E ys 40 [.lis id g 0 n, .int .i64 (i : Nat), .int .i64 ((i + 1 : Nat) : Int)] ⟨bs, pend⟩ = some (.lis id g 0 (n - 1), ⟨bs.set id (.lst 0 g 40 4 (urows (l.take i ++ l.drop (i + 1)) ++ z)) ++ e, pend⟩) := by
  subst hn
  have hA : ∀ r, (bs ++ r)[id]? = some (.lst 0 g 40 4 (urows l)) := fun r => get_lt hb
  have ia := (List.getElem?_eq_some_iff.1 hb).1
  have sA : ∀ r x, (bs ++ r).set id x = bs.set id x ++ r := fun r x => by rw [List.set_append_left _ _ ia]
  have f1 : (i : Int) < (l.length : Int) := by omega
  have f2 : (0 : Int) ≤ (i : Int) := by omega
  have f3 : ((i : Int) == ((i + 1 : Nat) : Int)) = false := by rw [beq_eq_false_iff_ne]; omega
  have g1 : i ≤ i + 1 := by omega
  have g2 : i + 1 ≤ l.length := by omega
  have g3 : l.length ≤ l.length := Nat.le_refl _
  have g4 : i ≤ l.length := by omega
  have g5 : ¬ (l.length < i) := by omega
  have h1 : (l.drop (i + 1)).take (l.length - (i + 1)) = l.drop (i + 1) := List.take_of_length_le (by simp)
  have h2 : headFits 4 (urows (l.drop (i + 1))) = true := by
    cases l.drop (i + 1) with
    | nil => rfl
    | cons r t => simp [urows, headFits, uv_len]
  have h3 : i + (1 + (l.length - (i + 1))) ≤ l.length := by omega
  have h4 : i + (l.length - (i + 1)) = l.length - 1 := by omega
  have h5 : l.length - 1 ≤ l.length := by omega
  have h6 : (urows (l.drop (l.length - 1))).length = 1 := by rw [urows_len, List.length_drop]; omega
  have hB : ∀ X r, (bs.set id X ++ r)[id]? = some X := fun X r => by rw [List.getElem?_append_left (by rw [List.length_set]; exact ia), List.getElem?_set_self ia]
  have sB : ∀ X r Y, (bs.set id X ++ r).set id Y = bs.set id Y ++ r := fun X r Y => by rw [List.set_append_left _ _ (by rw [List.length_set]; exact ia), List.set_set]
  have h7 : min i l.length + (l.length - (i + 1) + 1) = l.length := by omega
  have h8 : (0 : Int) ≤ ((l.length - 1 : Nat) : Int) := by omega
  have h9 : ((l.length - 1 : Nat) : Int).toNat = l.length - 1 := by omega
  have h10 : l.length - (l.length - 1) = 1 := by omega
  have h11 : l.length - 1 + 1 ≤ l.length := by omega
  have h12 : (l.take i ++ (l.drop (i + 1) ++ l.drop (l.length - 1))).take (l.length - 1) = l.take i ++ l.drop (i + 1) := by
    rw [← List.append_assoc]; exact List.take_left' (by simp only [List.length_append, List.length_take, List.length_drop]; omega)
  rw [LR_R (fn := f40) rfl rfl rfl]
  simp only [f40, ← uv_zer, RB, pickV, eqbV, notV, negV, convV, faddrV, fldV, idxV, eqaggV, iaddrV, isnilV, nilckV, cloV, extrV, slenV, minV, sidxV, abin, cmpInt, params, growLists, fillCells, newAt, rdPtr, wrPtr, AV.cells, asVal, lenOf, boundOf, rowsOf, argIds, freshIn, scalar1, setAll, AV.isData, AV.isYld, Nat.reduceAdd, Nat.reduceMul, Nat.reduceSub, Nat.reduceEqDiff, Nat.reduceLeDiff, Nat.reduceLT, Int.reduceNeg, ↓reduceIte, reduceCtorEq, Int.reduceEq, Int.reduceLT, Int.reduceLE, Int.reduceBEq, Int.reduceBNe, Int.reduceToNat, IntKind.bits, Int.reduceAdd, Int.reduceSub, Int.reduceMul, Int.reduceTDiv, Int.reduceTMod, uv_len, uv_data, urows_take, urows_drop, urows_append, R7B, take_add, List.append_assoc, List.length_append, Nat.add_assoc, shrink_lit, ball_app, RG, LPB, hA, sA, f1, f2, f3, asliceL, boundOf, lisFits, urows_len, Int.toNat_natCast, Option.isSome_some, Option.isSome_none, g1, g2, g3, aslice, g4, g5, aappIn, h1, h2, h3, h4, h5, List.length_drop, List.length_take, hB, sB, List.length_set, h7, h8, h9, List.length_append, h10, aop, h11, h12]
  refine ⟨urows (zerU :: (l.take i ++ (l.drop (i + 1) ++ l.drop (l.length - 1))).drop (l.length - 1 + 1)), [.lst 0 0 40 4 []], ?_⟩
  simp only [urows, List.map_append, List.map_cons, List.append_assoc, List.cons_append, List.nil_append]
end Go.Proofs.Ytabadcnpmfafnaa.F

/- A peer is dropped: the closure of beat.Drop. No condition. -/
set_option linter.unusedSimpArgs false
namespace Go.Proofs.Ytabadcnpmfafnaa.F
open Go Go.Proofs.Ytabadcnpmfafnaa.A Go.Proofs.Ytabadcnpmfafnaa.D
theorem r39_none {ys : List Hd} {bs : List Blk} {pend : List (Option AExit)} {a b L g lk : Nat} {eb : TypeId} (now n : Int) (l : List Pu) (hn : l.length ≤ 1000000) (hr : RiseU l) (ha : bs[a]? = some (.box 0 24 [.int .i64 now, .lis L g 0 l.length])) (hL : bs[L]? = some (.lst 0 g 40 4 (urows l))) (hb : bs[b]? = some (.box lk eb [.int .i64 n])) (ht : ¬ ∃ i, i < l.length ∧ (urow l i).num = n) :
    LR E ys 39 [.ptr a 0 0 0, .ptr b 0 0 0] ⟨bs, pend⟩ = some (.int .i64 4, ⟨bs, pend⟩) := by
  have hA : ∀ r, (bs ++ r)[a]? = some (.box 0 24 [.int .i64 now, .lis L g 0 l.length]) := fun r => get_lt ha
  have hL' : ∀ r, (bs ++ r)[L]? = some (.lst 0 g 40 4 (urows l)) := fun r => get_lt hL
  have hB : ∀ r, (bs ++ r)[b]? = some (.box lk eb [.int .i64 n]) := fun r => get_lt hb
  have ia := (List.getElem?_eq_some_iff.1 ha).1
  have iL := (List.getElem?_eq_some_iff.1 hL).1
  have hT : (urows l).take l.length = urows l := List.take_of_length_le (by rw [urows_len]; exact Nat.le_refl _)
  obtain ⟨i, k1, k2, k3, h37⟩ := e37 now l n hn hr
  rw [LR_R (fn := f39) rfl rfl rfl]
  have c3 : decide (i < l.length ∧ (urow l i).num = n) = false := decide_eq_false fun h => ht ⟨i, h⟩
  simp only [f39, RB, pickV, eqbV, notV, negV, convV, faddrV, fldV, idxV, eqaggV, iaddrV, isnilV, nilckV, cloV, extrV, slenV, minV, sidxV, abin, cmpInt, params, growLists, fillCells, newAt, rdPtr, wrPtr, AV.cells, asVal, lenOf, boundOf, rowsOf, argIds, freshIn, scalar1, setAll, AV.isData, AV.isYld, Nat.reduceAdd, Nat.reduceMul, Nat.reduceSub, Nat.reduceEqDiff, Nat.reduceLeDiff, Nat.reduceLT, Int.reduceNeg, ↓reduceIte, reduceCtorEq, Int.reduceEq, Int.reduceLT, Int.reduceLE, Int.reduceBEq, Int.reduceBNe, Int.reduceToNat, IntKind.bits, Int.reduceAdd, Int.reduceSub, Int.reduceMul, Int.reduceTDiv, Int.reduceTMod, R7B, take_add, List.append_assoc, List.length_append, Nat.add_assoc, shrink_lit, ball_app, RG, LPB, uv_len, w_0, w_1, w_2, ha, hL, hb, snap_wat, urows_len, hT, h37, c3, List.append_nil, CW_some, scalar, scalar1, lockAll, lockAt, reduceCtorEq, extrV, List.all_cons, List.all_nil, pairOk, AV.ids, List.contains_cons, List.contains_nil, Nat.reduceBEq, List.all_cons, List.all_nil, Bool.or_self, Bool.not_false, Bool.and_self, Bool.or_false, mutIds]
theorem r39_drop {ys : List Hd} {bs : List Blk} {pend : List (Option AExit)} {a b L g lk : Nat} {eb : TypeId} (now n : Int) (l : List Pu) (hn : l.length ≤ 1000000) (hr : RiseU l) (ha : bs[a]? = some (.box 0 24 [.int .i64 now, .lis L g 0 l.length])) (hL : bs[L]? = some (.lst 0 g 40 4 (urows l))) (hb : bs[b]? = some (.box lk eb [.int .i64 n])) (haL : a ≠ L) (hlow : belowAll bs.length bs = true) (ht : ∃ i, i < l.length ∧ (urow l i).num = n) :
    ∃ i z e, i < l.length ∧ (urow l i).num = n ∧ LR E ys 39 [.ptr a 0 0 0, .ptr b 0 0 0] ⟨bs, pend⟩ = some (.int .i64 0, ⟨(bs.set L (.lst 0 g 40 4 (urows (l.take i ++ l.drop (i + 1)) ++ z))).set a (.box 0 24 [.int .i64 now, .lis L g 0 (l.length - 1)]) ++ e, pend⟩) := by
  have hA : ∀ r, (bs ++ r)[a]? = some (.box 0 24 [.int .i64 now, .lis L g 0 l.length]) := fun r => get_lt ha
  have hL' : ∀ r, (bs ++ r)[L]? = some (.lst 0 g 40 4 (urows l)) := fun r => get_lt hL
  have hB : ∀ r, (bs ++ r)[b]? = some (.box lk eb [.int .i64 n]) := fun r => get_lt hb
  have ia := (List.getElem?_eq_some_iff.1 ha).1
  have iL := (List.getElem?_eq_some_iff.1 hL).1
  have hT : (urows l).take l.length = urows l := List.take_of_length_le (by rw [urows_len]; exact Nat.le_refl _)
  obtain ⟨i, k1, k2, k3, h37⟩ := e37 now l n hn hr
  have c3 : i < l.length ∧ (urow l i).num = n := by
    obtain ⟨j, j1, j2⟩ := ht
    have h1 : ¬ j < i := fun h => by have := k2 j h; omega
    rcases Nat.lt_or_eq_of_le (Nat.not_lt.1 h1) with h2 | rfl
    · have := hr i j h2 j1
      have := k3 i (Nat.le_refl _) (by omega)
      omega
    · exact ⟨j1, j2⟩
  obtain ⟨z, e, h40⟩ := r40 (ys := ys) (pend := pend) hL rfl c3.1 hn hlow
  have f6 : IntKind.i64.wrap ((i : Int) + 1) = ((i + 1 : Nat) : Int) := by rw [IntWalk.i64_in _ (by omega)] <;> omega
  have aL : ∀ X r, (bs.set L X ++ r)[a]? = some (.box 0 24 [.int .i64 now, .lis L g 0 l.length]) := fun X r => by
    rw [List.getElem?_append_left (by rw [List.length_set]; exact ia), List.getElem?_set_ne (by omega)]; exact ha
  have sA : ∀ X r x, (bs.set L X ++ r).set a x = (bs.set L X).set a x ++ r := fun X r x => by rw [List.set_append_left _ _ (by rw [List.length_set]; exact ia)]
  refine ⟨i, z, e, c3.1, c3.2, ?_⟩
  rw [LR_R (fn := f39) rfl rfl rfl]
  simp only [f39, RB, pickV, eqbV, notV, negV, convV, faddrV, fldV, idxV, eqaggV, iaddrV, isnilV, nilckV, cloV, extrV, slenV, minV, sidxV, abin, cmpInt, params, growLists, fillCells, newAt, rdPtr, wrPtr, AV.cells, asVal, lenOf, boundOf, rowsOf, argIds, freshIn, scalar1, setAll, AV.isData, AV.isYld, Nat.reduceAdd, Nat.reduceMul, Nat.reduceSub, Nat.reduceEqDiff, Nat.reduceLeDiff, Nat.reduceLT, Int.reduceNeg, ↓reduceIte, reduceCtorEq, Int.reduceEq, Int.reduceLT, Int.reduceLE, Int.reduceBEq, Int.reduceBNe, Int.reduceToNat, IntKind.bits, Int.reduceAdd, Int.reduceSub, Int.reduceMul, Int.reduceTDiv, Int.reduceTMod, R7B, take_add, List.append_assoc, List.length_append, Nat.add_assoc, shrink_lit, ball_app, RG, LPB, uv_len, w_0, w_1, w_2, w_o1, ha, hL, hb, aL, sA, f6, h40, snap_wat, urows_len, hT, h37, c3.1, c3.2, List.append_nil, CW_some, scalar, scalar1, lockAll, lockAt, reduceCtorEq, extrV, List.all_cons, List.all_nil, pairOk, AV.ids, List.contains_cons, List.contains_nil, Nat.reduceBEq, List.all_cons, List.all_nil, Bool.or_self, Bool.not_false, Bool.and_self, Bool.or_false, mutIds]
end Go.Proofs.Ytabadcnpmfafnaa.F

/- A peer's row that may be: by the document. No condition. -/
set_option linter.unusedSimpArgs false
namespace Go.Proofs.Ytabadcnpmfafnaa.F
open Go Go.Proofs.Ytabadcnpmfafnaa.A Go.Proofs.Ytabadcnpmfafnaa.D
theorem e30 (now : Int) (p : Pu) : LV E 30 [.int .i64 now, .agg (uv p)] = some (.bool (decide (IntKind.i64.wrap (now - p.heard) ≤ 4))) := by
  rw [LV_R (fn := f30) rfl rfl rfl]
  simp only [f30, RB, pickV, eqbV, notV, negV, convV, faddrV, fldV, idxV, eqaggV, iaddrV, isnilV, nilckV, cloV, extrV, slenV, minV, sidxV, abin, cmpInt, params, growLists, fillCells, newAt, rdPtr, wrPtr, AV.cells, asVal, lenOf, boundOf, rowsOf, argIds, freshIn, scalar1, setAll, AV.isData, AV.isYld, Nat.reduceAdd, Nat.reduceMul, Nat.reduceSub, Nat.reduceEqDiff, Nat.reduceLeDiff, Nat.reduceLT, Int.reduceNeg, ↓reduceIte, reduceCtorEq, Int.reduceEq, Int.reduceLT, Int.reduceLE, Int.reduceBEq, Int.reduceBNe, Int.reduceToNat, IntKind.bits, Int.reduceAdd, Int.reduceSub, Int.reduceMul, Int.reduceTDiv, Int.reduceTMod, uv_len, uv_data, uv_p, uv_0, uv_1, uv_2, uv_3, uv_snap]
theorem e31 (now : Int) (p : Pu) : LV E 31 [.int .i64 now, .agg (uv p)] = some (.bool (decide (9 < IntKind.i64.wrap (now - p.heard)))) := by
  rw [LV_R (fn := f31) rfl rfl rfl]
  simp only [f31, RB, pickV, eqbV, notV, negV, convV, faddrV, fldV, idxV, eqaggV, iaddrV, isnilV, nilckV, cloV, extrV, slenV, minV, sidxV, abin, cmpInt, params, growLists, fillCells, newAt, rdPtr, wrPtr, AV.cells, asVal, lenOf, boundOf, rowsOf, argIds, freshIn, scalar1, setAll, AV.isData, AV.isYld, Nat.reduceAdd, Nat.reduceMul, Nat.reduceSub, Nat.reduceEqDiff, Nat.reduceLeDiff, Nat.reduceLT, Int.reduceNeg, ↓reduceIte, reduceCtorEq, Int.reduceEq, Int.reduceLT, Int.reduceLE, Int.reduceBEq, Int.reduceBNe, Int.reduceToNat, IntKind.bits, Int.reduceAdd, Int.reduceSub, Int.reduceMul, Int.reduceTDiv, Int.reduceTMod, uv_len, uv_data, uv_p, uv_0, uv_1, uv_2, uv_3, uv_snap]
set_option maxHeartbeats 4000000 in
theorem e42 (now : Int) (p : Pu) (hn : now ≤ 4611686018427387904) : LV E 42 [.int .i64 now, .agg (uv p)] = some (.bool (decide (PuOk now p))) := by
  rw [LV_R (fn := f42) rfl rfl rfl]
  have no : ¬ PuOk now p → (decide (PuOk now p)) = false := fun h => decide_eq_false h
  by_cases a1 : p.num < 1
  · rw [no (by unfold PuOk; omega)]; simp only [f42, RB, pickV, eqbV, notV, negV, convV, faddrV, fldV, idxV, eqaggV, iaddrV, isnilV, nilckV, cloV, extrV, slenV, minV, sidxV, abin, cmpInt, params, growLists, fillCells, newAt, rdPtr, wrPtr, AV.cells, asVal, lenOf, boundOf, rowsOf, argIds, freshIn, scalar1, setAll, AV.isData, AV.isYld, Nat.reduceAdd, Nat.reduceMul, Nat.reduceSub, Nat.reduceEqDiff, Nat.reduceLeDiff, Nat.reduceLT, Int.reduceNeg, ↓reduceIte, reduceCtorEq, Int.reduceEq, Int.reduceLT, Int.reduceLE, Int.reduceBEq, Int.reduceBNe, Int.reduceToNat, IntKind.bits, Int.reduceAdd, Int.reduceSub, Int.reduceMul, Int.reduceTDiv, Int.reduceTMod, uv_len, uv_data, uv_p, uv_0, uv_1, uv_2, uv_3, uv_snap, a1]
  by_cases a2 : 8 < p.num
  · rw [no (by unfold PuOk; omega)]; simp only [f42, RB, pickV, eqbV, notV, negV, convV, faddrV, fldV, idxV, eqaggV, iaddrV, isnilV, nilckV, cloV, extrV, slenV, minV, sidxV, abin, cmpInt, params, growLists, fillCells, newAt, rdPtr, wrPtr, AV.cells, asVal, lenOf, boundOf, rowsOf, argIds, freshIn, scalar1, setAll, AV.isData, AV.isYld, Nat.reduceAdd, Nat.reduceMul, Nat.reduceSub, Nat.reduceEqDiff, Nat.reduceLeDiff, Nat.reduceLT, Int.reduceNeg, ↓reduceIte, reduceCtorEq, Int.reduceEq, Int.reduceLT, Int.reduceLE, Int.reduceBEq, Int.reduceBNe, Int.reduceToNat, IntKind.bits, Int.reduceAdd, Int.reduceSub, Int.reduceMul, Int.reduceTDiv, Int.reduceTMod, uv_len, uv_data, uv_p, uv_0, uv_1, uv_2, uv_3, uv_snap, a1, a2]
  by_cases a3 : p.heard < 0
  · rw [no (by unfold PuOk; omega)]; simp only [f42, RB, pickV, eqbV, notV, negV, convV, faddrV, fldV, idxV, eqaggV, iaddrV, isnilV, nilckV, cloV, extrV, slenV, minV, sidxV, abin, cmpInt, params, growLists, fillCells, newAt, rdPtr, wrPtr, AV.cells, asVal, lenOf, boundOf, rowsOf, argIds, freshIn, scalar1, setAll, AV.isData, AV.isYld, Nat.reduceAdd, Nat.reduceMul, Nat.reduceSub, Nat.reduceEqDiff, Nat.reduceLeDiff, Nat.reduceLT, Int.reduceNeg, ↓reduceIte, reduceCtorEq, Int.reduceEq, Int.reduceLT, Int.reduceLE, Int.reduceBEq, Int.reduceBNe, Int.reduceToNat, IntKind.bits, Int.reduceAdd, Int.reduceSub, Int.reduceMul, Int.reduceTDiv, Int.reduceTMod, uv_len, uv_data, uv_p, uv_0, uv_1, uv_2, uv_3, uv_snap, a1, a2, a3]
  by_cases a4 : now < p.heard
  · rw [no (by unfold PuOk; omega)]; simp only [f42, RB, pickV, eqbV, notV, negV, convV, faddrV, fldV, idxV, eqaggV, iaddrV, isnilV, nilckV, cloV, extrV, slenV, minV, sidxV, abin, cmpInt, params, growLists, fillCells, newAt, rdPtr, wrPtr, AV.cells, asVal, lenOf, boundOf, rowsOf, argIds, freshIn, scalar1, setAll, AV.isData, AV.isYld, Nat.reduceAdd, Nat.reduceMul, Nat.reduceSub, Nat.reduceEqDiff, Nat.reduceLeDiff, Nat.reduceLT, Int.reduceNeg, ↓reduceIte, reduceCtorEq, Int.reduceEq, Int.reduceLT, Int.reduceLE, Int.reduceBEq, Int.reduceBNe, Int.reduceToNat, IntKind.bits, Int.reduceAdd, Int.reduceSub, Int.reduceMul, Int.reduceTDiv, Int.reduceTMod, uv_len, uv_data, uv_p, uv_0, uv_1, uv_2, uv_3, uv_snap, a1, a2, a3, a4]
  by_cases a5 : p.good < 0
  · rw [no (by unfold PuOk; omega)]; simp only [f42, RB, pickV, eqbV, notV, negV, convV, faddrV, fldV, idxV, eqaggV, iaddrV, isnilV, nilckV, cloV, extrV, slenV, minV, sidxV, abin, cmpInt, params, growLists, fillCells, newAt, rdPtr, wrPtr, AV.cells, asVal, lenOf, boundOf, rowsOf, argIds, freshIn, scalar1, setAll, AV.isData, AV.isYld, Nat.reduceAdd, Nat.reduceMul, Nat.reduceSub, Nat.reduceEqDiff, Nat.reduceLeDiff, Nat.reduceLT, Int.reduceNeg, ↓reduceIte, reduceCtorEq, Int.reduceEq, Int.reduceLT, Int.reduceLE, Int.reduceBEq, Int.reduceBNe, Int.reduceToNat, IntKind.bits, Int.reduceAdd, Int.reduceSub, Int.reduceMul, Int.reduceTDiv, Int.reduceTMod, uv_len, uv_data, uv_p, uv_0, uv_1, uv_2, uv_3, uv_snap, a1, a2, a3, a4, a5]
  by_cases a6 : 3 < p.good
  · rw [no (by unfold PuOk; omega)]; simp only [f42, RB, pickV, eqbV, notV, negV, convV, faddrV, fldV, idxV, eqaggV, iaddrV, isnilV, nilckV, cloV, extrV, slenV, minV, sidxV, abin, cmpInt, params, growLists, fillCells, newAt, rdPtr, wrPtr, AV.cells, asVal, lenOf, boundOf, rowsOf, argIds, freshIn, scalar1, setAll, AV.isData, AV.isYld, Nat.reduceAdd, Nat.reduceMul, Nat.reduceSub, Nat.reduceEqDiff, Nat.reduceLeDiff, Nat.reduceLT, Int.reduceNeg, ↓reduceIte, reduceCtorEq, Int.reduceEq, Int.reduceLT, Int.reduceLE, Int.reduceBEq, Int.reduceBNe, Int.reduceToNat, IntKind.bits, Int.reduceAdd, Int.reduceSub, Int.reduceMul, Int.reduceTDiv, Int.reduceTMod, uv_len, uv_data, uv_p, uv_0, uv_1, uv_2, uv_3, uv_snap, a1, a2, a3, a4, a5, a6]
  by_cases a7 : p.st < 0
  · rw [no (by unfold PuOk; omega)]; simp only [f42, RB, pickV, eqbV, notV, negV, convV, faddrV, fldV, idxV, eqaggV, iaddrV, isnilV, nilckV, cloV, extrV, slenV, minV, sidxV, abin, cmpInt, params, growLists, fillCells, newAt, rdPtr, wrPtr, AV.cells, asVal, lenOf, boundOf, rowsOf, argIds, freshIn, scalar1, setAll, AV.isData, AV.isYld, Nat.reduceAdd, Nat.reduceMul, Nat.reduceSub, Nat.reduceEqDiff, Nat.reduceLeDiff, Nat.reduceLT, Int.reduceNeg, ↓reduceIte, reduceCtorEq, Int.reduceEq, Int.reduceLT, Int.reduceLE, Int.reduceBEq, Int.reduceBNe, Int.reduceToNat, IntKind.bits, Int.reduceAdd, Int.reduceSub, Int.reduceMul, Int.reduceTDiv, Int.reduceTMod, uv_len, uv_data, uv_p, uv_0, uv_1, uv_2, uv_3, uv_snap, a1, a2, a3, a4, a5, a6, a7]
  by_cases a8 : 3 < p.st
  · rw [no (by unfold PuOk; omega)]; simp only [f42, RB, pickV, eqbV, notV, negV, convV, faddrV, fldV, idxV, eqaggV, iaddrV, isnilV, nilckV, cloV, extrV, slenV, minV, sidxV, abin, cmpInt, params, growLists, fillCells, newAt, rdPtr, wrPtr, AV.cells, asVal, lenOf, boundOf, rowsOf, argIds, freshIn, scalar1, setAll, AV.isData, AV.isYld, Nat.reduceAdd, Nat.reduceMul, Nat.reduceSub, Nat.reduceEqDiff, Nat.reduceLeDiff, Nat.reduceLT, Int.reduceNeg, ↓reduceIte, reduceCtorEq, Int.reduceEq, Int.reduceLT, Int.reduceLE, Int.reduceBEq, Int.reduceBNe, Int.reduceToNat, IntKind.bits, Int.reduceAdd, Int.reduceSub, Int.reduceMul, Int.reduceTDiv, Int.reduceTMod, uv_len, uv_data, uv_p, uv_0, uv_1, uv_2, uv_3, uv_snap, a1, a2, a3, a4, a5, a6, a7, a8]
  have hw : IntKind.i64.wrap (now - p.heard) = now - p.heard := IntWalk.i64_in _ (by omega)
  have e30 := e30 now p
  have e31 := e31 now p
  rw [hw] at e30 e31
  have P : PuOk now p ↔ ((p.st = 1 ∧ now - p.heard ≤ 4) ∨ (p.st = 2 ∧ 4 < now - p.heard ∧ now - p.heard ≤ 9 ∧ p.good = 0) ∨ (p.st = 0 ∧ now - p.heard ≤ 9 ∧ p.good < 3 ∧ (now - p.heard ≤ 4 ∨ p.good = 0)) ∨ (p.st = 3 ∧ p.good < 3 ∧ (now - p.heard ≤ 4 ∨ p.good = 0))) := by
    unfold PuOk
    exact ⟨fun h => h.2.2.2.2.2.2, fun h => ⟨by omega, by omega, by omega, by omega, by omega, by omega, h⟩⟩
  have yes : PuOk now p → (decide (PuOk now p)) = true := fun h => decide_eq_true h
  replace no := fun (h : ¬ ((p.st = 1 ∧ now - p.heard ≤ 4) ∨ (p.st = 2 ∧ 4 < now - p.heard ∧ now - p.heard ≤ 9 ∧ p.good = 0) ∨ (p.st = 0 ∧ now - p.heard ≤ 9 ∧ p.good < 3 ∧ (now - p.heard ≤ 4 ∨ p.good = 0)) ∨ (p.st = 3 ∧ p.good < 3 ∧ (now - p.heard ≤ 4 ∨ p.good = 0)))) => no (fun k => h (P.1 k))
  replace yes := fun (h : ((p.st = 1 ∧ now - p.heard ≤ 4) ∨ (p.st = 2 ∧ 4 < now - p.heard ∧ now - p.heard ≤ 9 ∧ p.good = 0) ∨ (p.st = 0 ∧ now - p.heard ≤ 9 ∧ p.good < 3 ∧ (now - p.heard ≤ 4 ∨ p.good = 0)) ∨ (p.st = 3 ∧ p.good < 3 ∧ (now - p.heard ≤ 4 ∨ p.good = 0)))) => yes (P.2 h)
  have d4 : (now - p.heard ≤ 4) ∨ ¬ (now - p.heard ≤ 4) := Classical.em _
  have d9 : (9 < now - p.heard) ∨ ¬ (9 < now - p.heard) := Classical.em _
  have b0 : (0 < p.good) ∨ ¬ (0 < p.good) := Classical.em _
  have b3 : ((p.good == 3) = true ∧ p.good = 3) ∨ ((p.good == 3) = false ∧ p.good ≠ 3) := by
    by_cases h : p.good = 3
    · exact .inl ⟨by rw [beq_iff_eq]; exact h, h⟩
    · exact .inr ⟨by rw [beq_eq_false_iff_ne]; exact h, h⟩
  have t1 : ((p.st == 1) = true ∧ p.st = 1) ∨ ((p.st == 1) = false ∧ p.st ≠ 1) := by
    by_cases h : p.st = 1
    · exact .inl ⟨by rw [beq_iff_eq]; exact h, h⟩
    · exact .inr ⟨by rw [beq_eq_false_iff_ne]; exact h, h⟩
  have t2 : ((p.st == 2) = true ∧ p.st = 2) ∨ ((p.st == 2) = false ∧ p.st ≠ 2) := by
    by_cases h : p.st = 2
    · exact .inl ⟨by rw [beq_iff_eq]; exact h, h⟩
    · exact .inr ⟨by rw [beq_eq_false_iff_ne]; exact h, h⟩
  have t3 : ((p.st == 3) = true ∧ p.st = 3) ∨ ((p.st == 3) = false ∧ p.st ≠ 3) := by
    by_cases h : p.st = 3
    · exact .inl ⟨by rw [beq_iff_eq]; exact h, h⟩
    · exact .inr ⟨by rw [beq_eq_false_iff_ne]; exact h, h⟩
  rcases d4 with d4 | d4 <;> rcases d9 with d9 | d9 <;> (try (exfalso; omega)) <;> rcases b0 with b0 | b0 <;> rcases b3 with ⟨b3, c3⟩ | ⟨b3, c3⟩ <;> (try (exfalso; omega)) <;> rcases t1 with ⟨t1, u1⟩ | ⟨t1, u1⟩ <;> rcases t2 with ⟨t2, u2⟩ | ⟨t2, u2⟩ <;> (try (exfalso; omega)) <;> rcases t3 with ⟨t3, u3⟩ | ⟨t3, u3⟩ <;> first
    | (exfalso; omega)
    | (rw [yes (by omega)]; simp only [f42, RB, pickV, eqbV, notV, negV, convV, faddrV, fldV, idxV, eqaggV, iaddrV, isnilV, nilckV, cloV, extrV, slenV, minV, sidxV, abin, cmpInt, params, growLists, fillCells, newAt, rdPtr, wrPtr, AV.cells, asVal, lenOf, boundOf, rowsOf, argIds, freshIn, scalar1, setAll, AV.isData, AV.isYld, Nat.reduceAdd, Nat.reduceMul, Nat.reduceSub, Nat.reduceEqDiff, Nat.reduceLeDiff, Nat.reduceLT, Int.reduceNeg, ↓reduceIte, reduceCtorEq, Int.reduceEq, Int.reduceLT, Int.reduceLE, Int.reduceBEq, Int.reduceBNe, Int.reduceToNat, IntKind.bits, Int.reduceAdd, Int.reduceSub, Int.reduceMul, Int.reduceTDiv, Int.reduceTMod, uv_len, uv_data, uv_p, uv_0, uv_1, uv_2, uv_3, uv_snap, a1, a2, a3, a4, a5, a6, a7, a8, e30, e31, d4, d9, b0, b3, t1, t2, t3]; done)
    | (rw [no (by omega)]; simp only [f42, RB, pickV, eqbV, notV, negV, convV, faddrV, fldV, idxV, eqaggV, iaddrV, isnilV, nilckV, cloV, extrV, slenV, minV, sidxV, abin, cmpInt, params, growLists, fillCells, newAt, rdPtr, wrPtr, AV.cells, asVal, lenOf, boundOf, rowsOf, argIds, freshIn, scalar1, setAll, AV.isData, AV.isYld, Nat.reduceAdd, Nat.reduceMul, Nat.reduceSub, Nat.reduceEqDiff, Nat.reduceLeDiff, Nat.reduceLT, Int.reduceNeg, ↓reduceIte, reduceCtorEq, Int.reduceEq, Int.reduceLT, Int.reduceLE, Int.reduceBEq, Int.reduceBNe, Int.reduceToNat, IntKind.bits, Int.reduceAdd, Int.reduceSub, Int.reduceMul, Int.reduceTDiv, Int.reduceTMod, uv_len, uv_data, uv_p, uv_0, uv_1, uv_2, uv_3, uv_snap, a1, a2, a3, a4, a5, a6, a7, a8, e30, e31, d4, d9, b0, b3, t1, t2, t3]; done)
end Go.Proofs.Ytabadcnpmfafnaa.F

/- A watch that may be: by the document. No condition. -/
set_option linter.unusedSimpArgs false
namespace Go.Proofs.Ytabadcnpmfafnaa.D
open Go Go.Proofs.Ytabadcnpmfafnaa.A
theorem WatOk.num {now : Int} {l : List Pu} (h : WatOk now l) : ∀ i, i < l.length → (i : Int) + 1 ≤ (urow l i).num
  | 0, hi => by have := (h.2 0 (Nat.zero_le _) hi).1.1; omega
  | i + 1, hi => by
    have h1 := WatOk.num h i (by omega)
    have h2 := (h.2 (i + 1) (Nat.zero_le _) hi).2 (by omega)
    rw [Nat.add_sub_cancel] at h2; omega
theorem WatOk.len {now : Int} {l : List Pu} (h : WatOk now l) : l.length ≤ 8 := by
  by_cases h8 : l.length ≤ 8
  · exact h8
  · have h1 := WatOk.num h 8 (by omega)
    have h2 := (h.2 8 (Nat.zero_le _) (by omega)).1.2.1
    omega
end Go.Proofs.Ytabadcnpmfafnaa.D
namespace Go.Proofs.Ytabadcnpmfafnaa.F
open Go Go.Proofs.Ytabadcnpmfafnaa.A Go.Proofs.Ytabadcnpmfafnaa.D
theorem e17 (now : Int) (l : List Pu) : LV E 17 [.agg [.int .i64 now, .ro (urows l)]] = some (.bool (decide (WatOk now l))) := by
  rw [LV_R (fn := f17) rfl rfl rfl]
  have no : ¬ WatOk now l → decide (WatOk now l) = false := fun h => decide_eq_false h
  by_cases n1 : now < 0
  · rw [no (by unfold WatOk; omega)]
    simp only [f17, RB, pickV, eqbV, notV, negV, convV, faddrV, fldV, idxV, eqaggV, iaddrV, isnilV, nilckV, cloV, extrV, slenV, minV, sidxV, abin, cmpInt, params, growLists, fillCells, newAt, rdPtr, wrPtr, AV.cells, asVal, lenOf, boundOf, rowsOf, argIds, freshIn, scalar1, setAll, AV.isData, AV.isYld, Nat.reduceAdd, Nat.reduceMul, Nat.reduceSub, Nat.reduceEqDiff, Nat.reduceLeDiff, Nat.reduceLT, Int.reduceNeg, ↓reduceIte, reduceCtorEq, Int.reduceEq, Int.reduceLT, Int.reduceLE, Int.reduceBEq, Int.reduceBNe, Int.reduceToNat, IntKind.bits, Int.reduceAdd, Int.reduceSub, Int.reduceMul, Int.reduceTDiv, Int.reduceTMod, R7B, uv_len, uv_data, uv_p, uv_0, uv_1, uv_2, uv_3, uv_oo, uv_snap, w_0, w_1, w_2, urows_len, n1]
  by_cases n2 : 1099511627776 < now
  · rw [no (by unfold WatOk; omega)]
    simp only [f17, RB, pickV, eqbV, notV, negV, convV, faddrV, fldV, idxV, eqaggV, iaddrV, isnilV, nilckV, cloV, extrV, slenV, minV, sidxV, abin, cmpInt, params, growLists, fillCells, newAt, rdPtr, wrPtr, AV.cells, asVal, lenOf, boundOf, rowsOf, argIds, freshIn, scalar1, setAll, AV.isData, AV.isYld, Nat.reduceAdd, Nat.reduceMul, Nat.reduceSub, Nat.reduceEqDiff, Nat.reduceLeDiff, Nat.reduceLT, Int.reduceNeg, ↓reduceIte, reduceCtorEq, Int.reduceEq, Int.reduceLT, Int.reduceLE, Int.reduceBEq, Int.reduceBNe, Int.reduceToNat, IntKind.bits, Int.reduceAdd, Int.reduceSub, Int.reduceMul, Int.reduceTDiv, Int.reduceTMod, R7B, uv_len, uv_data, uv_p, uv_0, uv_1, uv_2, uv_3, uv_oo, uv_snap, w_0, w_1, w_2, urows_len, n1, n2]
  by_cases n4 : 8 < l.length
  · rw [no (fun h => by have := h.len; omega)]
    simp only [f17, RB, pickV, eqbV, notV, negV, convV, faddrV, fldV, idxV, eqaggV, iaddrV, isnilV, nilckV, cloV, extrV, slenV, minV, sidxV, abin, cmpInt, params, growLists, fillCells, newAt, rdPtr, wrPtr, AV.cells, asVal, lenOf, boundOf, rowsOf, argIds, freshIn, scalar1, setAll, AV.isData, AV.isYld, Nat.reduceAdd, Nat.reduceMul, Nat.reduceSub, Nat.reduceEqDiff, Nat.reduceLeDiff, Nat.reduceLT, Int.reduceNeg, ↓reduceIte, reduceCtorEq, Int.reduceEq, Int.reduceLT, Int.reduceLE, Int.reduceBEq, Int.reduceBNe, Int.reduceToNat, IntKind.bits, Int.reduceAdd, Int.reduceSub, Int.reduceMul, Int.reduceTDiv, Int.reduceTMod, R7B, uv_len, uv_data, uv_p, uv_0, uv_1, uv_2, uv_3, uv_oo, uv_snap, w_0, w_1, w_2, urows_len, n1, n2, show (8 : Int) < (l.length : Int) by omega]
  have n3 : 0 ≤ now ∧ now ≤ 1099511627776 := ⟨by omega, by omega⟩
  have eW : decide (WatOk now l) = decide (UFrom now l 0) := decide_eq_decide.2 ⟨fun h => h.2, fun h => ⟨n3, h⟩⟩
  rw [eW]
  simp only [f17, RB, pickV, eqbV, notV, negV, convV, faddrV, fldV, idxV, eqaggV, iaddrV, isnilV, nilckV, cloV, extrV, slenV, minV, sidxV, abin, cmpInt, params, growLists, fillCells, newAt, rdPtr, wrPtr, AV.cells, asVal, lenOf, boundOf, rowsOf, argIds, freshIn, scalar1, setAll, AV.isData, AV.isYld, Nat.reduceAdd, Nat.reduceMul, Nat.reduceSub, Nat.reduceEqDiff, Nat.reduceLeDiff, Nat.reduceLT, Int.reduceNeg, ↓reduceIte, reduceCtorEq, Int.reduceEq, Int.reduceLT, Int.reduceLE, Int.reduceBEq, Int.reduceBNe, Int.reduceToNat, IntKind.bits, Int.reduceAdd, Int.reduceSub, Int.reduceMul, Int.reduceTDiv, Int.reduceTMod, R7B, uv_len, uv_data, uv_p, uv_0, uv_1, uv_2, uv_3, uv_oo, uv_snap, w_0, w_1, w_2, urows_len, n1, n2, show ¬ (8 : Int) < (l.length : Int) by omega]
  refine (W_rec2 (β := AV) (ι := Nat) (M := fun k => [(1, .ptr 0 0 0 0), (3, .int .i64 (k : Int))]) (H := fun _ => ⟨[.box 0 24 [.int .i64 now, .ro (urows l)]], []⟩) (r := fun k => some (AV.bool (decide (UFrom now l k)))) (μ := fun k => l.length - k) (fun i => ?_) (fun k ih => ?_) 0 rfl rfl)
  · simp [belowL, belowAll, AV.refsLt, Blk.refsLt]
  · by_cases hk : k < l.length
    · have f1 : (k : Int) < (l.length : Int) := by omega
      have f2 : (0 : Int) ≤ (k : Int) := by omega
      have f6 : IntKind.i64.wrap ((k : Int) + 1) = ((k + 1 : Nat) : Int) := by rw [IntWalk.i64_in _ (by omega)] <;> omega
      have g := urows_get l hk
      have h42 := e42 now (urow l k) (by omega)
      by_cases h2 : PuOk now (urow l k)
      · by_cases h4 : 0 < k
        · have g' := urows_get l (show k - 1 < l.length by omega)
          have f3 : IntKind.i64.wrap ((k : Int) - 1) = ((k - 1 : Nat) : Int) := by rw [IntWalk.i64_in _ (by omega)] <;> omega
          have f4 : (0 : Int) < (k : Int) := by omega
          have f5 : (0 : Int) ≤ ((k - 1 : Nat) : Int) := by omega
          by_cases h5 : (urow l k).num ≤ (urow l (k - 1)).num
          · rw [decide_eq_false (UFrom.not hk fun h => by have := h.2 h4; omega)]
            simp only [RB, pickV, eqbV, notV, negV, convV, faddrV, fldV, idxV, eqaggV, iaddrV, isnilV, nilckV, cloV, extrV, slenV, minV, sidxV, abin, cmpInt, params, growLists, fillCells, newAt, rdPtr, wrPtr, AV.cells, asVal, lenOf, boundOf, rowsOf, argIds, freshIn, scalar1, setAll, AV.isData, AV.isYld, Nat.reduceAdd, Nat.reduceMul, Nat.reduceSub, Nat.reduceEqDiff, Nat.reduceLeDiff, Nat.reduceLT, Int.reduceNeg, ↓reduceIte, reduceCtorEq, Int.reduceEq, Int.reduceLT, Int.reduceLE, Int.reduceBEq, Int.reduceBNe, Int.reduceToNat, IntKind.bits, Int.reduceAdd, Int.reduceSub, Int.reduceMul, Int.reduceTDiv, Int.reduceTMod, R7B, uv_len, uv_data, uv_p, uv_0, uv_1, uv_2, uv_3, uv_oo, uv_snap, w_0, w_1, w_2, urows_len, f1, f2, f3, f4, f5, g, g', h42, h2, h5]
          · simp only [RB, pickV, eqbV, notV, negV, convV, faddrV, fldV, idxV, eqaggV, iaddrV, isnilV, nilckV, cloV, extrV, slenV, minV, sidxV, abin, cmpInt, params, growLists, fillCells, newAt, rdPtr, wrPtr, AV.cells, asVal, lenOf, boundOf, rowsOf, argIds, freshIn, scalar1, setAll, AV.isData, AV.isYld, Nat.reduceAdd, Nat.reduceMul, Nat.reduceSub, Nat.reduceEqDiff, Nat.reduceLeDiff, Nat.reduceLT, Int.reduceNeg, ↓reduceIte, reduceCtorEq, Int.reduceEq, Int.reduceLT, Int.reduceLE, Int.reduceBEq, Int.reduceBNe, Int.reduceToNat, IntKind.bits, Int.reduceAdd, Int.reduceSub, Int.reduceMul, Int.reduceTDiv, Int.reduceTMod, R7B, uv_len, uv_data, uv_p, uv_0, uv_1, uv_2, uv_3, uv_oo, uv_snap, w_0, w_1, w_2, urows_len, f1, f2, f3, f4, f5, f6, g, g', h42, h2, h5]
            rw [ih (k + 1) (by omega)]
            rw [decide_eq_decide.2 (UFrom.next (show URow now l k from ⟨h2, fun _ => by omega⟩))]
        · have f4 : ¬ (0 : Int) < (k : Int) := by omega
          simp only [RB, pickV, eqbV, notV, negV, convV, faddrV, fldV, idxV, eqaggV, iaddrV, isnilV, nilckV, cloV, extrV, slenV, minV, sidxV, abin, cmpInt, params, growLists, fillCells, newAt, rdPtr, wrPtr, AV.cells, asVal, lenOf, boundOf, rowsOf, argIds, freshIn, scalar1, setAll, AV.isData, AV.isYld, Nat.reduceAdd, Nat.reduceMul, Nat.reduceSub, Nat.reduceEqDiff, Nat.reduceLeDiff, Nat.reduceLT, Int.reduceNeg, ↓reduceIte, reduceCtorEq, Int.reduceEq, Int.reduceLT, Int.reduceLE, Int.reduceBEq, Int.reduceBNe, Int.reduceToNat, IntKind.bits, Int.reduceAdd, Int.reduceSub, Int.reduceMul, Int.reduceTDiv, Int.reduceTMod, R7B, uv_len, uv_data, uv_p, uv_0, uv_1, uv_2, uv_3, uv_oo, uv_snap, w_0, w_1, w_2, urows_len, f1, f2, f4, f6, g, h42, h2]
          rw [ih (k + 1) (by omega)]
          rw [decide_eq_decide.2 (UFrom.next (show URow now l k from ⟨h2, fun h => absurd h h4⟩))]
      · rw [decide_eq_false (UFrom.not hk fun h => h2 h.1)]
        simp only [RB, pickV, eqbV, notV, negV, convV, faddrV, fldV, idxV, eqaggV, iaddrV, isnilV, nilckV, cloV, extrV, slenV, minV, sidxV, abin, cmpInt, params, growLists, fillCells, newAt, rdPtr, wrPtr, AV.cells, asVal, lenOf, boundOf, rowsOf, argIds, freshIn, scalar1, setAll, AV.isData, AV.isYld, Nat.reduceAdd, Nat.reduceMul, Nat.reduceSub, Nat.reduceEqDiff, Nat.reduceLeDiff, Nat.reduceLT, Int.reduceNeg, ↓reduceIte, reduceCtorEq, Int.reduceEq, Int.reduceLT, Int.reduceLE, Int.reduceBEq, Int.reduceBNe, Int.reduceToNat, IntKind.bits, Int.reduceAdd, Int.reduceSub, Int.reduceMul, Int.reduceTDiv, Int.reduceTMod, R7B, uv_len, uv_data, uv_p, uv_0, uv_1, uv_2, uv_3, uv_oo, uv_snap, w_0, w_1, w_2, urows_len, f1, f2, g, h42, h2]
    · rw [decide_eq_true (UFrom.done (by omega))]
      simp only [RB, pickV, eqbV, notV, negV, convV, faddrV, fldV, idxV, eqaggV, iaddrV, isnilV, nilckV, cloV, extrV, slenV, minV, sidxV, abin, cmpInt, params, growLists, fillCells, newAt, rdPtr, wrPtr, AV.cells, asVal, lenOf, boundOf, rowsOf, argIds, freshIn, scalar1, setAll, AV.isData, AV.isYld, Nat.reduceAdd, Nat.reduceMul, Nat.reduceSub, Nat.reduceEqDiff, Nat.reduceLeDiff, Nat.reduceLT, Int.reduceNeg, ↓reduceIte, reduceCtorEq, Int.reduceEq, Int.reduceLT, Int.reduceLE, Int.reduceBEq, Int.reduceBNe, Int.reduceToNat, IntKind.bits, Int.reduceAdd, Int.reduceSub, Int.reduceMul, Int.reduceTDiv, Int.reduceTMod, R7B, uv_len, uv_data, uv_p, uv_0, uv_1, uv_2, uv_3, uv_oo, uv_snap, w_0, w_1, w_2, urows_len, show ¬ (k : Int) < (l.length : Int) by omega]
end Go.Proofs.Ytabadcnpmfafnaa.F
