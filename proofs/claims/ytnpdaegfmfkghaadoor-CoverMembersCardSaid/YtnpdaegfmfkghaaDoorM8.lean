/- Part 8 of the proofs of these statements. No condition. -/
import Derived.Test.YtnpdaegfmfkghaaDoorM7
import Derived.Test.YtnpdaegfmfkghaaDoorProg
import Derived.KernelRfl
set_option linter.unusedVariables false
set_option linter.unusedSimpArgs false
/- Functions in the evaluator's form, 2. No condition. -/
namespace Go.Proofs.YtnpdaegfmfkghaaDoor.F
open Go Go.Proofs.YtnpdaegfmfkghaaDoor.A
/-- junctionbox/cover.Has -/
def f28 : AFunc :=
⟨2, [.t 4], (.seq (.region 1 [⟨some 3, .box 35 17 (.t 1) [], none, 0⟩, ⟨some 4, .mv (.c (.bool false)), none, 0⟩] false []) (.seq (.region 0 [⟨some 5, .mv (.t 0), none, 0⟩, ⟨some 6, .clo 51 [.t 3], none, 0⟩, ⟨some 7, .callR (.c (.clo 50 [])) [.t 5, .t 6] 0, none, 0⟩, ⟨some 4, .mv (.t 7), none, 0⟩] false []) .ret)), false⟩
theorem c28 : cFunc Tryd.prog G f28 Tryd.f28 = some f28 := by kernel_rfl
/-- slices.Equal[[]junctionbox/api.Prefix,junctionbox/api.Prefix] -/
def f29 : AFunc :=
⟨2, [.t 4], (.seq (.region 0 [⟨some 4, .mv (.c (.bool false)), none, 0⟩] false []) (.seq (.seq (.region 0 [⟨some 6, .mv (.t 0), none, 0⟩, ⟨some 7, .len (.t 6), none, 0⟩, ⟨some 8, .mv (.t 1), none, 0⟩, ⟨some 9, .len (.t 8), none, 0⟩, ⟨some 10, .bin .neq (.t 7) (.t 9), none, 0⟩] false []) (.cond (.t 10) (.seq (.region 0 [⟨some 4, .mv (.c (.bool false)), none, 0⟩] false []) .ret) .skip)) (.seq (.seq (.region 0 [⟨some 11, .mv (.t 0), none, 0⟩, ⟨some 12, .len (.t 11), none, 0⟩, ⟨some 13, .mv (.c (.int .i64 0)), none, 0⟩] false []) (.block 0 (.loop [0, 1, 12, 13] (.seq (.region 0 [⟨some 14, .bin .lss (.t 13) (.t 12), none, 0⟩] false []) (.seq (.cond (.t 14) .skip (.exit 0)) (.seq (.block 1 (.seq (.region 0 [⟨some 15, .mv (.t 13), none, 0⟩, ⟨some 5, .mv (.t 15), none, 0⟩] false []) (.seq (.region 0 [⟨some 16, .mv (.t 0), none, 0⟩, ⟨some 17, .mv (.t 5), none, 0⟩, ⟨some 18, .iaddr 18 none (.t 16) (.t 17), none, 0⟩, ⟨some 19, .load 18 true (.t 18), none, 0⟩, ⟨some 20, .mv (.t 1), none, 0⟩, ⟨some 21, .mv (.t 5), none, 0⟩, ⟨some 22, .iaddr 18 none (.t 20) (.t 21), none, 0⟩, ⟨some 23, .load 18 true (.t 22), none, 0⟩, ⟨some 24, .eqagg true [1, 1, 1, 1, 1, 1, 1, 1, 1, 1, 1, 1, 1, 1, 1, 1, 1, 1] (.t 19) (.t 23), none, 0⟩] true []) (.cond (.t 24) (.seq (.region 0 [⟨some 4, .mv (.c (.bool false)), none, 0⟩] false []) .ret) .skip)))) (.region 0 [⟨some 25, .bin .add (.t 13) (.c (.int .i64 1)), none, 0⟩, ⟨some 13, .mv (.t 25), none, 0⟩] false []))))))) (.seq (.region 0 [⟨some 4, .mv (.c (.bool true)), none, 0⟩] false []) .ret)))), false⟩
theorem c29 : cFunc Tryd.prog G f29 Tryd.f29 = some f29 := by kernel_rfl
/-- junctionbox/cover.Within -/
def f30 : AFunc :=
⟨2, [.t 4, .t 5], (.seq (.region 0 [⟨some 4, .mv (.c (.bool false)), none, 0⟩, ⟨some 5, .mv (.c (.int .i64 0)), none, 0⟩] false []) (.seq (.region 1 [⟨some 9, .mv (.t 0), none, 0⟩, ⟨some 10, .mv (.t 1), none, 0⟩, ⟨some 11, .callV 24 [.t 9, .t 10] 1, none, 0⟩, ⟨some 8, .mv (.t 11), none, 0⟩, ⟨some 12, .extr (.t 8) 0, none, 0⟩, ⟨some 13, .extr (.t 8) 1, none, 0⟩, ⟨some 6, .mv (.t 12), none, 0⟩, ⟨some 7, .mv (.t 13), none, 0⟩] false []) (.seq (.region 0 [⟨some 14, .mv (.t 7), none, 0⟩, ⟨some 15, .bin .eql (.t 14) (.c (.int .i64 0)), none, 0⟩, ⟨some 16, .mv (.t 15), none, 0⟩, ⟨some 17, .mv (.t 6), some (16, true), 0⟩, ⟨some 18, .mv (.t 0), some (16, true), 0⟩, ⟨some 19, .callV 29 [.t 17, .t 18] 0, some (16, true), 0⟩, ⟨some 20, .pick (.t 16) (.t 19) (.c (.bool false)), none, 0⟩, ⟨some 21, .mv (.t 7), none, 0⟩, ⟨some 4, .mv (.t 20), none, 0⟩, ⟨some 5, .mv (.t 21), none, 0⟩] false []) .ret))), false⟩
theorem c30 : cFunc Tryd.prog G f30 Tryd.f30 = some f30 := by kernel_rfl
/-- junctionbox/junctionboxlaw24.four -/
def f31 : AFunc :=
⟨3, [.cell 6 18 true], (.seq (.region 1 [⟨some 6, .alloc 37 [.int .i64 0, .int .u8 0, .int .u8 0, .int .u8 0, .int .u8 0, .int .u8 0, .int .u8 0, .int .u8 0, .int .u8 0, .int .u8 0, .int .u8 0, .int .u8 0, .int .u8 0, .int .u8 0, .int .u8 0, .int .u8 0, .int .u8 0, .int .i64 0] [], none, 0⟩] false []) (.seq (.region 1 [⟨some 8, .build [.int .i64 0, .int .u8 0, .int .u8 0, .int .u8 0, .int .u8 0, .int .u8 0, .int .u8 0, .int .u8 0, .int .u8 0, .int .u8 0, .int .u8 0, .int .u8 0, .int .u8 0, .int .u8 0, .int .u8 0, .int .u8 0, .int .u8 0] [(0, 1, .c (.int .i64 4))] [], none, 0⟩, ⟨some 9, .mv (.t 2), none, 0⟩, ⟨some 10, .build [.int .i64 0, .int .u8 0, .int .u8 0, .int .u8 0, .int .u8 0, .int .u8 0, .int .u8 0, .int .u8 0, .int .u8 0, .int .u8 0, .int .u8 0, .int .u8 0, .int .u8 0, .int .u8 0, .int .u8 0, .int .u8 0, .int .u8 0, .int .i64 0] [(0, 17, .t 8), (17, 1, .t 9)] [], none, 0⟩, ⟨some 7, .alloc 37 [.int .i64 0, .int .u8 0, .int .u8 0, .int .u8 0, .int .u8 0, .int .u8 0, .int .u8 0, .int .u8 0, .int .u8 0, .int .u8 0, .int .u8 0, .int .u8 0, .int .u8 0, .int .u8 0, .int .u8 0, .int .u8 0, .int .u8 0, .int .i64 0] [], none, 0⟩, ⟨none, .store 18 (.t 7) (.t 10), none, 0⟩] false []) (.seq (.region 0 [⟨some 11, .mv (.t 0), none, 0⟩, ⟨some 12, .mv (.t 1), none, 0⟩, ⟨some 13, .faddr 0 (.t 7), none, 0⟩, ⟨some 14, .faddr 1 (.t 13), none, 0⟩, ⟨some 15, .iaddr 1 (some 16) (.t 14) (.c (.int .i64 0)), none, 0⟩, ⟨none, .store 1 (.t 15) (.t 11), none, 0⟩, ⟨some 16, .faddr 0 (.t 7), none, 0⟩, ⟨some 17, .faddr 1 (.t 16), none, 0⟩, ⟨some 18, .iaddr 1 (some 16) (.t 17) (.c (.int .i64 1)), none, 0⟩, ⟨none, .store 1 (.t 18) (.t 12), none, 0⟩] false []) (.seq (.region 0 [⟨some 19, .load 18 true (.t 7), none, 0⟩, ⟨none, .store 18 (.t 6) (.t 19), none, 0⟩] false []) .ret)))), false⟩
theorem c31 : cFunc Tryd.prog G f31 Tryd.f31 = some f31 := by kernel_rfl
/-- junctionbox/cover.wrong -/
def f32 : AFunc :=
⟨1, [.t 2], (.seq (.region 0 [⟨some 2, .mv (.c (.bool false)), none, 0⟩] false []) (.seq (.region 0 [⟨some 3, .mv (.t 0), none, 0⟩, ⟨some 4, .callR (.c (.clo 50 [])) [.t 3, .c (.clo 52 [])] 0, none, 0⟩, ⟨some 2, .mv (.t 4), none, 0⟩] false []) .ret)), false⟩
theorem c32 : cFunc Tryd.prog G f32 Tryd.f32 = some f32 := by kernel_rfl
/-- junctionbox/cover.one -/
def f33 : AFunc :=
⟨1, [.t 2], (.seq (.region 1 [⟨some 2, .newl 37 18, none, 0⟩] false []) (.seq (.region 1 [⟨some 9, .mv (.t 0), none, 0⟩, ⟨some 10, .callV 53 [.t 9] 1, none, 0⟩, ⟨some 3, .mv (.t 10), none, 0⟩] false []) (.seq (.region 0 [⟨some 11, .mv (.t 3), none, 0⟩, ⟨some 12, .callR (.c (.clo 54 [])) [.t 11, .c (.clo 55 [])] 0, none, 0⟩] false []) (.seq (.region 1 [⟨some 4, .newl 37 18, none, 0⟩] false []) (.seq (.seq (.region 0 [⟨some 13, .mv (.t 3), none, 0⟩, ⟨some 14, .len (.t 13), none, 0⟩, ⟨some 15, .mv (.c (.int .i64 0)), none, 0⟩] false []) (.block 0 (.loop [4, 13, 14, 15] (.seq (.region 0 [⟨some 16, .bin .lss (.t 15) (.t 14), none, 0⟩] false []) (.seq (.cond (.t 16) .skip (.exit 0)) (.seq (.block 1 (.seq (.region 1 [⟨some 17, .iaddr 18 none (.t 13) (.t 15), none, 0⟩, ⟨some 18, .load 18 true (.t 17), none, 0⟩, ⟨some 6, .alloc 37 [.int .i64 0, .int .u8 0, .int .u8 0, .int .u8 0, .int .u8 0, .int .u8 0, .int .u8 0, .int .u8 0, .int .u8 0, .int .u8 0, .int .u8 0, .int .u8 0, .int .u8 0, .int .u8 0, .int .u8 0, .int .u8 0, .int .u8 0, .int .i64 0] [], none, 0⟩, ⟨none, .store 18 (.t 6) (.t 18), none, 0⟩] false []) (.seq (.seq (.region 0 [⟨some 19, .mv (.t 4), none, 0⟩, ⟨some 20, .len (.t 19), none, 0⟩, ⟨some 7, .mv (.t 20), none, 0⟩] false []) (.seq (.region 0 [⟨some 21, .mv (.t 7), none, 0⟩, ⟨some 22, .bin .gtr (.t 21) (.c (.int .i64 0)), none, 0⟩, ⟨some 23, .mv (.t 22), none, 0⟩, ⟨some 24, .mv (.t 4), some (23, true), 0⟩, ⟨some 25, .mv (.t 7), some (23, true), 0⟩, ⟨some 26, .bin .sub (.t 25) (.c (.int .i64 1)), some (23, true), 0⟩, ⟨some 27, .iaddr 18 none (.t 24) (.t 26), some (23, true), 0⟩, ⟨some 28, .load 18 true (.t 27), some (23, true), 0⟩, ⟨some 29, .load 18 true (.t 6), some (23, true), 0⟩, ⟨some 30, .callV 19 [.t 28, .t 29] 0, some (23, true), 0⟩, ⟨some 31, .pick (.t 23) (.t 30) (.c (.bool false)), none, 0⟩] true []) (.cond (.t 31) (.exit 1) .skip))) (.seq (.region 2 [⟨some 32, .mv (.t 4), none, 0⟩, ⟨some 33, .load 18 true (.t 6), none, 0⟩, ⟨some 34, .buildSl 37 18 [.int .i64 0, .int .u8 0, .int .u8 0, .int .u8 0, .int .u8 0, .int .u8 0, .int .u8 0, .int .u8 0, .int .u8 0, .int .u8 0, .int .u8 0, .int .u8 0, .int .u8 0, .int .u8 0, .int .u8 0, .int .u8 0, .int .u8 0, .int .i64 0] 1 [(0, .t 33)] false, none, 0⟩, ⟨some 35, .append 37 18 32 (.t 32) (.t 34), none, 1⟩, ⟨some 4, .mv (.t 35), none, 0⟩] false []) (.seq (.region 0 [⟨some 36, .mv (.t 4), none, 0⟩, ⟨some 37, .len (.t 36), none, 0⟩, ⟨some 8, .mv (.t 37), none, 0⟩] false []) (.block 2 (.loop [4, 8, 13, 14, 15] (.seq (.seq (.region 0 [⟨some 38, .mv (.t 8), none, 0⟩, ⟨some 39, .bin .gtr (.t 38) (.c (.int .i64 1)), none, 0⟩, ⟨some 40, .mv (.t 39), none, 0⟩, ⟨some 41, .mv (.t 4), some (40, true), 0⟩, ⟨some 42, .mv (.t 8), some (40, true), 0⟩, ⟨some 43, .bin .sub (.t 42) (.c (.int .i64 1)), some (40, true), 0⟩, ⟨some 44, .iaddr 18 none (.t 41) (.t 43), some (40, true), 0⟩, ⟨some 45, .faddr 17 (.t 44), some (40, true), 0⟩, ⟨some 46, .load 1 false (.t 45), some (40, true), 0⟩, ⟨some 47, .bin .gtr (.t 46) (.c (.int .i64 0)), some (40, true), 0⟩, ⟨some 48, .pick (.t 40) (.t 47) (.c (.bool false)), none, 0⟩, ⟨some 49, .mv (.t 48), none, 0⟩, ⟨some 50, .mv (.t 4), some (49, true), 0⟩, ⟨some 51, .mv (.t 8), some (49, true), 0⟩, ⟨some 52, .bin .sub (.t 51) (.c (.int .i64 2)), some (49, true), 0⟩, ⟨some 53, .iaddr 18 none (.t 50) (.t 52), some (49, true), 0⟩, ⟨some 54, .load 18 true (.t 53), some (49, true), 0⟩, ⟨some 55, .mv (.t 4), some (49, true), 0⟩, ⟨some 56, .mv (.t 8), some (49, true), 0⟩, ⟨some 57, .bin .sub (.t 56) (.c (.int .i64 1)), some (49, true), 0⟩, ⟨some 58, .iaddr 18 none (.t 55) (.t 57), some (49, true), 0⟩, ⟨some 59, .load 18 true (.t 58), some (49, true), 0⟩, ⟨some 60, .callV 56 [.t 59] 0, some (49, true), 0⟩, ⟨some 61, .eqagg false [1, 1, 1, 1, 1, 1, 1, 1, 1, 1, 1, 1, 1, 1, 1, 1, 1, 1] (.t 54) (.t 60), some (49, true), 0⟩, ⟨some 62, .pick (.t 49) (.t 61) (.c (.bool false)), none, 0⟩] true []) (.cond (.t 62) .skip (.exit 2))) (.seq (.block 3 (.region 2 [⟨some 65, .mv (.t 4), none, 0⟩, ⟨some 66, .mv (.t 8), none, 0⟩, ⟨some 67, .bin .sub (.t 66) (.c (.int .i64 2)), none, 0⟩, ⟨some 68, .slice 18 (.t 65) none (some (.t 67)) none, none, 0⟩, ⟨some 69, .mv (.t 4), none, 0⟩, ⟨some 70, .mv (.t 8), none, 0⟩, ⟨some 71, .bin .sub (.t 70) (.c (.int .i64 1)), none, 0⟩, ⟨some 72, .iaddr 18 none (.t 69) (.t 71), none, 0⟩, ⟨some 73, .load 18 true (.t 72), none, 0⟩, ⟨some 74, .callV 36 [.t 73] 0, none, 0⟩, ⟨some 75, .buildSl 37 18 [.int .i64 0, .int .u8 0, .int .u8 0, .int .u8 0, .int .u8 0, .int .u8 0, .int .u8 0, .int .u8 0, .int .u8 0, .int .u8 0, .int .u8 0, .int .u8 0, .int .u8 0, .int .u8 0, .int .u8 0, .int .u8 0, .int .u8 0, .int .i64 0] 1 [(0, .t 74)] false, none, 0⟩, ⟨some 76, .append 37 18 32 (.t 68) (.t 75), none, 1⟩, ⟨some 4, .mv (.t 76), none, 0⟩] true [])) (.region 0 [⟨some 63, .mv (.t 4), none, 0⟩, ⟨some 64, .len (.t 63), none, 0⟩, ⟨some 8, .mv (.t 64), none, 0⟩] false [])))))))))) (.region 0 [⟨some 77, .bin .add (.t 15) (.c (.int .i64 1)), none, 0⟩, ⟨some 15, .mv (.t 77), none, 0⟩] false []))))))) (.seq (.region 0 [⟨some 78, .mv (.t 4), none, 0⟩, ⟨some 2, .mv (.t 78), none, 0⟩] false []) .ret)))))), true⟩
theorem c33 : cFunc Tryd.prog G f33 Tryd.f33 = some f33 := by kernel_rfl
/-- junctionbox/junctionboxref05.Right -/
def f34 : AFunc :=
⟨1, [.t 2], (.seq (.region 1 [⟨some 1, .box 37 18 (.t 0) [], none, 0⟩, ⟨some 2, .mv (.c (.bool false)), none, 0⟩] false []) (.seq (.seq (.region 0 [⟨some 4, .faddr 0 (.t 1), none, 0⟩, ⟨some 5, .load 17 true (.t 4), none, 0⟩, ⟨some 6, .callV 57 [.t 5] 0, none, 0⟩, ⟨some 7, .not (.t 6), none, 0⟩, ⟨some 8, .mv (.t 7), none, 0⟩, ⟨some 9, .faddr 17 (.t 1), some (8, false), 0⟩, ⟨some 10, .load 1 false (.t 9), some (8, false), 0⟩, ⟨some 11, .bin .lss (.t 10) (.c (.int .i64 0)), some (8, false), 0⟩, ⟨some 12, .pick (.t 8) (.c (.bool true)) (.t 11), none, 0⟩, ⟨some 13, .mv (.t 12), none, 0⟩, ⟨some 14, .faddr 17 (.t 1), some (13, false), 0⟩, ⟨some 15, .load 1 false (.t 14), some (13, false), 0⟩, ⟨some 16, .faddr 0 (.t 1), some (13, false), 0⟩, ⟨some 17, .faddr 0 (.t 16), some (13, false), 0⟩, ⟨some 18, .load 1 false (.t 17), some (13, false), 0⟩, ⟨some 19, .callV 58 [.t 18] 0, some (13, false), 0⟩, ⟨some 20, .bin .gtr (.t 15) (.t 19), some (13, false), 0⟩, ⟨some 21, .pick (.t 13) (.c (.bool true)) (.t 20), none, 0⟩] true []) (.cond (.t 21) (.seq (.region 0 [⟨some 2, .mv (.c (.bool false)), none, 0⟩] false []) .ret) .skip)) (.seq (.seq (.region 0 [⟨some 22, .faddr 17 (.t 1), none, 0⟩, ⟨some 23, .load 1 false (.t 22), none, 0⟩, ⟨some 3, .mv (.t 23), none, 0⟩] false []) (.block 0 (.loop [1, 3] (.seq (.seq (.region 0 [⟨some 24, .mv (.t 3), none, 0⟩, ⟨some 25, .bin .lss (.t 24) (.c (.int .i64 128)), none, 0⟩] false []) (.cond (.t 25) .skip (.exit 0))) (.seq (.block 1 (.seq (.region 0 [⟨some 28, .faddr 0 (.t 1), none, 0⟩, ⟨some 29, .faddr 1 (.t 28), none, 0⟩, ⟨some 30, .load 16 true (.t 29), none, 0⟩, ⟨some 31, .mv (.t 3), none, 0⟩, ⟨some 32, .callV 59 [.t 30, .t 31] 0, none, 0⟩, ⟨some 33, .bin .eql (.t 32) (.c (.int .i64 1)), none, 0⟩] false []) (.cond (.t 33) (.seq (.region 0 [⟨some 2, .mv (.c (.bool false)), none, 0⟩] false []) .ret) .skip))) (.region 0 [⟨some 26, .mv (.t 3), none, 0⟩, ⟨some 27, .bin .add (.t 26) (.c (.int .i64 1)), none, 0⟩, ⟨some 3, .mv (.t 27), none, 0⟩] false [])))))) (.seq (.region 0 [⟨some 2, .mv (.c (.bool true)), none, 0⟩] false []) .ret)))), false⟩
theorem c34 : cFunc Tryd.prog G f34 Tryd.f34 = some f34 := by kernel_rfl
/-- junctionbox/junctionboxref24.within -/
def f35 : AFunc :=
⟨4, [.t 8], (.seq (.region 2 [⟨some 7, .box 37 18 (.t 3) [], none, 0⟩, ⟨some 8, .newl 37 18, none, 1⟩] false []) (.seq (.seq (.region 0 [⟨some 13, .mv (.t 0), none, 0⟩, ⟨some 14, .mv (.t 1), none, 0⟩, ⟨some 15, .load 18 true (.t 7), none, 0⟩, ⟨some 16, .callV 61 [.t 14, .t 15] 0, none, 0⟩, ⟨some 17, .mv (.t 2), none, 0⟩, ⟨some 18, .load 18 true (.t 7), none, 0⟩, ⟨some 19, .callV 61 [.t 17, .t 18] 0, none, 0⟩, ⟨some 20, .callV 60 [.t 13, .t 16, .t 19] 0, none, 0⟩] true []) (.block 0 (.seq (.region 0 [⟨some 22, .bin .eql (.t 20) (.c (.int .i64 0)), none, 0⟩, ⟨some 21, .mv (.t 22), none, 0⟩] false []) (.cond (.t 21) (.seq (.region 1 [⟨some 8, .newl 37 18, none, 0⟩] false []) .ret) (.seq (.region 0 [⟨some 24, .bin .eql (.t 20) (.c (.int .i64 2)), none, 0⟩, ⟨some 23, .mv (.t 24), none, 0⟩] false []) (.cond (.t 23) (.seq (.region 1 [⟨some 25, .load 18 true (.t 7), none, 0⟩, ⟨some 26, .buildSl 37 18 [.int .i64 0, .int .u8 0, .int .u8 0, .int .u8 0, .int .u8 0, .int .u8 0, .int .u8 0, .int .u8 0, .int .u8 0, .int .u8 0, .int .u8 0, .int .u8 0, .int .u8 0, .int .u8 0, .int .u8 0, .int .u8 0, .int .u8 0, .int .i64 0] 1 [(0, .t 25)] true, none, 0⟩, ⟨some 8, .mv (.t 26), none, 0⟩] false []) .ret) .skip)))))) (.seq (.region 2 [⟨some 28, .load 18 true (.t 7), none, 0⟩, ⟨some 29, .callV 62 [.t 28] 0, none, 0⟩, ⟨some 27, .mv (.t 29), none, 0⟩, ⟨some 30, .extr (.t 27) 0, none, 0⟩, ⟨some 31, .extr (.t 27) 1, none, 0⟩, ⟨some 9, .alloc 37 [.int .i64 0, .int .u8 0, .int .u8 0, .int .u8 0, .int .u8 0, .int .u8 0, .int .u8 0, .int .u8 0, .int .u8 0, .int .u8 0, .int .u8 0, .int .u8 0, .int .u8 0, .int .u8 0, .int .u8 0, .int .u8 0, .int .u8 0, .int .i64 0] [], none, 0⟩, ⟨some 10, .alloc 37 [.int .i64 0, .int .u8 0, .int .u8 0, .int .u8 0, .int .u8 0, .int .u8 0, .int .u8 0, .int .u8 0, .int .u8 0, .int .u8 0, .int .u8 0, .int .u8 0, .int .u8 0, .int .u8 0, .int .u8 0, .int .u8 0, .int .u8 0, .int .i64 0] [], none, 1⟩, ⟨none, .store 18 (.t 9) (.t 30), none, 0⟩, ⟨none, .store 18 (.t 10) (.t 31), none, 0⟩] false []) (.seq (.region 2 [⟨some 32, .mv (.t 0), none, 0⟩, ⟨some 33, .mv (.t 1), none, 0⟩, ⟨some 34, .mv (.t 2), none, 0⟩, ⟨some 35, .load 18 true (.t 9), none, 0⟩, ⟨some 36, .callV 35 [.t 32, .t 33, .t 34, .t 35] 2, none, 0⟩, ⟨some 37, .mv (.t 0), none, 0⟩, ⟨some 38, .mv (.t 1), none, 0⟩, ⟨some 39, .mv (.t 2), none, 0⟩, ⟨some 40, .load 18 true (.t 10), none, 0⟩, ⟨some 41, .callV 35 [.t 37, .t 38, .t 39, .t 40] 2, none, 1⟩, ⟨some 11, .mv (.t 36), none, 0⟩, ⟨some 12, .mv (.t 41), none, 0⟩] true [(.t 10, .c .undef, 0)]) (.seq (.seq (.region 0 [⟨some 42, .mv (.t 11), none, 0⟩, ⟨some 43, .len (.t 42), none, 0⟩, ⟨some 44, .bin .eql (.t 43) (.c (.int .i64 1)), none, 0⟩, ⟨some 45, .mv (.t 44), none, 0⟩, ⟨some 46, .mv (.t 12), some (45, true), 0⟩, ⟨some 47, .len (.t 46), some (45, true), 0⟩, ⟨some 48, .bin .eql (.t 47) (.c (.int .i64 1)), some (45, true), 0⟩, ⟨some 49, .pick (.t 45) (.t 48) (.c (.bool false)), none, 0⟩, ⟨some 50, .mv (.t 49), none, 0⟩, ⟨some 51, .mv (.t 11), some (50, true), 0⟩, ⟨some 52, .iaddr 18 none (.t 51) (.c (.int .i64 0)), some (50, true), 0⟩, ⟨some 53, .load 18 true (.t 52), some (50, true), 0⟩, ⟨some 54, .load 18 true (.t 9), some (50, true), 0⟩, ⟨some 55, .eqagg false [1, 1, 1, 1, 1, 1, 1, 1, 1, 1, 1, 1, 1, 1, 1, 1, 1, 1] (.t 53) (.t 54), some (50, true), 0⟩, ⟨some 56, .pick (.t 50) (.t 55) (.c (.bool false)), none, 0⟩, ⟨some 57, .mv (.t 56), none, 0⟩, ⟨some 58, .mv (.t 12), some (57, true), 0⟩, ⟨some 59, .iaddr 18 none (.t 58) (.c (.int .i64 0)), some (57, true), 0⟩, ⟨some 60, .load 18 true (.t 59), some (57, true), 0⟩, ⟨some 61, .load 18 true (.t 10), some (57, true), 0⟩, ⟨some 62, .eqagg false [1, 1, 1, 1, 1, 1, 1, 1, 1, 1, 1, 1, 1, 1, 1, 1, 1, 1] (.t 60) (.t 61), some (57, true), 0⟩, ⟨some 63, .pick (.t 57) (.t 62) (.c (.bool false)), none, 0⟩] true []) (.cond (.t 63) (.seq (.region 1 [⟨some 64, .load 18 true (.t 7), none, 0⟩, ⟨some 65, .buildSl 37 18 [.int .i64 0, .int .u8 0, .int .u8 0, .int .u8 0, .int .u8 0, .int .u8 0, .int .u8 0, .int .u8 0, .int .u8 0, .int .u8 0, .int .u8 0, .int .u8 0, .int .u8 0, .int .u8 0, .int .u8 0, .int .u8 0, .int .u8 0, .int .i64 0] 1 [(0, .t 64)] true, none, 0⟩, ⟨some 8, .mv (.t 65), none, 0⟩] false []) .ret) .skip)) (.seq (.region 1 [⟨some 66, .mv (.t 11), none, 0⟩, ⟨some 67, .mv (.t 12), none, 0⟩, ⟨some 68, .append 37 18 32 (.t 66) (.t 67), none, 0⟩, ⟨some 8, .mv (.t 68), none, 0⟩] false []) .ret)))))), true⟩
theorem c35 : cFunc Tryd.prog G f35 Tryd.f35 = some f35 := by kernel_rfl
/-- junctionbox/cover.up -/
def f36 : AFunc :=
⟨1, [.cell 2 18 true], (.seq (.region 2 [⟨some 1, .box 37 18 (.t 0) [], none, 0⟩, ⟨some 2, .alloc 37 [.int .i64 0, .int .u8 0, .int .u8 0, .int .u8 0, .int .u8 0, .int .u8 0, .int .u8 0, .int .u8 0, .int .u8 0, .int .u8 0, .int .u8 0, .int .u8 0, .int .u8 0, .int .u8 0, .int .u8 0, .int .u8 0, .int .u8 0, .int .i64 0] [], none, 1⟩] false []) (.seq (.region 1 [⟨some 6, .faddr 0 (.t 1), none, 0⟩, ⟨some 7, .load 17 true (.t 6), none, 0⟩, ⟨some 8, .faddr 17 (.t 1), none, 0⟩, ⟨some 9, .load 1 false (.t 8), none, 0⟩, ⟨some 10, .bin .sub (.t 9) (.c (.int .i64 1)), none, 0⟩, ⟨some 11, .callV 21 [.t 7, .t 10] 0, none, 0⟩, ⟨some 5, .mv (.t 11), none, 0⟩, ⟨some 12, .extr (.t 5) 0, none, 0⟩, ⟨some 13, .extr (.t 5) 1, none, 0⟩, ⟨some 3, .alloc 37 [.int .i64 0, .int .u8 0, .int .u8 0, .int .u8 0, .int .u8 0, .int .u8 0, .int .u8 0, .int .u8 0, .int .u8 0, .int .u8 0, .int .u8 0, .int .u8 0, .int .u8 0, .int .u8 0, .int .u8 0, .int .u8 0, .int .u8 0, .int .i64 0] [], none, 0⟩, ⟨none, .store 18 (.t 3) (.t 12), none, 0⟩, ⟨some 4, .mv (.t 13), none, 0⟩] false []) (.seq (.region 0 [⟨some 14, .load 18 true (.t 3), none, 0⟩, ⟨none, .store 18 (.t 2) (.t 14), none, 0⟩] false []) .ret))), false⟩
theorem c36 : cFunc Tryd.prog G f36 Tryd.f36 = some f36 := by kernel_rfl
/-- junctionbox/prefix.Check -/
def f37 : AFunc :=
⟨1, [.t 2], (.seq (.region 1 [⟨some 1, .box 37 18 (.t 0) [], none, 0⟩, ⟨some 2, .mv (.c (.int .i64 0)), none, 0⟩] false []) (.seq (.seq (.region 0 [⟨some 3, .faddr 0 (.t 1), none, 0⟩, ⟨some 4, .load 17 true (.t 3), none, 0⟩, ⟨some 5, .callV 39 [.t 4] 0, none, 0⟩, ⟨some 6, .bin .neq (.t 5) (.c (.int .i64 0)), none, 0⟩, ⟨some 7, .mv (.t 6), none, 0⟩, ⟨some 8, .faddr 17 (.t 1), some (7, false), 0⟩, ⟨some 9, .load 1 false (.t 8), some (7, false), 0⟩, ⟨some 10, .bin .lss (.t 9) (.c (.int .i64 0)), some (7, false), 0⟩, ⟨some 11, .pick (.t 7) (.c (.bool true)) (.t 10), none, 0⟩, ⟨some 12, .mv (.t 11), none, 0⟩, ⟨some 13, .faddr 17 (.t 1), some (12, false), 0⟩, ⟨some 14, .load 1 false (.t 13), some (12, false), 0⟩, ⟨some 15, .faddr 0 (.t 1), some (12, false), 0⟩, ⟨some 16, .faddr 0 (.t 15), some (12, false), 0⟩, ⟨some 17, .load 1 false (.t 16), some (12, false), 0⟩, ⟨some 18, .callV 20 [.t 17] 0, some (12, false), 0⟩, ⟨some 19, .bin .gtr (.t 14) (.t 18), some (12, false), 0⟩, ⟨some 20, .pick (.t 12) (.c (.bool true)) (.t 19), none, 0⟩, ⟨some 21, .mv (.t 20), none, 0⟩, ⟨some 22, .faddr 0 (.t 1), some (21, false), 0⟩, ⟨some 23, .faddr 1 (.t 22), some (21, false), 0⟩, ⟨some 24, .load 16 true (.t 23), some (21, false), 0⟩, ⟨some 25, .faddr 17 (.t 1), some (21, false), 0⟩, ⟨some 26, .load 1 false (.t 25), some (21, false), 0⟩, ⟨some 27, .callV 63 [.t 24, .t 26] 0, some (21, false), 0⟩, ⟨some 28, .not (.t 27), some (21, false), 0⟩, ⟨some 29, .pick (.t 21) (.c (.bool true)) (.t 28), none, 0⟩] true []) (.cond (.t 29) (.seq (.region 0 [⟨some 2, .mv (.c (.int .i64 151)), none, 0⟩] false []) .ret) .skip)) (.seq (.region 0 [⟨some 2, .mv (.c (.int .i64 0)), none, 0⟩] false []) .ret))), false⟩
theorem c37 : cFunc Tryd.prog G f37 Tryd.f37 = some f37 := by kernel_rfl
/-- junctionbox/prefix.Has -/
def f38 : AFunc :=
⟨2, [.t 4], (.seq (.region 2 [⟨some 2, .box 37 18 (.t 0) [], none, 0⟩, ⟨some 3, .box 35 17 (.t 1) [], none, 1⟩, ⟨some 4, .mv (.c (.bool false)), none, 0⟩] false []) (.seq (.seq (.region 0 [⟨some 5, .load 18 true (.t 2), none, 0⟩, ⟨some 6, .callV 37 [.t 5] 0, none, 0⟩, ⟨some 7, .bin .neq (.t 6) (.c (.int .i64 0)), none, 0⟩, ⟨some 8, .mv (.t 7), none, 0⟩, ⟨some 9, .load 17 true (.t 3), some (8, false), 0⟩, ⟨some 10, .callV 39 [.t 9] 0, some (8, false), 0⟩, ⟨some 11, .bin .neq (.t 10) (.c (.int .i64 0)), some (8, false), 0⟩, ⟨some 12, .pick (.t 8) (.c (.bool true)) (.t 11), none, 0⟩, ⟨some 13, .mv (.t 12), none, 0⟩, ⟨some 14, .faddr 0 (.t 2), some (13, false), 0⟩, ⟨some 15, .faddr 0 (.t 14), some (13, false), 0⟩, ⟨some 16, .load 1 false (.t 15), some (13, false), 0⟩, ⟨some 17, .faddr 0 (.t 3), some (13, false), 0⟩, ⟨some 18, .load 1 false (.t 17), some (13, false), 0⟩, ⟨some 19, .bin .neq (.t 16) (.t 18), some (13, false), 0⟩, ⟨some 20, .pick (.t 13) (.c (.bool true)) (.t 19), none, 0⟩] false []) (.cond (.t 20) (.seq (.region 0 [⟨some 4, .mv (.c (.bool false)), none, 0⟩] false []) .ret) .skip)) (.seq (.region 0 [⟨some 21, .faddr 1 (.t 3), none, 0⟩, ⟨some 22, .load 16 true (.t 21), none, 0⟩, ⟨some 23, .faddr 17 (.t 2), none, 0⟩, ⟨some 24, .load 1 false (.t 23), none, 0⟩, ⟨some 25, .callV 40 [.t 22, .t 24] 0, none, 0⟩, ⟨some 26, .faddr 0 (.t 2), none, 0⟩, ⟨some 27, .faddr 1 (.t 26), none, 0⟩, ⟨some 28, .load 16 true (.t 27), none, 0⟩, ⟨some 29, .eqagg false [1, 1, 1, 1, 1, 1, 1, 1, 1, 1, 1, 1, 1, 1, 1, 1] (.t 25) (.t 28), none, 0⟩, ⟨some 4, .mv (.t 29), none, 0⟩] true []) .ret))), false⟩
theorem c38 : cFunc Tryd.prog G f38 Tryd.f38 = some f38 := by kernel_rfl
/-- junctionbox/prefix.CheckAddr -/
def f39 : AFunc :=
⟨1, [.t 2], (.seq (.region 1 [⟨some 1, .box 35 17 (.t 0) [], none, 0⟩, ⟨some 2, .mv (.c (.int .i64 0)), none, 0⟩] false []) (.seq (.seq (.region 0 [⟨some 4, .faddr 0 (.t 1), none, 0⟩, ⟨some 5, .load 1 false (.t 4), none, 0⟩, ⟨some 6, .callV 20 [.t 5] 0, none, 0⟩, ⟨some 3, .mv (.t 6), none, 0⟩] false []) (.seq (.region 0 [⟨some 7, .mv (.t 3), none, 0⟩, ⟨some 8, .bin .eql (.t 7) (.c (.int .i64 0)), none, 0⟩, ⟨some 9, .mv (.t 8), none, 0⟩, ⟨some 10, .faddr 1 (.t 1), some (9, false), 0⟩, ⟨some 11, .load 16 true (.t 10), some (9, false), 0⟩, ⟨some 12, .mv (.t 3), some (9, false), 0⟩, ⟨some 13, .callV 63 [.t 11, .t 12] 0, some (9, false), 0⟩, ⟨some 14, .not (.t 13), some (9, false), 0⟩, ⟨some 15, .pick (.t 9) (.c (.bool true)) (.t 14), none, 0⟩] false []) (.cond (.t 15) (.seq (.region 0 [⟨some 2, .mv (.c (.int .i64 150)), none, 0⟩] false []) .ret) .skip))) (.seq (.region 0 [⟨some 2, .mv (.c (.int .i64 0)), none, 0⟩] false []) .ret))), false⟩
theorem c39 : cFunc Tryd.prog G f39 Tryd.f39 = some f39 := by kernel_rfl
/-- junctionbox/prefix.cut -/
def f40 : AFunc :=
⟨2, [.cell 4 16 true], (.seq (.region 2 [⟨some 2, .box 33 16 (.t 0) [], none, 0⟩, ⟨some 4, .alloc 33 [.int .u8 0, .int .u8 0, .int .u8 0, .int .u8 0, .int .u8 0, .int .u8 0, .int .u8 0, .int .u8 0, .int .u8 0, .int .u8 0, .int .u8 0, .int .u8 0, .int .u8 0, .int .u8 0, .int .u8 0, .int .u8 0] [], none, 1⟩] false []) (.seq (.seq (.region 0 [⟨some 7, .mv (.c (.int .i64 0)), none, 0⟩] false []) (.block 0 (.loop [1, 2, 4, 7] (.seq (.region 0 [⟨some 8, .bin .lss (.t 7) (.c (.int .i64 16)), none, 0⟩] false []) (.seq (.cond (.t 8) .skip (.exit 0)) (.seq (.block 1 (.seq (.region 0 [⟨some 9, .mv (.t 7), none, 0⟩, ⟨some 5, .mv (.t 9), none, 0⟩] false []) (.seq (.region 0 [⟨some 10, .mv (.t 1), none, 0⟩, ⟨some 11, .mv (.t 5), none, 0⟩, ⟨some 12, .bin .mul (.c (.int .i64 8)) (.t 11), none, 0⟩, ⟨some 13, .bin .sub (.t 10) (.t 12), none, 0⟩, ⟨some 6, .mv (.t 13), none, 0⟩] false []) (.block 2 (.seq (.region 0 [⟨some 15, .mv (.t 6), none, 0⟩, ⟨some 16, .bin .leq (.t 15) (.c (.int .i64 0)), none, 0⟩, ⟨some 14, .mv (.t 16), none, 0⟩] false []) (.cond (.t 14) (.region 0 [⟨some 17, .mv (.t 5), none, 0⟩, ⟨some 18, .iaddr 1 (some 16) (.t 2) (.t 17), none, 0⟩, ⟨none, .store 1 (.t 18) (.c (.int .u8 0)), none, 0⟩] false []) (.seq (.region 0 [⟨some 20, .mv (.t 6), none, 0⟩, ⟨some 21, .bin .lss (.t 20) (.c (.int .i64 8)), none, 0⟩, ⟨some 19, .mv (.t 21), none, 0⟩] false []) (.cond (.t 19) (.region 0 [⟨some 22, .mv (.t 5), none, 0⟩, ⟨some 23, .iaddr 1 (some 16) (.t 2) (.t 22), none, 0⟩, ⟨some 24, .load 1 false (.t 23), none, 0⟩, ⟨some 25, .mv (.t 6), none, 0⟩, ⟨some 26, .bin .sub (.c (.int .i64 8)) (.t 25), none, 0⟩, ⟨some 27, .bin .shl (.c (.int .u8 255)) (.t 26), none, 0⟩, ⟨some 28, .bin .and (.t 24) (.t 27), none, 0⟩, ⟨some 29, .iaddr 1 (some 16) (.t 2) (.t 22), none, 0⟩, ⟨none, .store 1 (.t 29) (.t 28), none, 0⟩] true []) .skip)))))))) (.region 0 [⟨some 30, .bin .add (.t 7) (.c (.int .i64 1)), none, 0⟩, ⟨some 7, .mv (.t 30), none, 0⟩] false []))))))) (.seq (.region 0 [⟨some 31, .load 16 true (.t 2), none, 0⟩, ⟨none, .store 16 (.t 4) (.t 31), none, 0⟩] false []) .ret))), false⟩
theorem c40 : cFunc Tryd.prog G f40 Tryd.f40 = some f40 := by kernel_rfl
/-- junctionbox/cover.both -/
def f41 : AFunc :=
⟨3, [.t 6, .t 7], (.seq (.region 1 [⟨some 6, .newl 37 18, none, 0⟩, ⟨some 7, .mv (.c (.int .i64 0)), none, 0⟩] false []) (.seq (.seq (.region 0 [⟨some 12, .mv (.t 0), none, 0⟩, ⟨some 13, .mv (.t 1), none, 0⟩, ⟨some 14, .build [.clip [], .clip []] [(0, 1, .t 12), (1, 1, .t 13)] [], none, 0⟩, ⟨some 15, .mv (.c (.int .i64 0)), none, 0⟩] false []) (.block 0 (.loop [2, 14, 15] (.seq (.region 0 [⟨some 16, .bin .lss (.t 15) (.c (.int .i64 2)), none, 0⟩] false []) (.seq (.cond (.t 16) .skip (.exit 0)) (.seq (.block 1 (.seq (.region 0 [⟨some 17, .idx 1 false 2 (.t 14) (.t 15), none, 0⟩, ⟨some 9, .mv (.t 17), none, 0⟩] false []) (.seq (.region 0 [⟨some 18, .mv (.t 9), none, 0⟩, ⟨some 19, .callV 16 [.t 18] 0, none, 0⟩, ⟨some 10, .mv (.t 19), none, 0⟩] false []) (.seq (.region 0 [⟨some 20, .mv (.t 10), none, 0⟩, ⟨some 21, .bin .neq (.t 20) (.c (.int .i64 0)), none, 0⟩] false []) (.cond (.t 21) (.seq (.region 1 [⟨some 22, .mv (.t 10), none, 0⟩, ⟨some 6, .newl 37 18, none, 0⟩, ⟨some 7, .mv (.t 22), none, 0⟩] false []) .ret) .skip))))) (.region 0 [⟨some 23, .bin .add (.t 15) (.c (.int .i64 1)), none, 0⟩, ⟨some 15, .mv (.t 23), none, 0⟩] false []))))))) (.seq (.region 2 [⟨some 24, .mv (.t 2), none, 0⟩, ⟨some 25, .callR (.t 24) [] 1, none, 0⟩, ⟨some 26, .callR (.c (.clo 64 [])) [.t 25] 1, none, 0⟩, ⟨some 27, .buildSl 24 1 [.clip []] 1 [(0, .t 26)] false, none, 0⟩, ⟨some 28, .callV 33 [.t 27] 1, none, 1⟩, ⟨some 11, .mv (.t 28), none, 0⟩] false []) (.seq (.seq (.region 0 [⟨some 29, .mv (.t 11), none, 0⟩, ⟨some 30, .len (.t 29), none, 0⟩, ⟨some 31, .bin .gtr (.t 30) (.c (.int .i64 300)), none, 0⟩] false []) (.cond (.t 31) (.seq (.region 1 [⟨some 6, .newl 37 18, none, 0⟩, ⟨some 7, .mv (.c (.int .i64 6)), none, 0⟩] false []) .ret) .skip)) (.seq (.region 0 [⟨some 32, .mv (.t 11), none, 0⟩, ⟨some 6, .mv (.t 32), none, 0⟩, ⟨some 7, .mv (.c (.int .i64 0)), none, 0⟩] false []) .ret))))), false⟩
theorem c41 : cFunc Tryd.prog G f41 Tryd.f41 = some f41 := by kernel_rfl
/-- junctionbox/cover.Union$1 -/
def f42 : AFunc :=
⟨2, [.t 2], (.seq (.region 0 [⟨some 2, .mv (.c (.nilf)), none, 0⟩] false []) (.seq (.region 2 [⟨some 3, .load 1 false (.t 0), none, 0⟩, ⟨some 4, .load 1 false (.t 1), none, 0⟩, ⟨some 5, .buildSl 24 1 [.clip []] 2 [(0, .t 3), (1, .t 4)] false, none, 0⟩, ⟨some 6, .callV 33 [.t 5] 1, none, 1⟩, ⟨some 7, .callR (.c (.clo 43 [])) [.t 6] 1, none, 0⟩, ⟨some 2, .mv (.t 7), none, 0⟩] false []) .ret)), false⟩
theorem c42 : cFunc Tryd.prog G f42 Tryd.f42 = some f42 := by kernel_rfl
/-- slices.Values[[]junctionbox/api.Prefix,junctionbox/api.Prefix] -/
def f43 : AFunc :=
⟨1, [.t 2], (.seq (.region 1 [⟨some 1, .box 24 1 (.t 0) [], none, 0⟩, ⟨some 2, .mv (.c (.nilf)), none, 0⟩] false []) (.seq (.region 0 [⟨some 3, .clo 65 [.t 1], none, 0⟩, ⟨some 2, .mv (.t 3), none, 0⟩] false []) .ret)), false⟩
theorem c43 : cFunc Tryd.prog G f43 Tryd.f43 = some f43 := by kernel_rfl
/-- junctionbox/cover.Meet$1 -/
def f44 : AFunc :=
⟨2, [.t 2], (.seq (.region 0 [⟨some 2, .mv (.c (.nilf)), none, 0⟩] false []) (.seq (.region 0 [⟨some 3, .clo 45 [.t 0, .t 1], none, 0⟩, ⟨some 2, .mv (.t 3), none, 0⟩] false []) .ret)), false⟩
theorem c44 : cFunc Tryd.prog G f44 Tryd.f44 = some f44 := by kernel_rfl
/-- junctionbox/cover.Meet$1$1 -/
def f45 : AFunc :=
⟨3, [], (.seq (.region 0 [⟨some 8, .load 1 false (.t 1), none, 0⟩, ⟨some 9, .len (.t 8), none, 0⟩, ⟨some 10, .mv (.c (.int .i64 0)), none, 0⟩] false []) (.block 0 (.loop [0, 2, 8, 9, 10] (.seq (.region 0 [⟨some 11, .bin .lss (.t 10) (.t 9), none, 0⟩] false []) (.seq (.cond (.t 11) .skip (.exit 0)) (.seq (.block 1 (.seq (.region 1 [⟨some 12, .iaddr 18 none (.t 8) (.t 10), none, 0⟩, ⟨some 13, .load 18 true (.t 12), none, 0⟩, ⟨some 5, .alloc 37 [.int .i64 0, .int .u8 0, .int .u8 0, .int .u8 0, .int .u8 0, .int .u8 0, .int .u8 0, .int .u8 0, .int .u8 0, .int .u8 0, .int .u8 0, .int .u8 0, .int .u8 0, .int .u8 0, .int .u8 0, .int .u8 0, .int .u8 0, .int .i64 0] [], none, 0⟩, ⟨none, .store 18 (.t 5) (.t 13), none, 0⟩] false []) (.seq (.region 0 [⟨some 14, .load 1 false (.t 2), none, 0⟩, ⟨some 15, .len (.t 14), none, 0⟩, ⟨some 16, .mv (.c (.int .i64 0)), none, 0⟩] false []) (.block 2 (.loop [0, 2, 5, 8, 9, 10, 14, 15, 16] (.seq (.region 0 [⟨some 17, .bin .lss (.t 16) (.t 15), none, 0⟩] false []) (.seq (.cond (.t 17) .skip (.exit 2)) (.seq (.block 3 (.seq (.region 1 [⟨some 18, .iaddr 18 none (.t 14) (.t 16), none, 0⟩, ⟨some 19, .load 18 true (.t 18), none, 0⟩, ⟨some 7, .alloc 37 [.int .i64 0, .int .u8 0, .int .u8 0, .int .u8 0, .int .u8 0, .int .u8 0, .int .u8 0, .int .u8 0, .int .u8 0, .int .u8 0, .int .u8 0, .int .u8 0, .int .u8 0, .int .u8 0, .int .u8 0, .int .u8 0, .int .u8 0, .int .i64 0] [], none, 0⟩, ⟨none, .store 18 (.t 7) (.t 19), none, 0⟩] false []) (.seq (.region 0 [⟨some 20, .load 18 true (.t 5), none, 0⟩, ⟨some 21, .load 18 true (.t 7), none, 0⟩, ⟨some 22, .callV 19 [.t 20, .t 21] 0, none, 0⟩, ⟨some 23, .mv (.t 22), none, 0⟩, ⟨some 24, .mv (.t 0), some (23, true), 0⟩, ⟨some 25, .load 18 true (.t 7), some (23, true), 0⟩, ⟨some 26, .callR (.t 24) [.t 25] 0, some (23, true), 0⟩, ⟨some 27, .not (.t 26), some (23, true), 0⟩, ⟨some 28, .pick (.t 23) (.t 27) (.c (.bool false)), none, 0⟩, ⟨some 29, .mv (.t 28), none, 0⟩, ⟨some 30, .load 18 true (.t 7), some (29, false), 0⟩, ⟨some 31, .load 18 true (.t 5), some (29, false), 0⟩, ⟨some 32, .callV 19 [.t 30, .t 31] 0, some (29, false), 0⟩, ⟨some 33, .mv (.t 32), some (29, false), 0⟩, ⟨some 34, .load 18 true (.t 5), some (33, true), 0⟩, ⟨some 35, .load 18 true (.t 7), some (33, true), 0⟩, ⟨some 36, .eqagg true [1, 1, 1, 1, 1, 1, 1, 1, 1, 1, 1, 1, 1, 1, 1, 1, 1, 1] (.t 34) (.t 35), some (33, true), 0⟩, ⟨some 37, .pick (.t 33) (.t 36) (.c (.bool false)), some (29, false), 0⟩, ⟨some 38, .mv (.t 37), some (29, false), 0⟩, ⟨some 39, .mv (.t 0), some (38, true), 0⟩, ⟨some 40, .load 18 true (.t 5), some (38, true), 0⟩, ⟨some 41, .callR (.t 39) [.t 40] 0, some (38, true), 0⟩, ⟨some 42, .not (.t 41), some (38, true), 0⟩, ⟨some 43, .pick (.t 38) (.t 42) (.c (.bool false)), some (29, false), 0⟩, ⟨some 44, .pick (.t 29) (.c (.bool true)) (.t 43), none, 0⟩] false []) (.cond (.t 44) .ret .skip)))) (.region 0 [⟨some 45, .bin .add (.t 16) (.c (.int .i64 1)), none, 0⟩, ⟨some 16, .mv (.t 45), none, 0⟩] false []))))))))) (.region 0 [⟨some 46, .bin .add (.t 10) (.c (.int .i64 1)), none, 0⟩, ⟨some 10, .mv (.t 46), none, 0⟩] false []))))))), false⟩
theorem c45 : cFunc Tryd.prog G f45 Tryd.f45 = some f45 := by kernel_rfl
/-- junctionbox/cover.Minus$1 -/
def f46 : AFunc :=
⟨2, [.t 2], (.seq (.region 0 [⟨some 2, .mv (.c (.nilf)), none, 0⟩] false []) (.seq (.region 0 [⟨some 3, .clo 47 [.t 0, .t 1], none, 0⟩, ⟨some 2, .mv (.t 3), none, 0⟩] false []) .ret)), false⟩
theorem c46 : cFunc Tryd.prog G f46 Tryd.f46 = some f46 := by kernel_rfl
/-- junctionbox/cover.Minus$1$1 -/
def f47 : AFunc :=
⟨3, [], (.seq (.region 0 [⟨some 6, .load 1 false (.t 1), none, 0⟩, ⟨some 7, .len (.t 6), none, 0⟩, ⟨some 8, .mv (.c (.int .i64 0)), none, 0⟩] false []) (.block 0 (.loop [0, 2, 6, 7, 8] (.seq (.region 0 [⟨some 9, .bin .lss (.t 8) (.t 7), none, 0⟩] false []) (.seq (.cond (.t 9) .skip (.exit 0)) (.seq (.block 1 (.seq (.region 1 [⟨some 10, .iaddr 18 none (.t 6) (.t 8), none, 0⟩, ⟨some 11, .load 18 true (.t 10), none, 0⟩, ⟨some 5, .alloc 37 [.int .i64 0, .int .u8 0, .int .u8 0, .int .u8 0, .int .u8 0, .int .u8 0, .int .u8 0, .int .u8 0, .int .u8 0, .int .u8 0, .int .u8 0, .int .u8 0, .int .u8 0, .int .u8 0, .int .u8 0, .int .u8 0, .int .u8 0, .int .i64 0] [], none, 0⟩, ⟨none, .store 18 (.t 5) (.t 11), none, 0⟩] false []) (.seq (.region 0 [⟨some 12, .load 18 true (.t 5), none, 0⟩, ⟨some 13, .load 1 false (.t 2), none, 0⟩, ⟨some 14, .mv (.t 0), none, 0⟩, ⟨some 15, .callR (.c (.clo 48 [])) [.t 12, .t 13, .t 14] 0, none, 0⟩, ⟨some 16, .not (.t 15), none, 0⟩] false []) (.cond (.t 16) .ret .skip)))) (.region 0 [⟨some 17, .bin .add (.t 8) (.c (.int .i64 1)), none, 0⟩, ⟨some 8, .mv (.t 17), none, 0⟩] false []))))))), false⟩
theorem c47 : cFunc Tryd.prog G f47 Tryd.f47 = some f47 := by kernel_rfl
/-- junctionbox/cover.rest -/
def f48 : AFunc :=
⟨3, [.t 6], (.seq (.region 1 [⟨some 3, .box 37 18 (.t 0) [], none, 0⟩, ⟨some 6, .mv (.c (.bool false)), none, 0⟩] false []) (.seq (.region 1 [⟨some 7, .newl 37 18, none, 0⟩] false []) (.seq (.seq (.region 0 [⟨some 10, .mv (.t 1), none, 0⟩, ⟨some 11, .len (.t 10), none, 0⟩, ⟨some 12, .mv (.c (.int .i64 0)), none, 0⟩] false []) (.block 0 (.loop [2, 3, 7, 10, 11, 12] (.seq (.region 0 [⟨some 13, .bin .lss (.t 12) (.t 11), none, 0⟩] false []) (.seq (.cond (.t 13) .skip (.exit 0)) (.seq (.block 1 (.seq (.region 1 [⟨some 14, .iaddr 18 none (.t 10) (.t 12), none, 0⟩, ⟨some 15, .load 18 true (.t 14), none, 0⟩, ⟨some 9, .alloc 37 [.int .i64 0, .int .u8 0, .int .u8 0, .int .u8 0, .int .u8 0, .int .u8 0, .int .u8 0, .int .u8 0, .int .u8 0, .int .u8 0, .int .u8 0, .int .u8 0, .int .u8 0, .int .u8 0, .int .u8 0, .int .u8 0, .int .u8 0, .int .i64 0] [], none, 0⟩, ⟨none, .store 18 (.t 9) (.t 15), none, 0⟩] false []) (.seq (.seq (.region 0 [⟨some 16, .load 18 true (.t 9), none, 0⟩, ⟨some 17, .load 18 true (.t 3), none, 0⟩, ⟨some 18, .callV 19 [.t 16, .t 17] 0, none, 0⟩] false []) (.cond (.t 18) (.seq (.region 0 [⟨some 6, .mv (.c (.bool true)), none, 0⟩] false []) .ret) .skip)) (.seq (.region 0 [⟨some 19, .load 18 true (.t 3), none, 0⟩, ⟨some 20, .load 18 true (.t 9), none, 0⟩, ⟨some 21, .callV 19 [.t 19, .t 20] 0, none, 0⟩] false []) (.cond (.t 21) (.region 2 [⟨some 22, .mv (.t 7), none, 0⟩, ⟨some 23, .load 18 true (.t 9), none, 0⟩, ⟨some 24, .buildSl 37 18 [.int .i64 0, .int .u8 0, .int .u8 0, .int .u8 0, .int .u8 0, .int .u8 0, .int .u8 0, .int .u8 0, .int .u8 0, .int .u8 0, .int .u8 0, .int .u8 0, .int .u8 0, .int .u8 0, .int .u8 0, .int .u8 0, .int .u8 0, .int .i64 0] 1 [(0, .t 23)] false, none, 0⟩, ⟨some 25, .append 37 18 32 (.t 22) (.t 24), none, 1⟩, ⟨some 7, .mv (.t 25), none, 0⟩] false []) .skip))))) (.region 0 [⟨some 26, .bin .add (.t 12) (.c (.int .i64 1)), none, 0⟩, ⟨some 12, .mv (.t 26), none, 0⟩] false []))))))) (.seq (.seq (.region 0 [⟨some 27, .mv (.t 7), none, 0⟩, ⟨some 28, .len (.t 27), none, 0⟩, ⟨some 29, .bin .eql (.t 28) (.c (.int .i64 0)), none, 0⟩] false []) (.cond (.t 29) (.seq (.region 0 [⟨some 30, .mv (.t 2), none, 0⟩, ⟨some 31, .load 18 true (.t 3), none, 0⟩, ⟨some 32, .callR (.t 30) [.t 31] 0, none, 0⟩, ⟨some 6, .mv (.t 32), none, 0⟩] false []) .ret) .skip)) (.seq (.region 0 [⟨some 33, .faddr 17 (.t 3), none, 0⟩, ⟨some 34, .load 1 false (.t 33), none, 0⟩, ⟨some 35, .bin .add (.t 34) (.c (.int .i64 1)), none, 0⟩, ⟨some 36, .faddr 17 (.t 3), none, 0⟩, ⟨none, .store 1 (.t 36) (.t 35), none, 0⟩] false []) (.seq (.region 0 [⟨some 37, .load 18 true (.t 3), none, 0⟩, ⟨some 38, .mv (.t 7), none, 0⟩, ⟨some 39, .mv (.t 2), none, 0⟩, ⟨some 40, .callR (.c (.clo 48 [])) [.t 37, .t 38, .t 39] 0, none, 0⟩, ⟨some 41, .mv (.t 40), none, 0⟩, ⟨some 42, .load 18 true (.t 3), some (41, true), 0⟩, ⟨some 43, .callV 56 [.t 42] 0, some (41, true), 0⟩, ⟨some 44, .mv (.t 7), some (41, true), 0⟩, ⟨some 45, .mv (.t 2), some (41, true), 0⟩, ⟨some 46, .callR (.c (.clo 48 [])) [.t 43, .t 44, .t 45] 0, some (41, true), 0⟩, ⟨some 47, .pick (.t 41) (.t 46) (.c (.bool false)), none, 0⟩, ⟨some 6, .mv (.t 47), none, 0⟩] false []) .ret)))))), false⟩
theorem c48 : cFunc Tryd.prog G f48 Tryd.f48 = some f48 := by kernel_rfl
/-- junctionbox/junctionboxlaw24.inside -/
def f49 : AFunc :=
⟨2, [.cell 4 17 true], (.seq (.region 2 [⟨some 2, .box 37 18 (.t 0) [], none, 0⟩, ⟨some 4, .alloc 35 [.int .i64 0, .int .u8 0, .int .u8 0, .int .u8 0, .int .u8 0, .int .u8 0, .int .u8 0, .int .u8 0, .int .u8 0, .int .u8 0, .int .u8 0, .int .u8 0, .int .u8 0, .int .u8 0, .int .u8 0, .int .u8 0, .int .u8 0] [], none, 1⟩] false []) (.seq (.region 1 [⟨some 7, .faddr 0 (.t 2), none, 0⟩, ⟨some 8, .load 17 true (.t 7), none, 0⟩, ⟨some 5, .alloc 35 [.int .i64 0, .int .u8 0, .int .u8 0, .int .u8 0, .int .u8 0, .int .u8 0, .int .u8 0, .int .u8 0, .int .u8 0, .int .u8 0, .int .u8 0, .int .u8 0, .int .u8 0, .int .u8 0, .int .u8 0, .int .u8 0, .int .u8 0] [], none, 0⟩, ⟨none, .store 17 (.t 5) (.t 8), none, 0⟩] false []) (.seq (.seq (.region 0 [⟨some 9, .faddr 17 (.t 2), none, 0⟩, ⟨some 10, .load 1 false (.t 9), none, 0⟩, ⟨some 6, .mv (.t 10), none, 0⟩] false []) (.block 0 (.loop [1, 4, 5, 6] (.seq (.seq (.region 0 [⟨some 11, .mv (.t 6), none, 0⟩, ⟨some 12, .faddr 0 (.t 5), none, 0⟩, ⟨some 13, .load 1 false (.t 12), none, 0⟩, ⟨some 14, .callV 58 [.t 13] 0, none, 0⟩, ⟨some 15, .bin .lss (.t 11) (.t 14), none, 0⟩] false []) (.cond (.t 15) .skip (.exit 0))) (.seq (.block 1 (.seq (.region 0 [⟨some 18, .mv (.t 1), none, 0⟩, ⟨some 19, .mv (.t 6), none, 0⟩, ⟨some 20, .bin .rem (.t 19) (.c (.int .i64 8)), none, 0⟩, ⟨some 21, .bin .shr (.t 18) (.t 20), none, 0⟩, ⟨some 22, .bin .and (.t 21) (.c (.int .u8 1)), none, 0⟩, ⟨some 23, .bin .eql (.t 22) (.c (.int .u8 1)), none, 0⟩] false []) (.cond (.t 23) (.region 0 [⟨some 24, .mv (.t 6), none, 0⟩, ⟨some 25, .bin .quo (.t 24) (.c (.int .i64 8)), none, 0⟩, ⟨some 26, .faddr 1 (.t 5), none, 0⟩, ⟨some 27, .iaddr 1 (some 16) (.t 26) (.t 25), none, 0⟩, ⟨some 28, .load 1 false (.t 27), none, 0⟩, ⟨some 29, .mv (.t 6), none, 0⟩, ⟨some 30, .bin .rem (.t 29) (.c (.int .i64 8)), none, 0⟩, ⟨some 31, .bin .shr (.c (.int .u8 128)) (.t 30), none, 0⟩, ⟨some 32, .bin .or (.t 28) (.t 31), none, 0⟩, ⟨some 33, .faddr 1 (.t 5), none, 0⟩, ⟨some 34, .iaddr 1 (some 16) (.t 33) (.t 25), none, 0⟩, ⟨none, .store 1 (.t 34) (.t 32), none, 0⟩] true []) .skip))) (.region 0 [⟨some 16, .mv (.t 6), none, 0⟩, ⟨some 17, .bin .add (.t 16) (.c (.int .i64 1)), none, 0⟩, ⟨some 6, .mv (.t 17), none, 0⟩] false [])))))) (.seq (.region 0 [⟨some 35, .load 17 true (.t 5), none, 0⟩, ⟨none, .store 17 (.t 4) (.t 35), none, 0⟩] false []) .ret)))), false⟩
theorem c49 : cFunc Tryd.prog G f49 Tryd.f49 = some f49 := by kernel_rfl
/-- slices.ContainsFunc[[]junctionbox/api.Prefix,junctionbox/api.Prefix] -/
def f50 : AFunc :=
⟨2, [.t 4], (.seq (.region 0 [⟨some 4, .mv (.c (.bool false)), none, 0⟩] false []) (.seq (.region 0 [⟨some 5, .mv (.t 0), none, 0⟩, ⟨some 6, .mv (.t 1), none, 0⟩, ⟨some 7, .callR (.c (.clo 66 [])) [.t 5, .t 6] 0, none, 0⟩, ⟨some 8, .bin .geq (.t 7) (.c (.int .i64 0)), none, 0⟩, ⟨some 4, .mv (.t 8), none, 0⟩] false []) .ret)), false⟩
theorem c50 : cFunc Tryd.prog G f50 Tryd.f50 = some f50 := by kernel_rfl
/-- junctionbox/cover.Has$1 -/
def f51 : AFunc :=
⟨2, [.t 3], (.seq (.region 1 [⟨some 2, .box 37 18 (.t 0) [], none, 0⟩, ⟨some 3, .mv (.c (.bool false)), none, 0⟩] false []) (.seq (.region 0 [⟨some 4, .load 18 true (.t 2), none, 0⟩, ⟨some 5, .load 17 true (.t 1), none, 0⟩, ⟨some 6, .callV 38 [.t 4, .t 5] 0, none, 0⟩, ⟨some 3, .mv (.t 6), none, 0⟩] false []) .ret)), false⟩
theorem c51 : cFunc Tryd.prog G f51 Tryd.f51 = some f51 := by kernel_rfl
/-- junctionbox/cover.wrong$1 -/
def f52 : AFunc :=
⟨1, [.t 2], (.seq (.region 1 [⟨some 1, .box 37 18 (.t 0) [], none, 0⟩, ⟨some 2, .mv (.c (.bool false)), none, 0⟩] false []) (.seq (.region 0 [⟨some 3, .load 18 true (.t 1), none, 0⟩, ⟨some 4, .callV 37 [.t 3] 0, none, 0⟩, ⟨some 5, .bin .neq (.t 4) (.c (.int .i64 0)), none, 0⟩, ⟨some 2, .mv (.t 5), none, 0⟩] false []) .ret)), false⟩
theorem c52 : cFunc Tryd.prog G f52 Tryd.f52 = some f52 := by kernel_rfl
end Go.Proofs.YtnpdaegfmfkghaaDoor.F

/- Functions in the evaluator's form, 3. No condition. -/
namespace Go.Proofs.YtnpdaegfmfkghaaDoor.F
open Go Go.Proofs.YtnpdaegfmfkghaaDoor.A
/-- slices.Concat[[]junctionbox/api.Prefix,junctionbox/api.Prefix] -/
def f53 : AFunc :=
⟨1, [.t 2], (.seq (.region 1 [⟨some 2, .newl 37 18, none, 0⟩] false []) (.seq (.region 0 [⟨some 3, .mv (.c (.int .i64 0)), none, 0⟩] false []) (.seq (.seq (.region 0 [⟨some 9, .mv (.t 0), none, 0⟩, ⟨some 10, .len (.t 9), none, 0⟩, ⟨some 11, .mv (.c (.int .i64 0)), none, 0⟩] false []) (.block 0 (.loop [0, 3, 9, 10, 11] (.seq (.region 0 [⟨some 12, .bin .lss (.t 11) (.t 10), none, 0⟩] false []) (.seq (.cond (.t 12) .skip (.exit 0)) (.seq (.block 1 (.seq (.region 0 [⟨some 13, .iaddr 1 none (.t 9) (.t 11), none, 0⟩, ⟨some 14, .load 1 false (.t 13), none, 0⟩, ⟨some 5, .mv (.t 14), none, 0⟩] false []) (.seq (.region 0 [⟨some 15, .mv (.t 3), none, 0⟩, ⟨some 16, .mv (.t 5), none, 0⟩, ⟨some 17, .len (.t 16), none, 0⟩, ⟨some 18, .bin .add (.t 15) (.t 17), none, 0⟩, ⟨some 3, .mv (.t 18), none, 0⟩] false []) (.seq (.region 0 [⟨some 19, .mv (.t 3), none, 0⟩, ⟨some 20, .bin .lss (.t 19) (.c (.int .i64 0)), none, 0⟩] false []) (.cond (.t 20) .bad .skip))))) (.region 0 [⟨some 22, .bin .add (.t 11) (.c (.int .i64 1)), none, 0⟩, ⟨some 11, .mv (.t 22), none, 0⟩] false []))))))) (.seq (.region 0 [⟨some 23, .mv (.t 3), none, 0⟩, ⟨some 24, .callR (.c (.clo 67 [])) [.c (.clip []), .t 23] 1, none, 0⟩, ⟨some 6, .mv (.t 24), none, 0⟩] false []) (.seq (.seq (.region 0 [⟨some 25, .mv (.t 0), none, 0⟩, ⟨some 26, .len (.t 25), none, 0⟩, ⟨some 27, .mv (.c (.int .i64 0)), none, 0⟩] false []) (.block 2 (.loop [6, 25, 26, 27] (.seq (.region 0 [⟨some 28, .bin .lss (.t 27) (.t 26), none, 0⟩] false []) (.seq (.cond (.t 28) .skip (.exit 2)) (.seq (.block 3 (.seq (.region 0 [⟨some 29, .iaddr 1 none (.t 25) (.t 27), none, 0⟩, ⟨some 30, .load 1 false (.t 29), none, 0⟩, ⟨some 8, .mv (.t 30), none, 0⟩] false []) (.region 1 [⟨some 31, .mv (.t 6), none, 0⟩, ⟨some 32, .mv (.t 8), none, 0⟩, ⟨some 33, .append 37 18 32 (.t 31) (.t 32), none, 0⟩, ⟨some 6, .mv (.t 33), none, 0⟩] false []))) (.region 0 [⟨some 34, .bin .add (.t 27) (.c (.int .i64 1)), none, 0⟩, ⟨some 27, .mv (.t 34), none, 0⟩] false []))))))) (.seq (.region 0 [⟨some 35, .mv (.t 6), none, 0⟩, ⟨some 2, .mv (.t 35), none, 0⟩] false []) .ret)))))), true⟩
theorem c53 : cFunc Tryd.prog G f53 Tryd.f53 = some f53 := by kernel_rfl
/-- junctionbox/prefix.Compare -/
def f55 : AFunc :=
⟨2, [.t 4], (.seq (.region 2 [⟨some 2, .box 37 18 (.t 0) [], none, 0⟩, ⟨some 3, .box 37 18 (.t 1) [], none, 1⟩, ⟨some 4, .mv (.c (.int .i64 0)), none, 0⟩] false []) (.seq (.region 1 [⟨some 5, .faddr 0 (.t 2), none, 0⟩, ⟨some 6, .faddr 0 (.t 5), none, 0⟩, ⟨some 7, .load 1 false (.t 6), none, 0⟩, ⟨some 8, .faddr 0 (.t 3), none, 0⟩, ⟨some 9, .faddr 0 (.t 8), none, 0⟩, ⟨some 10, .load 1 false (.t 9), none, 0⟩, ⟨some 11, .callV 71 [.t 7, .t 10] 0, none, 0⟩, ⟨some 12, .faddr 0 (.t 2), none, 0⟩, ⟨some 13, .faddr 1 (.t 12), none, 0⟩, ⟨some 14, .slarr 1 16 (.t 13) none none, none, 0⟩, ⟨some 15, .faddr 0 (.t 3), none, 0⟩, ⟨some 16, .faddr 1 (.t 15), none, 0⟩, ⟨some 17, .slarr 1 16 (.t 16) none none, none, 0⟩, ⟨some 18, .callV 72 [.t 14, .t 17] 0, none, 0⟩, ⟨some 19, .faddr 17 (.t 2), none, 0⟩, ⟨some 20, .load 1 false (.t 19), none, 0⟩, ⟨some 21, .faddr 17 (.t 3), none, 0⟩, ⟨some 22, .load 1 false (.t 21), none, 0⟩, ⟨some 23, .callV 71 [.t 20, .t 22] 0, none, 0⟩, ⟨some 24, .buildSl 3 1 [.int .i64 0] 3 [(0, .t 11), (1, .t 18), (2, .t 23)] false, none, 0⟩, ⟨some 25, .callV 70 [.t 24] 0, none, 0⟩, ⟨some 4, .mv (.t 25), none, 0⟩] true []) .ret)), false⟩
theorem c55 : cFunc Tryd.prog G f55 Tryd.f55 = some f55 := by kernel_rfl
/-- junctionbox/cover.half -/
def f56 : AFunc :=
⟨1, [.cell 2 18 true], (.seq (.region 2 [⟨some 1, .box 37 18 (.t 0) [], none, 0⟩, ⟨some 2, .alloc 37 [.int .i64 0, .int .u8 0, .int .u8 0, .int .u8 0, .int .u8 0, .int .u8 0, .int .u8 0, .int .u8 0, .int .u8 0, .int .u8 0, .int .u8 0, .int .u8 0, .int .u8 0, .int .u8 0, .int .u8 0, .int .u8 0, .int .u8 0, .int .i64 0] [], none, 1⟩] false []) (.seq (.region 0 [⟨some 3, .faddr 17 (.t 1), none, 0⟩, ⟨some 4, .load 1 false (.t 3), none, 0⟩, ⟨some 5, .bin .sub (.t 4) (.c (.int .i64 1)), none, 0⟩, ⟨some 6, .bin .quo (.t 5) (.c (.int .i64 8)), none, 0⟩, ⟨some 7, .faddr 0 (.t 1), none, 0⟩, ⟨some 8, .faddr 1 (.t 7), none, 0⟩, ⟨some 9, .iaddr 1 (some 16) (.t 8) (.t 6), none, 0⟩, ⟨some 10, .load 1 false (.t 9), none, 0⟩, ⟨some 11, .faddr 17 (.t 1), none, 0⟩, ⟨some 12, .load 1 false (.t 11), none, 0⟩, ⟨some 13, .bin .sub (.t 12) (.c (.int .i64 1)), none, 0⟩, ⟨some 14, .callV 73 [.t 13] 0, none, 0⟩, ⟨some 15, .bin .xor (.t 10) (.t 14), none, 0⟩, ⟨some 16, .faddr 0 (.t 1), none, 0⟩, ⟨some 17, .faddr 1 (.t 16), none, 0⟩, ⟨some 18, .iaddr 1 (some 16) (.t 17) (.t 6), none, 0⟩, ⟨none, .store 1 (.t 18) (.t 15), none, 0⟩] true []) (.seq (.region 0 [⟨some 19, .load 18 true (.t 1), none, 0⟩, ⟨none, .store 18 (.t 2) (.t 19), none, 0⟩] false []) .ret))), false⟩
theorem c56 : cFunc Tryd.prog G f56 Tryd.f56 = some f56 := by kernel_rfl
/-- junctionbox/junctionboxref05.RightAddr -/
def f57 : AFunc :=
⟨1, [.t 2], (.seq (.region 1 [⟨some 1, .box 35 17 (.t 0) [], none, 0⟩, ⟨some 2, .mv (.c (.bool false)), none, 0⟩] false []) (.seq (.region 0 [⟨some 5, .faddr 0 (.t 1), none, 0⟩, ⟨some 6, .load 1 false (.t 5), none, 0⟩, ⟨some 7, .callV 58 [.t 6] 0, none, 0⟩, ⟨some 3, .mv (.t 7), none, 0⟩] false []) (.seq (.seq (.region 0 [⟨some 8, .mv (.t 3), none, 0⟩, ⟨some 4, .mv (.t 8), none, 0⟩] false []) (.block 0 (.loop [1, 3, 4] (.seq (.seq (.region 0 [⟨some 9, .mv (.t 4), none, 0⟩, ⟨some 10, .bin .lss (.t 9) (.c (.int .i64 128)), none, 0⟩] false []) (.cond (.t 10) .skip (.exit 0))) (.seq (.block 1 (.seq (.region 0 [⟨some 13, .faddr 1 (.t 1), none, 0⟩, ⟨some 14, .load 16 true (.t 13), none, 0⟩, ⟨some 15, .mv (.t 4), none, 0⟩, ⟨some 16, .callV 59 [.t 14, .t 15] 0, none, 0⟩, ⟨some 17, .bin .eql (.t 16) (.c (.int .i64 1)), none, 0⟩] false []) (.cond (.t 17) (.seq (.region 0 [⟨some 2, .mv (.c (.bool false)), none, 0⟩] false []) .ret) .skip))) (.region 0 [⟨some 11, .mv (.t 4), none, 0⟩, ⟨some 12, .bin .add (.t 11) (.c (.int .i64 1)), none, 0⟩, ⟨some 4, .mv (.t 12), none, 0⟩] false [])))))) (.seq (.region 0 [⟨some 18, .mv (.t 3), none, 0⟩, ⟨some 19, .bin .gtr (.t 18) (.c (.int .i64 0)), none, 0⟩, ⟨some 2, .mv (.t 19), none, 0⟩] false []) .ret)))), false⟩
theorem c57 : cFunc Tryd.prog G f57 Tryd.f57 = some f57 := by kernel_rfl
/-- junctionbox/junctionboxref05.Width -/
def f58 : AFunc :=
⟨1, [.t 2], (.seq (.region 0 [⟨some 2, .mv (.c (.int .i64 0)), none, 0⟩] false []) (.seq (.seq (.region 0 [⟨some 3, .mv (.t 0), none, 0⟩, ⟨some 4, .bin .eql (.t 3) (.c (.int .i64 4)), none, 0⟩] false []) (.cond (.t 4) (.seq (.region 0 [⟨some 2, .mv (.c (.int .i64 32)), none, 0⟩] false []) .ret) .skip)) (.seq (.seq (.region 0 [⟨some 5, .mv (.t 0), none, 0⟩, ⟨some 6, .bin .eql (.t 5) (.c (.int .i64 6)), none, 0⟩] false []) (.cond (.t 6) (.seq (.region 0 [⟨some 2, .mv (.c (.int .i64 128)), none, 0⟩] false []) .ret) .skip)) (.seq (.region 0 [⟨some 2, .mv (.c (.int .i64 0)), none, 0⟩] false []) .ret)))), false⟩
theorem c58 : cFunc Tryd.prog G f58 Tryd.f58 = some f58 := by kernel_rfl
/-- junctionbox/junctionboxref05.at -/
def f59 : AFunc :=
⟨2, [.t 4], (.seq (.region 1 [⟨some 2, .box 33 16 (.t 0) [], none, 0⟩, ⟨some 4, .mv (.c (.int .i64 0)), none, 0⟩] false []) (.seq (.region 0 [⟨some 5, .mv (.t 1), none, 0⟩, ⟨some 6, .bin .quo (.t 5) (.c (.int .i64 8)), none, 0⟩, ⟨some 7, .iaddr 1 (some 16) (.t 2) (.t 6), none, 0⟩, ⟨some 8, .load 1 false (.t 7), none, 0⟩, ⟨some 9, .conv .i64 (.t 8), none, 0⟩, ⟨some 10, .mv (.t 1), none, 0⟩, ⟨some 11, .bin .rem (.t 10) (.c (.int .i64 8)), none, 0⟩, ⟨some 12, .bin .sub (.c (.int .i64 7)) (.t 11), none, 0⟩, ⟨some 13, .conv .u64 (.t 12), none, 0⟩, ⟨some 14, .bin .shr (.t 9) (.t 13), none, 0⟩, ⟨some 15, .bin .rem (.t 14) (.c (.int .i64 2)), none, 0⟩, ⟨some 4, .mv (.t 15), none, 0⟩] false []) .ret)), false⟩
theorem c59 : cFunc Tryd.prog G f59 Tryd.f59 = some f59 := by kernel_rfl
/-- junctionbox/junctionboxref24.what -/
def f60 : AFunc :=
⟨3, [.t 6], (.seq (.region 0 [⟨some 6, .mv (.c (.int .i64 0)), none, 0⟩] false []) (.seq (.seq (.region 0 [⟨some 7, .mv (.t 0), none, 0⟩] false []) (.block 0 (.seq (.region 0 [⟨some 23, .bin .eql (.t 7) (.c (.int .i64 0)), none, 0⟩, ⟨some 22, .mv (.t 23), none, 0⟩] false []) (.cond (.t 22) (.block 2 (.seq (.region 0 [⟨some 25, .mv (.t 1), none, 0⟩, ⟨some 26, .bin .eql (.t 25) (.c (.int .i64 2)), none, 0⟩, ⟨some 27, .mv (.t 26), none, 0⟩, ⟨some 28, .mv (.t 2), some (27, false), 0⟩, ⟨some 29, .bin .eql (.t 28) (.c (.int .i64 2)), some (27, false), 0⟩, ⟨some 30, .pick (.t 27) (.c (.bool true)) (.t 29), none, 0⟩, ⟨some 24, .mv (.t 30), none, 0⟩] false []) (.cond (.t 24) (.seq (.region 0 [⟨some 6, .mv (.c (.int .i64 2)), none, 0⟩] false []) .ret) (.seq (.region 0 [⟨some 32, .mv (.t 1), none, 0⟩, ⟨some 33, .bin .eql (.t 32) (.c (.int .i64 0)), none, 0⟩, ⟨some 34, .mv (.t 33), none, 0⟩, ⟨some 35, .mv (.t 2), some (34, true), 0⟩, ⟨some 36, .bin .eql (.t 35) (.c (.int .i64 0)), some (34, true), 0⟩, ⟨some 37, .pick (.t 34) (.t 36) (.c (.bool false)), none, 0⟩, ⟨some 31, .mv (.t 37), none, 0⟩] false []) (.cond (.t 31) (.seq (.region 0 [⟨some 6, .mv (.c (.int .i64 0)), none, 0⟩] false []) .ret) .skip))))) (.seq (.region 0 [⟨some 39, .bin .eql (.t 7) (.c (.int .i64 1)), none, 0⟩, ⟨some 38, .mv (.t 39), none, 0⟩] false []) (.cond (.t 38) (.block 3 (.seq (.region 0 [⟨some 41, .mv (.t 1), none, 0⟩, ⟨some 42, .bin .eql (.t 41) (.c (.int .i64 0)), none, 0⟩, ⟨some 43, .mv (.t 42), none, 0⟩, ⟨some 44, .mv (.t 2), some (43, false), 0⟩, ⟨some 45, .bin .eql (.t 44) (.c (.int .i64 0)), some (43, false), 0⟩, ⟨some 46, .pick (.t 43) (.c (.bool true)) (.t 45), none, 0⟩, ⟨some 40, .mv (.t 46), none, 0⟩] false []) (.cond (.t 40) (.seq (.region 0 [⟨some 6, .mv (.c (.int .i64 0)), none, 0⟩] false []) .ret) (.seq (.region 0 [⟨some 48, .mv (.t 1), none, 0⟩, ⟨some 49, .bin .eql (.t 48) (.c (.int .i64 2)), none, 0⟩, ⟨some 50, .mv (.t 49), none, 0⟩, ⟨some 51, .mv (.t 2), some (50, true), 0⟩, ⟨some 52, .bin .eql (.t 51) (.c (.int .i64 2)), some (50, true), 0⟩, ⟨some 53, .pick (.t 50) (.t 52) (.c (.bool false)), none, 0⟩, ⟨some 47, .mv (.t 53), none, 0⟩] false []) (.cond (.t 47) (.seq (.region 0 [⟨some 6, .mv (.c (.int .i64 2)), none, 0⟩] false []) .ret) .skip))))) (.block 1 (.seq (.region 0 [⟨some 9, .mv (.t 1), none, 0⟩, ⟨some 10, .bin .eql (.t 9) (.c (.int .i64 0)), none, 0⟩, ⟨some 11, .mv (.t 10), none, 0⟩, ⟨some 12, .mv (.t 2), some (11, false), 0⟩, ⟨some 13, .bin .eql (.t 12) (.c (.int .i64 2)), some (11, false), 0⟩, ⟨some 14, .pick (.t 11) (.c (.bool true)) (.t 13), none, 0⟩, ⟨some 8, .mv (.t 14), none, 0⟩] false []) (.cond (.t 8) (.seq (.region 0 [⟨some 6, .mv (.c (.int .i64 0)), none, 0⟩] false []) .ret) (.seq (.region 0 [⟨some 16, .mv (.t 1), none, 0⟩, ⟨some 17, .bin .eql (.t 16) (.c (.int .i64 2)), none, 0⟩, ⟨some 18, .mv (.t 17), none, 0⟩, ⟨some 19, .mv (.t 2), some (18, true), 0⟩, ⟨some 20, .bin .eql (.t 19) (.c (.int .i64 0)), some (18, true), 0⟩, ⟨some 21, .pick (.t 18) (.t 20) (.c (.bool false)), none, 0⟩, ⟨some 15, .mv (.t 21), none, 0⟩] false []) (.cond (.t 15) (.seq (.region 0 [⟨some 6, .mv (.c (.int .i64 2)), none, 0⟩] false []) .ret) .skip))))))))))) (.seq (.region 0 [⟨some 6, .mv (.c (.int .i64 1)), none, 0⟩] false []) .ret))), false⟩
theorem c60 : cFunc Tryd.prog G f60 Tryd.f60 = some f60 := by kernel_rfl
/-- junctionbox/junctionboxref24.status -/
def f61 : AFunc :=
⟨2, [.t 4], (.seq (.region 1 [⟨some 3, .box 37 18 (.t 1) [], none, 0⟩, ⟨some 4, .mv (.c (.int .i64 0)), none, 0⟩] false []) (.seq (.region 0 [⟨some 5, .mv (.c (.int .i64 0)), none, 0⟩] false []) (.seq (.seq (.region 0 [⟨some 8, .mv (.t 0), none, 0⟩, ⟨some 9, .len (.t 8), none, 0⟩, ⟨some 10, .mv (.c (.int .i64 0)), none, 0⟩] false []) (.block 0 (.loop [3, 5, 8, 9, 10] (.seq (.region 0 [⟨some 11, .bin .lss (.t 10) (.t 9), none, 0⟩] false []) (.seq (.cond (.t 11) .skip (.exit 0)) (.seq (.block 1 (.seq (.region 1 [⟨some 12, .iaddr 18 none (.t 8) (.t 10), none, 0⟩, ⟨some 13, .load 18 true (.t 12), none, 0⟩, ⟨some 7, .alloc 37 [.int .i64 0, .int .u8 0, .int .u8 0, .int .u8 0, .int .u8 0, .int .u8 0, .int .u8 0, .int .u8 0, .int .u8 0, .int .u8 0, .int .u8 0, .int .u8 0, .int .u8 0, .int .u8 0, .int .u8 0, .int .u8 0, .int .u8 0, .int .i64 0] [], none, 0⟩, ⟨none, .store 18 (.t 7) (.t 13), none, 0⟩] false []) (.seq (.seq (.region 0 [⟨some 14, .load 18 true (.t 7), none, 0⟩, ⟨some 15, .load 18 true (.t 3), none, 0⟩, ⟨some 16, .callV 74 [.t 14, .t 15] 0, none, 0⟩] false []) (.cond (.t 16) (.seq (.region 0 [⟨some 4, .mv (.c (.int .i64 2)), none, 0⟩] false []) .ret) .skip)) (.seq (.region 0 [⟨some 17, .load 18 true (.t 3), none, 0⟩, ⟨some 18, .load 18 true (.t 7), none, 0⟩, ⟨some 19, .callV 74 [.t 17, .t 18] 0, none, 0⟩] false []) (.cond (.t 19) (.region 0 [⟨some 5, .mv (.c (.int .i64 1)), none, 0⟩] false []) .skip))))) (.region 0 [⟨some 20, .bin .add (.t 10) (.c (.int .i64 1)), none, 0⟩, ⟨some 10, .mv (.t 20), none, 0⟩] false []))))))) (.seq (.region 0 [⟨some 21, .mv (.t 5), none, 0⟩, ⟨some 4, .mv (.t 21), none, 0⟩] false []) .ret)))), false⟩
theorem c61 : cFunc Tryd.prog G f61 Tryd.f61 = some f61 := by kernel_rfl
/-- junctionbox/junctionboxref24.Halves -/
def f62 : AFunc :=
⟨1, [.cell 2 18 true, .cell 3 18 true], (.seq (.region 3 [⟨some 1, .box 37 18 (.t 0) [], none, 0⟩, ⟨some 2, .alloc 37 [.int .i64 0, .int .u8 0, .int .u8 0, .int .u8 0, .int .u8 0, .int .u8 0, .int .u8 0, .int .u8 0, .int .u8 0, .int .u8 0, .int .u8 0, .int .u8 0, .int .u8 0, .int .u8 0, .int .u8 0, .int .u8 0, .int .u8 0, .int .i64 0] [], none, 1⟩, ⟨some 3, .alloc 37 [.int .i64 0, .int .u8 0, .int .u8 0, .int .u8 0, .int .u8 0, .int .u8 0, .int .u8 0, .int .u8 0, .int .u8 0, .int .u8 0, .int .u8 0, .int .u8 0, .int .u8 0, .int .u8 0, .int .u8 0, .int .u8 0, .int .u8 0, .int .i64 0] [], none, 2⟩] false []) (.seq (.region 2 [⟨some 6, .load 18 true (.t 1), none, 0⟩, ⟨some 7, .load 18 true (.t 1), none, 0⟩, ⟨some 4, .alloc 37 [.int .i64 0, .int .u8 0, .int .u8 0, .int .u8 0, .int .u8 0, .int .u8 0, .int .u8 0, .int .u8 0, .int .u8 0, .int .u8 0, .int .u8 0, .int .u8 0, .int .u8 0, .int .u8 0, .int .u8 0, .int .u8 0, .int .u8 0, .int .i64 0] [], none, 0⟩, ⟨some 5, .alloc 37 [.int .i64 0, .int .u8 0, .int .u8 0, .int .u8 0, .int .u8 0, .int .u8 0, .int .u8 0, .int .u8 0, .int .u8 0, .int .u8 0, .int .u8 0, .int .u8 0, .int .u8 0, .int .u8 0, .int .u8 0, .int .u8 0, .int .u8 0, .int .i64 0] [], none, 1⟩, ⟨none, .store 18 (.t 4) (.t 6), none, 0⟩, ⟨none, .store 18 (.t 5) (.t 7), none, 0⟩] true [(.t 1, .c .undef, 0), (.t 1, .c .undef, 1), (.t 1, .t 4, 0)]) (.seq (.region 0 [⟨some 8, .faddr 17 (.t 1), none, 0⟩, ⟨some 9, .load 1 false (.t 8), none, 0⟩, ⟨some 10, .bin .add (.t 9) (.c (.int .i64 1)), none, 0⟩, ⟨some 11, .faddr 17 (.t 1), none, 0⟩, ⟨some 12, .load 1 false (.t 11), none, 0⟩, ⟨some 13, .bin .add (.t 12) (.c (.int .i64 1)), none, 0⟩, ⟨some 14, .faddr 17 (.t 4), none, 0⟩, ⟨none, .store 1 (.t 14) (.t 10), none, 0⟩, ⟨some 15, .faddr 17 (.t 5), none, 0⟩, ⟨none, .store 1 (.t 15) (.t 13), none, 0⟩] true [(.t 11, .t 14, 0)]) (.seq (.region 0 [⟨some 16, .faddr 17 (.t 1), none, 0⟩, ⟨some 17, .load 1 false (.t 16), none, 0⟩, ⟨some 18, .bin .quo (.t 17) (.c (.int .i64 8)), none, 0⟩, ⟨some 19, .faddr 0 (.t 5), none, 0⟩, ⟨some 20, .faddr 1 (.t 19), none, 0⟩, ⟨some 21, .iaddr 1 (some 16) (.t 20) (.t 18), none, 0⟩, ⟨some 22, .load 1 false (.t 21), none, 0⟩, ⟨some 23, .faddr 17 (.t 1), none, 0⟩, ⟨some 24, .load 1 false (.t 23), none, 0⟩, ⟨some 25, .bin .rem (.t 24) (.c (.int .i64 8)), none, 0⟩, ⟨some 26, .bin .shr (.c (.int .u8 128)) (.t 25), none, 0⟩, ⟨some 27, .bin .or (.t 22) (.t 26), none, 0⟩, ⟨some 28, .faddr 0 (.t 5), none, 0⟩, ⟨some 29, .faddr 1 (.t 28), none, 0⟩, ⟨some 30, .iaddr 1 (some 16) (.t 29) (.t 18), none, 0⟩, ⟨none, .store 1 (.t 30) (.t 27), none, 0⟩] true []) (.seq (.region 0 [⟨some 31, .load 18 true (.t 4), none, 0⟩, ⟨some 32, .load 18 true (.t 5), none, 0⟩, ⟨none, .store 18 (.t 2) (.t 31), none, 0⟩, ⟨none, .store 18 (.t 3) (.t 32), none, 0⟩] true [(.t 5, .t 2, 0)]) .ret))))), false⟩
theorem c62 : cFunc Tryd.prog G f62 Tryd.f62 = some f62 := by kernel_rfl
/-- junctionbox/prefix.clear -/
def f63 : AFunc :=
⟨2, [.t 4], (.seq (.region 1 [⟨some 2, .box 33 16 (.t 0) [], none, 0⟩, ⟨some 4, .mv (.c (.bool false)), none, 0⟩] false []) (.seq (.seq (.region 0 [⟨some 6, .mv (.t 1), none, 0⟩, ⟨some 5, .mv (.t 6), none, 0⟩] false []) (.block 0 (.loop [2, 5] (.seq (.seq (.region 0 [⟨some 7, .mv (.t 5), none, 0⟩, ⟨some 8, .bin .lss (.t 7) (.c (.int .i64 128)), none, 0⟩] false []) (.cond (.t 8) .skip (.exit 0))) (.seq (.block 1 (.seq (.region 0 [⟨some 11, .mv (.t 5), none, 0⟩, ⟨some 12, .bin .quo (.t 11) (.c (.int .i64 8)), none, 0⟩, ⟨some 13, .iaddr 1 (some 16) (.t 2) (.t 12), none, 0⟩, ⟨some 14, .load 1 false (.t 13), none, 0⟩, ⟨some 15, .mv (.t 5), none, 0⟩, ⟨some 16, .bin .rem (.t 15) (.c (.int .i64 8)), none, 0⟩, ⟨some 17, .bin .sub (.c (.int .i64 7)) (.t 16), none, 0⟩, ⟨some 18, .bin .shr (.t 14) (.t 17), none, 0⟩, ⟨some 19, .bin .and (.t 18) (.c (.int .u8 1)), none, 0⟩, ⟨some 20, .bin .eql (.t 19) (.c (.int .u8 1)), none, 0⟩] false []) (.cond (.t 20) (.seq (.region 0 [⟨some 4, .mv (.c (.bool false)), none, 0⟩] false []) .ret) .skip))) (.region 0 [⟨some 9, .mv (.t 5), none, 0⟩, ⟨some 10, .bin .add (.t 9) (.c (.int .i64 1)), none, 0⟩, ⟨some 5, .mv (.t 10), none, 0⟩] false [])))))) (.seq (.region 0 [⟨some 4, .mv (.c (.bool true)), none, 0⟩] false []) .ret))), false⟩
theorem c63 : cFunc Tryd.prog G f63 Tryd.f63 = some f63 := by kernel_rfl
/-- junctionbox/cover.collected[junctionbox/api.Prefix] -/
def f64 : AFunc :=
⟨1, [.t 2], (.seq (.region 1 [⟨some 2, .newl 37 18, none, 0⟩] false []) (.seq (.region 2 [⟨some 3, .alloc 24 [.clip []] [(0, 37, 18)], none, 0⟩] false []) (.seq (.seq (.region 0 [⟨some 5, .mv (.t 0), none, 0⟩] false []) (.block 0 (.range (.t 5) [6] (.region 1 [⟨some 4, .alloc 37 [.int .i64 0, .int .u8 0, .int .u8 0, .int .u8 0, .int .u8 0, .int .u8 0, .int .u8 0, .int .u8 0, .int .u8 0, .int .u8 0, .int .u8 0, .int .u8 0, .int .u8 0, .int .u8 0, .int .u8 0, .int .u8 0, .int .u8 0, .int .i64 0] [], none, 0⟩, ⟨none, .store 18 (.t 4) (.t 6), none, 0⟩] false []) (.block 1 (.region 2 [⟨some 7, .load 1 false (.t 3), none, 0⟩, ⟨some 8, .load 18 true (.t 4), none, 0⟩, ⟨some 9, .buildSl 37 18 [.int .i64 0, .int .u8 0, .int .u8 0, .int .u8 0, .int .u8 0, .int .u8 0, .int .u8 0, .int .u8 0, .int .u8 0, .int .u8 0, .int .u8 0, .int .u8 0, .int .u8 0, .int .u8 0, .int .u8 0, .int .u8 0, .int .u8 0, .int .i64 0] 1 [(0, .t 8)] false, none, 0⟩, ⟨some 10, .append 37 18 32 (.t 7) (.t 9), none, 1⟩, ⟨none, .store 1 (.t 3) (.t 10), none, 0⟩] false []))))) (.seq (.region 0 [⟨some 11, .load 1 false (.t 3), none, 0⟩, ⟨some 2, .mv (.t 11), none, 0⟩] false []) .ret)))), false⟩
theorem c64 : cFunc Tryd.prog G f64 Tryd.f64 = some f64 := by kernel_rfl
/-- slices.Values[[]junctionbox/api.Prefix,junctionbox/api.Prefix]$1 -/
def f65 : AFunc :=
⟨2, [], (.seq (.region 0 [⟨some 5, .load 1 false (.t 1), none, 0⟩, ⟨some 6, .len (.t 5), none, 0⟩, ⟨some 7, .mv (.c (.int .i64 0)), none, 0⟩] false []) (.block 0 (.loop [0, 5, 6, 7] (.seq (.region 0 [⟨some 8, .bin .lss (.t 7) (.t 6), none, 0⟩] false []) (.seq (.cond (.t 8) .skip (.exit 0)) (.seq (.block 1 (.seq (.region 1 [⟨some 9, .iaddr 18 none (.t 5) (.t 7), none, 0⟩, ⟨some 10, .load 18 true (.t 9), none, 0⟩, ⟨some 4, .alloc 37 [.int .i64 0, .int .u8 0, .int .u8 0, .int .u8 0, .int .u8 0, .int .u8 0, .int .u8 0, .int .u8 0, .int .u8 0, .int .u8 0, .int .u8 0, .int .u8 0, .int .u8 0, .int .u8 0, .int .u8 0, .int .u8 0, .int .u8 0, .int .i64 0] [], none, 0⟩, ⟨none, .store 18 (.t 4) (.t 10), none, 0⟩] false []) (.seq (.region 0 [⟨some 11, .mv (.t 0), none, 0⟩, ⟨some 12, .load 18 true (.t 4), none, 0⟩, ⟨some 13, .callR (.t 11) [.t 12] 0, none, 0⟩, ⟨some 14, .not (.t 13), none, 0⟩] false []) (.cond (.t 14) .ret .skip)))) (.region 0 [⟨some 15, .bin .add (.t 7) (.c (.int .i64 1)), none, 0⟩, ⟨some 7, .mv (.t 15), none, 0⟩] false []))))))), false⟩
theorem c65 : cFunc Tryd.prog G f65 Tryd.f65 = some f65 := by kernel_rfl
/-- slices.IndexFunc[[]junctionbox/api.Prefix,junctionbox/api.Prefix] -/
def f66 : AFunc :=
⟨2, [.t 4], (.seq (.region 0 [⟨some 4, .mv (.c (.int .i64 0)), none, 0⟩] false []) (.seq (.seq (.region 0 [⟨some 6, .mv (.t 0), none, 0⟩, ⟨some 7, .len (.t 6), none, 0⟩, ⟨some 8, .mv (.c (.int .i64 0)), none, 0⟩] false []) (.block 0 (.loop [0, 1, 7, 8] (.seq (.region 0 [⟨some 9, .bin .lss (.t 8) (.t 7), none, 0⟩] false []) (.seq (.cond (.t 9) .skip (.exit 0)) (.seq (.block 1 (.seq (.region 0 [⟨some 10, .mv (.t 8), none, 0⟩, ⟨some 5, .mv (.t 10), none, 0⟩] false []) (.seq (.region 0 [⟨some 11, .mv (.t 1), none, 0⟩, ⟨some 12, .mv (.t 0), none, 0⟩, ⟨some 13, .mv (.t 5), none, 0⟩, ⟨some 14, .iaddr 18 none (.t 12) (.t 13), none, 0⟩, ⟨some 15, .load 18 true (.t 14), none, 0⟩, ⟨some 16, .callR (.t 11) [.t 15] 0, none, 0⟩] false []) (.cond (.t 16) (.seq (.region 0 [⟨some 17, .mv (.t 5), none, 0⟩, ⟨some 4, .mv (.t 17), none, 0⟩] false []) .ret) .skip)))) (.region 0 [⟨some 18, .bin .add (.t 8) (.c (.int .i64 1)), none, 0⟩, ⟨some 8, .mv (.t 18), none, 0⟩] false []))))))) (.seq (.region 0 [⟨some 4, .mv (.c (.int .i64 (-1))), none, 0⟩] false []) .ret))), false⟩
theorem c66 : cFunc Tryd.prog G f66 Tryd.f66 = some f66 := by kernel_rfl
/-- cmp.Or[int] -/
def f70 : AFunc :=
⟨1, [.t 2], (.seq (.region 0 [⟨some 2, .mv (.c (.int .i64 0)), none, 0⟩] false []) (.seq (.region 0 [⟨some 3, .mv (.c (.int .i64 0)), none, 0⟩] false []) (.seq (.seq (.region 0 [⟨some 6, .mv (.t 0), none, 0⟩, ⟨some 7, .len (.t 6), none, 0⟩, ⟨some 8, .mv (.c (.int .i64 0)), none, 0⟩] false []) (.block 0 (.loop [3, 6, 7, 8] (.seq (.region 0 [⟨some 9, .bin .lss (.t 8) (.t 7), none, 0⟩] false []) (.seq (.cond (.t 9) .skip (.exit 0)) (.seq (.block 1 (.seq (.region 0 [⟨some 10, .iaddr 1 none (.t 6) (.t 8), none, 0⟩, ⟨some 11, .load 1 false (.t 10), none, 0⟩, ⟨some 5, .mv (.t 11), none, 0⟩] false []) (.seq (.region 0 [⟨some 12, .mv (.t 5), none, 0⟩, ⟨some 13, .mv (.t 3), none, 0⟩, ⟨some 14, .bin .neq (.t 12) (.t 13), none, 0⟩] false []) (.cond (.t 14) (.seq (.region 0 [⟨some 15, .mv (.t 5), none, 0⟩, ⟨some 2, .mv (.t 15), none, 0⟩] false []) .ret) .skip)))) (.region 0 [⟨some 16, .bin .add (.t 8) (.c (.int .i64 1)), none, 0⟩, ⟨some 8, .mv (.t 16), none, 0⟩] false []))))))) (.seq (.region 0 [⟨some 17, .mv (.t 3), none, 0⟩, ⟨some 2, .mv (.t 17), none, 0⟩] false []) .ret)))), false⟩
theorem c70 : cFunc Tryd.prog G f70 Tryd.f70 = some f70 := by kernel_rfl
/-- cmp.Compare[int] -/
def f71 : AFunc :=
⟨2, [.t 4], (.seq (.region 0 [⟨some 4, .mv (.c (.int .i64 0)), none, 0⟩] false []) (.seq (.region 0 [⟨some 7, .mv (.t 0), none, 0⟩, ⟨some 8, .callV 85 [.t 7] 0, none, 0⟩, ⟨some 5, .mv (.t 8), none, 0⟩] false []) (.seq (.region 0 [⟨some 9, .mv (.t 1), none, 0⟩, ⟨some 10, .callV 85 [.t 9] 0, none, 0⟩, ⟨some 6, .mv (.t 10), none, 0⟩] false []) (.seq (.seq (.region 0 [⟨some 11, .mv (.t 5), none, 0⟩] false []) (.cond (.t 11) (.seq (.seq (.region 0 [⟨some 12, .mv (.t 6), none, 0⟩] false []) (.cond (.t 12) (.seq (.region 0 [⟨some 4, .mv (.c (.int .i64 0)), none, 0⟩] false []) .ret) .skip)) (.seq (.region 0 [⟨some 4, .mv (.c (.int .i64 (-1))), none, 0⟩] false []) .ret)) .skip)) (.seq (.seq (.region 0 [⟨some 13, .mv (.t 6), none, 0⟩] false []) (.cond (.t 13) (.seq (.region 0 [⟨some 4, .mv (.c (.int .i64 1)), none, 0⟩] false []) .ret) .skip)) (.seq (.seq (.region 0 [⟨some 14, .mv (.t 0), none, 0⟩, ⟨some 15, .mv (.t 1), none, 0⟩, ⟨some 16, .bin .lss (.t 14) (.t 15), none, 0⟩] false []) (.cond (.t 16) (.seq (.region 0 [⟨some 4, .mv (.c (.int .i64 (-1))), none, 0⟩] false []) .ret) .skip)) (.seq (.seq (.region 0 [⟨some 17, .mv (.t 0), none, 0⟩, ⟨some 18, .mv (.t 1), none, 0⟩, ⟨some 19, .bin .gtr (.t 17) (.t 18), none, 0⟩] false []) (.cond (.t 19) (.seq (.region 0 [⟨some 4, .mv (.c (.int .i64 1)), none, 0⟩] false []) .ret) .skip)) (.seq (.region 0 [⟨some 4, .mv (.c (.int .i64 0)), none, 0⟩] false []) .ret)))))))), false⟩
theorem c71 : cFunc Tryd.prog G f71 Tryd.f71 = some f71 := by kernel_rfl
/-- bytes.Compare -/
def f72 : AFunc :=
⟨2, [.t 4], (.seq (.region 0 [⟨some 4, .mv (.c (.int .i64 0)), none, 0⟩] false []) (.seq (.region 0 [⟨some 5, .mv (.t 0), none, 0⟩, ⟨some 6, .mv (.t 1), none, 0⟩, ⟨some 7, .callV 86 [.t 5, .t 6] 0, none, 0⟩, ⟨some 4, .mv (.t 7), none, 0⟩] false []) .ret)), false⟩
theorem c72 : cFunc Tryd.prog G f72 Tryd.f72 = some f72 := by kernel_rfl
/-- junctionbox/cover.bit -/
def f73 : AFunc :=
⟨1, [.t 2], (.seq (.region 0 [⟨some 2, .mv (.c (.int .u8 0)), none, 0⟩] false []) (.seq (.region 0 [⟨some 3, .mv (.t 0), none, 0⟩, ⟨some 4, .bin .rem (.t 3) (.c (.int .i64 8)), none, 0⟩, ⟨some 5, .bin .shr (.c (.int .u8 128)) (.t 4), none, 0⟩, ⟨some 2, .mv (.t 5), none, 0⟩] false []) .ret)), false⟩
theorem c73 : cFunc Tryd.prog G f73 Tryd.f73 = some f73 := by kernel_rfl
/-- junctionbox/junctionboxref05.Holds -/
def f74 : AFunc :=
⟨2, [.t 4], (.seq (.region 2 [⟨some 2, .box 37 18 (.t 0) [], none, 0⟩, ⟨some 3, .box 37 18 (.t 1) [], none, 1⟩, ⟨some 4, .mv (.c (.bool false)), none, 0⟩] false []) (.seq (.region 0 [⟨some 5, .load 18 true (.t 3), none, 0⟩, ⟨some 6, .callV 34 [.t 5] 0, none, 0⟩, ⟨some 7, .mv (.t 6), none, 0⟩, ⟨some 8, .faddr 17 (.t 2), some (7, true), 0⟩, ⟨some 9, .load 1 false (.t 8), some (7, true), 0⟩, ⟨some 10, .faddr 17 (.t 3), some (7, true), 0⟩, ⟨some 11, .load 1 false (.t 10), some (7, true), 0⟩, ⟨some 12, .bin .leq (.t 9) (.t 11), some (7, true), 0⟩, ⟨some 13, .pick (.t 7) (.t 12) (.c (.bool false)), none, 0⟩, ⟨some 14, .mv (.t 13), none, 0⟩, ⟨some 15, .load 18 true (.t 2), some (14, true), 0⟩, ⟨some 16, .faddr 0 (.t 3), some (14, true), 0⟩, ⟨some 17, .load 17 true (.t 16), some (14, true), 0⟩, ⟨some 18, .callV 87 [.t 15, .t 17] 0, some (14, true), 0⟩, ⟨some 19, .pick (.t 14) (.t 18) (.c (.bool false)), none, 0⟩, ⟨some 4, .mv (.t 19), none, 0⟩] false []) .ret)), false⟩
theorem c74 : cFunc Tryd.prog G f74 Tryd.f74 = some f74 := by kernel_rfl
/-- cmp.isNaN[int] -/
def f85 : AFunc :=
⟨1, [.t 2], (.seq (.region 0 [⟨some 2, .mv (.c (.bool false)), none, 0⟩] false []) (.seq (.region 0 [⟨some 3, .mv (.t 0), none, 0⟩, ⟨some 4, .mv (.t 0), none, 0⟩, ⟨some 5, .bin .neq (.t 3) (.t 4), none, 0⟩, ⟨some 2, .mv (.t 5), none, 0⟩] false []) .ret)), false⟩
theorem c85 : cFunc Tryd.prog G f85 Tryd.f85 = some f85 := by kernel_rfl
/-- junctionbox/junctionboxref05.Has -/
def f87 : AFunc :=
⟨2, [.t 4], (.seq (.region 2 [⟨some 2, .box 37 18 (.t 0) [], none, 0⟩, ⟨some 3, .box 35 17 (.t 1) [], none, 1⟩, ⟨some 4, .mv (.c (.bool false)), none, 0⟩] false []) (.seq (.seq (.region 0 [⟨some 6, .load 18 true (.t 2), none, 0⟩, ⟨some 7, .callV 34 [.t 6] 0, none, 0⟩, ⟨some 8, .not (.t 7), none, 0⟩, ⟨some 9, .mv (.t 8), none, 0⟩, ⟨some 10, .load 17 true (.t 3), some (9, false), 0⟩, ⟨some 11, .callV 57 [.t 10] 0, some (9, false), 0⟩, ⟨some 12, .not (.t 11), some (9, false), 0⟩, ⟨some 13, .pick (.t 9) (.c (.bool true)) (.t 12), none, 0⟩, ⟨some 14, .mv (.t 13), none, 0⟩, ⟨some 15, .faddr 0 (.t 2), some (14, false), 0⟩, ⟨some 16, .faddr 0 (.t 15), some (14, false), 0⟩, ⟨some 17, .load 1 false (.t 16), some (14, false), 0⟩, ⟨some 18, .faddr 0 (.t 3), some (14, false), 0⟩, ⟨some 19, .load 1 false (.t 18), some (14, false), 0⟩, ⟨some 20, .bin .neq (.t 17) (.t 19), some (14, false), 0⟩, ⟨some 21, .pick (.t 14) (.c (.bool true)) (.t 20), none, 0⟩] false []) (.cond (.t 21) (.seq (.region 0 [⟨some 4, .mv (.c (.bool false)), none, 0⟩] false []) .ret) .skip)) (.seq (.seq (.region 0 [⟨some 5, .mv (.c (.int .i64 0)), none, 0⟩] false []) (.block 0 (.loop [2, 3, 5] (.seq (.seq (.region 0 [⟨some 22, .mv (.t 5), none, 0⟩, ⟨some 23, .faddr 17 (.t 2), none, 0⟩, ⟨some 24, .load 1 false (.t 23), none, 0⟩, ⟨some 25, .bin .lss (.t 22) (.t 24), none, 0⟩] false []) (.cond (.t 25) .skip (.exit 0))) (.seq (.block 1 (.seq (.region 0 [⟨some 28, .faddr 0 (.t 2), none, 0⟩, ⟨some 29, .faddr 1 (.t 28), none, 0⟩, ⟨some 30, .load 16 true (.t 29), none, 0⟩, ⟨some 31, .mv (.t 5), none, 0⟩, ⟨some 32, .callV 59 [.t 30, .t 31] 0, none, 0⟩, ⟨some 33, .faddr 1 (.t 3), none, 0⟩, ⟨some 34, .load 16 true (.t 33), none, 0⟩, ⟨some 35, .mv (.t 5), none, 0⟩, ⟨some 36, .callV 59 [.t 34, .t 35] 0, none, 0⟩, ⟨some 37, .bin .neq (.t 32) (.t 36), none, 0⟩] true []) (.cond (.t 37) (.seq (.region 0 [⟨some 4, .mv (.c (.bool false)), none, 0⟩] false []) .ret) .skip))) (.region 0 [⟨some 26, .mv (.t 5), none, 0⟩, ⟨some 27, .bin .add (.t 26) (.c (.int .i64 1)), none, 0⟩, ⟨some 5, .mv (.t 27), none, 0⟩] false [])))))) (.seq (.region 0 [⟨some 4, .mv (.c (.bool true)), none, 0⟩] false []) .ret)))), false⟩
theorem c87 : cFunc Tryd.prog G f87 Tryd.f87 = some f87 := by kernel_rfl
end Go.Proofs.YtnpdaegfmfkghaaDoor.F

/- slices.Clone of this program. No condition. -/
set_option linter.unusedVariables false
set_option linter.unusedSimpArgs false
namespace Go.Proofs.YtnpdaegfmfkghaaDoor.F
open Go Go.RowKit Go.Proofs Go.Proofs.YtnpdaegfmfkghaaDoor Go.Proofs.YtnpdaegfmfkghaaDoor.J
end Go.Proofs.YtnpdaegfmfkghaaDoor.F

/- slices.Grow of this program. No condition. -/
namespace Go.Proofs.YtnpdaegfmfkghaaDoor.F
open Go Go.Proofs Go.RowKit Go.Proofs.YtnpdaegfmfkghaaDoor Go.Proofs.YtnpdaegfmfkghaaDoor.A Go.Proofs.YtnpdaegfmfkghaaDoor.J
theorem elemT_24 : ElemT Tryd.prog 24 37 18 (.agg #[.int .i64 0, .int .u8 0, .int .u8 0, .int .u8 0, .int .u8 0, .int .u8 0, .int .u8 0, .int .u8 0, .int .u8 0, .int .u8 0, .int .u8 0, .int .u8 0, .int .u8 0, .int .u8 0, .int .u8 0, .int .u8 0, .int .u8 0, .int .i64 0]) 32 := ⟨Tryd.underlying24, by kernel_rfl, rfl, by decide⟩
def grow67_ren : Go.Shelf.Ren := ⟨fun | 4 => 67 | n => n, fun | 22 => 24 | 25 => 37 | 3 => 3 | 4 => 4 | 9 => 9 | 20 => 20 | 0 => 0 | n => n, fun | n => n⟩
theorem grow67 : Go.Proofs.Lays8.n4 Tryd.prog grow67_ren := {
  mixed := by kernel_rfl,
  f4 := ⟨Tryd.f67.name, by decide, Tryd.func67.trans (congrArg some (by kernel_rfl))⟩,
  t0 := Tryd.underlying0,
  a0 := Tryd.isAgg0,
  z0 := Tryd.sizeOf0,
  v0 := Tryd.zeroValue0,
  t3 := Tryd.underlying3,
  a3 := Tryd.isAgg3,
  z3 := Tryd.sizeOf3,
  v3 := Tryd.zeroValue3,
  t4 := Tryd.underlying4,
  a4 := Tryd.isAgg4,
  z4 := Tryd.sizeOf4,
  v4 := Tryd.zeroValue4,
  t9 := Tryd.underlying9,
  a9 := Tryd.isAgg9,
  z9 := Tryd.sizeOf9,
  v9 := Tryd.zeroValue9,
  t20 := Tryd.underlying20,
  a20 := Tryd.isAgg20,
  z20 := Tryd.sizeOf20,
  v20 := Tryd.zeroValue20,
  t22 := Tryd.underlying24,
  a22 := Tryd.isAgg24,
  z22 := Tryd.sizeOf24,
  v22 := Tryd.zeroValue24 }

theorem grow67_ok {G : Nat → Option (List AV)} : PrimOk Tryd.prog G 67 (pGrow 37 18 32) :=
  pGrow_ok' (ρ := grow67_ren) grow67 elemT_24 (ent_of Tryd.func67 (by kernel_rfl) (c := _) rfl)
end Go.Proofs.YtnpdaegfmfkghaaDoor.F

/- What the evaluator is told of a comparison, ahead of the sort. No condition. -/
namespace Go.Proofs.YtnpdaegfmfkghaaDoor.F0
open Go Go.Proofs.YtnpdaegfmfkghaaDoor.A Go.Proofs.YtnpdaegfmfkghaaDoor.F
def fns : FuncId → Option AFunc
  | 55 => some f55
  | 70 => some f70
  | 71 => some f71
  | 72 => some f72
  | 85 => some f85
  | _ => none
def prims : FuncId → Option (List AV → List Blk → Option (AV × List Blk))
  | 86 => some (pCmp)
  | _ => none
def E : Env := ⟨fns, prims⟩
theorem envOk : EnvOk Tryd.prog G E := by
  refine ⟨fun f af _ h => ?_, fun f p h => ?_⟩
  · show ∃ fm g, _
    change fns f = some af at h
    unfold fns at h
    split at h
    · cases h; exact ⟨Tryd.f55, f55, Tryd.func55, by kernel_rfl, c55⟩
    · cases h; exact ⟨Tryd.f70, f70, Tryd.func70, by kernel_rfl, c70⟩
    · cases h; exact ⟨Tryd.f71, f71, Tryd.func71, by kernel_rfl, c71⟩
    · cases h; exact ⟨Tryd.f72, f72, Tryd.func72, by kernel_rfl, c72⟩
    · cases h; exact ⟨Tryd.f85, f85, Tryd.func85, by kernel_rfl, c85⟩
    · cases h
  · change prims f = some p at h
    unfold prims at h
    split at h
    · cases h; exact pCmp_ok Tryd.func86 (by kernel_rfl) (by kernel_rfl) (by kernel_rfl) (by kernel_rfl)
    · cases h
end Go.Proofs.YtnpdaegfmfkghaaDoor.F0

/- The comparison of prefixes, ahead of the sort. No condition. -/
set_option linter.unusedSimpArgs false
namespace Go.Proofs.YtnpdaegfmfkghaaDoor.F0
open Go Go.Proofs.YtnpdaegfmfkghaaDoor.A Go.Proofs.YtnpdaegfmfkghaaDoor.D Go.Proofs.YtnpdaegfmfkghaaDoor.F
theorem e_cmp_isNaN_int (v : Int) : LV E 85 [.int .i64 v] = some (.bool false) := by
  rw [LV_R (fn := f85) rfl rfl rfl]
  simp only [f85, RB, pickV, eqbV, notV, negV, convV, faddrV, fldV, idxV, eqaggV, iaddrV, isnilV, nilckV, pnilV, cloV, extrV, slenV, minV, sidxV, abin, cmpInt, params, growLists, fillCells, newAt, rdPtr, wrPtr, AV.cells, asVal, lenOf, boundOf, rowsOf, argIds, freshIn, scalar1, setAll, AV.isData, AV.isYld, Nat.reduceAdd, Nat.reduceMul, Nat.reduceSub, Nat.reduceEqDiff, Nat.reduceLeDiff, Nat.reduceLT, Int.reduceNeg, ↓reduceIte, reduceCtorEq, Int.reduceEq, Int.reduceLT, Int.reduceLE, Int.reduceBEq, Int.reduceBNe, Int.reduceToNat, IntKind.bits, Int.reduceAdd, Int.reduceSub, Int.reduceMul, Int.reduceTDiv, Int.reduceTMod, bne_self_eq_false]
theorem e_cmp_Compare_int (a b : Int) : LV E 71 [.int .i64 a, .int .i64 b] = some (.int .i64 (cmpI a b)) := by
  rw [LV_R (fn := f71) rfl rfl rfl]
  simp only [f71, RB, pickV, eqbV, notV, negV, convV, faddrV, fldV, idxV, eqaggV, iaddrV, isnilV, nilckV, pnilV, cloV, extrV, slenV, minV, sidxV, abin, cmpInt, params, growLists, fillCells, newAt, rdPtr, wrPtr, AV.cells, asVal, lenOf, boundOf, rowsOf, argIds, freshIn, scalar1, setAll, AV.isData, AV.isYld, Nat.reduceAdd, Nat.reduceMul, Nat.reduceSub, Nat.reduceEqDiff, Nat.reduceLeDiff, Nat.reduceLT, Int.reduceNeg, ↓reduceIte, reduceCtorEq, Int.reduceEq, Int.reduceLT, Int.reduceLE, Int.reduceBEq, Int.reduceBNe, Int.reduceToNat, IntKind.bits, Int.reduceAdd, Int.reduceSub, Int.reduceMul, Int.reduceTDiv, Int.reduceTMod, e_cmp_isNaN_int]
  (repeat' (first
    | (refine Ci_cases (fun h => ?_) (fun h => ?_) <;> simp only [h, RB, pickV, eqbV, notV, negV, convV, faddrV, fldV, idxV, eqaggV, iaddrV, isnilV, nilckV, pnilV, cloV, extrV, slenV, minV, sidxV, abin, cmpInt, params, growLists, fillCells, newAt, rdPtr, wrPtr, AV.cells, asVal, lenOf, boundOf, rowsOf, argIds, freshIn, scalar1, setAll, AV.isData, AV.isYld, Nat.reduceAdd, Nat.reduceMul, Nat.reduceSub, Nat.reduceEqDiff, Nat.reduceLeDiff, Nat.reduceLT, Int.reduceNeg, ↓reduceIte, reduceCtorEq, Int.reduceEq, Int.reduceLT, Int.reduceLE, Int.reduceBEq, Int.reduceBNe, Int.reduceToNat, IntKind.bits, Int.reduceAdd, Int.reduceSub, Int.reduceMul, Int.reduceTDiv, Int.reduceTMod])
    | (refine Gi_cases (fun h => ?_) (fun h => ?_) <;> simp only [h, RB, pickV, eqbV, notV, negV, convV, faddrV, fldV, idxV, eqaggV, iaddrV, isnilV, nilckV, pnilV, cloV, extrV, slenV, minV, sidxV, abin, cmpInt, params, growLists, fillCells, newAt, rdPtr, wrPtr, AV.cells, asVal, lenOf, boundOf, rowsOf, argIds, freshIn, scalar1, setAll, AV.isData, AV.isYld, Nat.reduceAdd, Nat.reduceMul, Nat.reduceSub, Nat.reduceEqDiff, Nat.reduceLeDiff, Nat.reduceLT, Int.reduceNeg, ↓reduceIte, reduceCtorEq, Int.reduceEq, Int.reduceLT, Int.reduceLE, Int.reduceBEq, Int.reduceBNe, Int.reduceToNat, IntKind.bits, Int.reduceAdd, Int.reduceSub, Int.reduceMul, Int.reduceTDiv, Int.reduceTMod])
    | (refine Gj_cases (fun h => ?_) (fun h => ?_) <;> simp only [h, RB, pickV, eqbV, notV, negV, convV, faddrV, fldV, idxV, eqaggV, iaddrV, isnilV, nilckV, pnilV, cloV, extrV, slenV, minV, sidxV, abin, cmpInt, params, growLists, fillCells, newAt, rdPtr, wrPtr, AV.cells, asVal, lenOf, boundOf, rowsOf, argIds, freshIn, scalar1, setAll, AV.isData, AV.isYld, Nat.reduceAdd, Nat.reduceMul, Nat.reduceSub, Nat.reduceEqDiff, Nat.reduceLeDiff, Nat.reduceLT, Int.reduceNeg, ↓reduceIte, reduceCtorEq, Int.reduceEq, Int.reduceLT, Int.reduceLE, Int.reduceBEq, Int.reduceBNe, Int.reduceToNat, IntKind.bits, Int.reduceAdd, Int.reduceSub, Int.reduceMul, Int.reduceTDiv, Int.reduceTMod])))
  all_goals (simp only [decide_eq_true_eq, decide_eq_false_iff_not] at *; simp only [cmpI, Option.some.injEq, AV.int.injEq, true_and]; (repeat split) <;> omega)
theorem e_bytes_Compare (a b : B16) : LV E 72 [.ro (brows a), .ro (brows b)] = some (.int .i64 (lexL (ints a) (ints b))) := by
  rw [LV_R (fn := f72) rfl rfl rfl]
  have h : LV E 86 [.ro (brows a), .ro (brows b)] = some (.int .i64 (lexL (ints a) (ints b))) := by
    rw [LV_prim (p := pCmp) rfl, cmp_b16]; rfl
  simp only [f72, RB, pickV, eqbV, notV, negV, convV, faddrV, fldV, idxV, eqaggV, iaddrV, isnilV, nilckV, pnilV, cloV, extrV, slenV, minV, sidxV, abin, cmpInt, params, growLists, fillCells, newAt, rdPtr, wrPtr, AV.cells, asVal, lenOf, boundOf, rowsOf, argIds, freshIn, scalar1, setAll, AV.isData, AV.isYld, Nat.reduceAdd, Nat.reduceMul, Nat.reduceSub, Nat.reduceEqDiff, Nat.reduceLeDiff, Nat.reduceLT, Int.reduceNeg, ↓reduceIte, reduceCtorEq, Int.reduceEq, Int.reduceLT, Int.reduceLE, Int.reduceBEq, Int.reduceBNe, Int.reduceToNat, IntKind.bits, Int.reduceAdd, Int.reduceSub, Int.reduceMul, Int.reduceTDiv, Int.reduceTMod, h]
theorem e_cmp_Or_int (a b c : Int) : LV E 70 [.clip [[.int .i64 a], [.int .i64 b], [.int .i64 c]]] = some (.int .i64 (if a ≠ 0 then a else if b ≠ 0 then b else c)) := by
  rw [LV_R (fn := f70) rfl rfl rfl]
  simp only [f70, RB, pickV, eqbV, notV, negV, convV, faddrV, fldV, idxV, eqaggV, iaddrV, isnilV, nilckV, pnilV, cloV, extrV, slenV, minV, sidxV, abin, cmpInt, params, growLists, fillCells, newAt, rdPtr, wrPtr, AV.cells, asVal, lenOf, boundOf, rowsOf, argIds, freshIn, scalar1, setAll, AV.isData, AV.isYld, Nat.reduceAdd, Nat.reduceMul, Nat.reduceSub, Nat.reduceEqDiff, Nat.reduceLeDiff, Nat.reduceLT, Int.reduceNeg, ↓reduceIte, reduceCtorEq, Int.reduceEq, Int.reduceLT, Int.reduceLE, Int.reduceBEq, Int.reduceBNe, Int.reduceToNat, IntKind.bits, Int.reduceAdd, Int.reduceSub, Int.reduceMul, Int.reduceTDiv, Int.reduceTMod]
  by_cases ha : a = 0
  · subst ha
    by_cases hb : b = 0
    · subst hb
      by_cases hc : c = 0
      · subst hc
        simp only [RB, pickV, eqbV, notV, negV, convV, faddrV, fldV, idxV, eqaggV, iaddrV, isnilV, nilckV, pnilV, cloV, extrV, slenV, minV, sidxV, abin, cmpInt, params, growLists, fillCells, newAt, rdPtr, wrPtr, AV.cells, asVal, lenOf, boundOf, rowsOf, argIds, freshIn, scalar1, setAll, AV.isData, AV.isYld, Nat.reduceAdd, Nat.reduceMul, Nat.reduceSub, Nat.reduceEqDiff, Nat.reduceLeDiff, Nat.reduceLT, Int.reduceNeg, ↓reduceIte, reduceCtorEq, Int.reduceEq, Int.reduceLT, Int.reduceLE, Int.reduceBEq, Int.reduceBNe, Int.reduceToNat, IntKind.bits, Int.reduceAdd, Int.reduceSub, Int.reduceMul, Int.reduceTDiv, Int.reduceTMod, W_go, LPB, bne_self_eq_false, Nat.le_refl, IntWalk.i64_in]
      · simp only [RB, pickV, eqbV, notV, negV, convV, faddrV, fldV, idxV, eqaggV, iaddrV, isnilV, nilckV, pnilV, cloV, extrV, slenV, minV, sidxV, abin, cmpInt, params, growLists, fillCells, newAt, rdPtr, wrPtr, AV.cells, asVal, lenOf, boundOf, rowsOf, argIds, freshIn, scalar1, setAll, AV.isData, AV.isYld, Nat.reduceAdd, Nat.reduceMul, Nat.reduceSub, Nat.reduceEqDiff, Nat.reduceLeDiff, Nat.reduceLT, Int.reduceNeg, ↓reduceIte, reduceCtorEq, Int.reduceEq, Int.reduceLT, Int.reduceLE, Int.reduceBEq, Int.reduceBNe, Int.reduceToNat, IntKind.bits, Int.reduceAdd, Int.reduceSub, Int.reduceMul, Int.reduceTDiv, Int.reduceTMod, W_go, LPB, bne_self_eq_false, bne_iff_ne.2 hc, Nat.le_refl]
    · simp only [RB, pickV, eqbV, notV, negV, convV, faddrV, fldV, idxV, eqaggV, iaddrV, isnilV, nilckV, pnilV, cloV, extrV, slenV, minV, sidxV, abin, cmpInt, params, growLists, fillCells, newAt, rdPtr, wrPtr, AV.cells, asVal, lenOf, boundOf, rowsOf, argIds, freshIn, scalar1, setAll, AV.isData, AV.isYld, Nat.reduceAdd, Nat.reduceMul, Nat.reduceSub, Nat.reduceEqDiff, Nat.reduceLeDiff, Nat.reduceLT, Int.reduceNeg, ↓reduceIte, reduceCtorEq, Int.reduceEq, Int.reduceLT, Int.reduceLE, Int.reduceBEq, Int.reduceBNe, Int.reduceToNat, IntKind.bits, Int.reduceAdd, Int.reduceSub, Int.reduceMul, Int.reduceTDiv, Int.reduceTMod, W_go, LPB, bne_self_eq_false, bne_iff_ne.2 hb, hb]
  · simp only [RB, pickV, eqbV, notV, negV, convV, faddrV, fldV, idxV, eqaggV, iaddrV, isnilV, nilckV, pnilV, cloV, extrV, slenV, minV, sidxV, abin, cmpInt, params, growLists, fillCells, newAt, rdPtr, wrPtr, AV.cells, asVal, lenOf, boundOf, rowsOf, argIds, freshIn, scalar1, setAll, AV.isData, AV.isYld, Nat.reduceAdd, Nat.reduceMul, Nat.reduceSub, Nat.reduceEqDiff, Nat.reduceLeDiff, Nat.reduceLT, Int.reduceNeg, ↓reduceIte, reduceCtorEq, Int.reduceEq, Int.reduceLT, Int.reduceLE, Int.reduceBEq, Int.reduceBNe, Int.reduceToNat, IntKind.bits, Int.reduceAdd, Int.reduceSub, Int.reduceMul, Int.reduceTDiv, Int.reduceTMod, W_go, LPB, bne_self_eq_false, bne_iff_ne.2 ha, ha]
theorem e_prefix_Compare (p q : Pfx) : LV E 55 [.agg (pav p), .agg (pav q)] = some (.int .i64 (cmpP p q)) := by
  rw [LV_R (fn := f55) rfl rfl rfl]
  have hb : ∀ b : B16, (bav b).map (fun c => [c]) = brows b := fun _ => rfl
  simp only [f55, RB, pickV, eqbV, notV, negV, convV, faddrV, fldV, idxV, eqaggV, iaddrV, isnilV, nilckV, pnilV, cloV, extrV, slenV, minV, sidxV, abin, cmpInt, params, growLists, fillCells, newAt, rdPtr, wrPtr, AV.cells, asVal, lenOf, boundOf, rowsOf, argIds, freshIn, scalar1, setAll, AV.isData, AV.isYld, Nat.reduceAdd, Nat.reduceMul, Nat.reduceSub, Nat.reduceEqDiff, Nat.reduceLeDiff, Nat.reduceLT, Int.reduceNeg, ↓reduceIte, reduceCtorEq, Int.reduceEq, Int.reduceLT, Int.reduceLE, Int.reduceBEq, Int.reduceBNe, Int.reduceToNat, IntKind.bits, Int.reduceAdd, Int.reduceSub, Int.reduceMul, Int.reduceTDiv, Int.reduceTMod, DB, e_cmp_Compare_int, aop, O_buildSlq, quietOk, hb, e_bytes_Compare, e_cmp_Or_int, fillRows, asData]
  rw [cmp_key]
end Go.Proofs.YtnpdaegfmfkghaaDoor.F0

/- Prefixes in order: the order, ahead of the sort; the sort. No condition. -/
set_option linter.unusedSimpArgs false
namespace Go.Proofs.YtnpdaegfmfkghaaDoor.D
open Go Go.Proofs.YtnpdaegfmfkghaaDoor.A Go.Proofs.YtnpdaegfmfkghaaDoor.F
instance : Inhabited Pfx := ⟨zerP⟩
theorem cmpP_lt (a b : Pfx) : ltOf cmpP a b = true ↔ cmpP a b < 0 := by unfold ltOf; rw [decide_eq_true_eq]
theorem cmpP_swo : Sort.SWO (ltOf cmpP) where
  irrefl x := by rw [← Bool.not_eq_true, cmpP_lt, cmp_self]; omega
  trans x y z h1 h2 := by rw [cmpP_lt] at *; exact cmp_trans h1 h2
  ntrans x y z h1 h2 := by
    rw [← Bool.not_eq_true, cmpP_lt] at *
    have t := @cmp_trans x y z
    have t2 := @cmp_trans z y x
    have a1 := cmp_anti x y
    have a2 := cmp_anti y z
    have a3 := cmp_anti x z
    have z1 := @cmp_zero x y
    have z2 := @cmp_zero y z
    intro h3
    by_cases e1 : cmpP x y = 0
    · have := z1 e1; rw [this] at h1 h3; omega
    · by_cases e2 : cmpP y z = 0
      · have := z2 e2; rw [← this] at h3 h2; omega
      · omega
theorem cmpP_tot (x y : Pfx) (h1 : ltOf cmpP x y = false) (h2 : ltOf cmpP y x = false) : x = y := by
  rw [← Bool.not_eq_true, cmpP_lt] at *
  have a1 := cmp_anti x y
  exact cmp_zero (by omega)
theorem pav_inj (p q : Pfx) (h : pav p = pav q) : p = q := by
  have h1 := eq_pav p q
  have h2 := eq_pav p p
  rw [← h, h2] at h1
  simpa using h1
theorem bav_plain (b : B16) : ∀ a ∈ bav b, plainA a = true := fun a h => by
  unfold bav at h
  obtain ⟨x, _, rfl⟩ := List.mem_map.1 h; rfl
theorem pav_plain (p : Pfx) : ∀ a ∈ pav p, plainA a = true := fun a h => by
  unfold pav at h
  simp only [List.mem_cons, List.mem_append, List.not_mem_nil, or_false] at h
  rcases h with rfl | h | rfl
  · rfl
  · exact bav_plain _ a h
  · rfl
end Go.Proofs.YtnpdaegfmfkghaaDoor.D
namespace Go.Proofs.YtnpdaegfmfkghaaDoor.F0
open Go Go.Proofs.YtnpdaegfmfkghaaDoor.A Go.Proofs.YtnpdaegfmfkghaaDoor.D Go.Proofs.YtnpdaegfmfkghaaDoor.F
def sort54_ren : Go.Shelf.Ren := ⟨fun | 6 => 54 | 15 => 69 | 14 => 68 | 28 => 83 | 29 => 84 | 20 => 75 | 21 => 76 | 22 => 77 | 23 => 78 | 24 => 79 | 25 => 80 | 26 => 81 | 27 => 82 | 46 => 88 | 47 => 89 | 48 => 90 | 49 => 91 | 50 => 92 | 57 => 93 | n => n, fun | 22 => 24 | 24 => 37 | 25 => 78 | 3 => 3 | 39 => 92 | 0 => 0 | 53 => 106 | 55 => 108 | 4 => 4 | 46 => 99 | 45 => 98 | 50 => 103 | 5 => 5 | 9 => 9 | 66 => 111 | 70 => 115 | 76 => 117 | 77 => 118 | n => n, fun | n => n⟩
theorem sort54 : Go.Proofs.SlLaysF0.n6 Tryd.prog sort54_ren := {
  mixed := by kernel_rfl,
  f6 := ⟨Tryd.f54.name, by decide, Tryd.func54.trans (congrArg some (by kernel_rfl))⟩,
  f14 := ⟨Tryd.f68.name, by decide, Tryd.func68.trans (congrArg some (by kernel_rfl))⟩,
  f15 := Tryd.func69.trans (congrArg some (by kernel_rfl)),
  f20 := ⟨Tryd.f75.name, by decide, Tryd.func75.trans (congrArg some (by kernel_rfl))⟩,
  f21 := ⟨Tryd.f76.name, by decide, Tryd.func76.trans (congrArg some (by kernel_rfl))⟩,
  f22 := ⟨Tryd.f77.name, by decide, Tryd.func77.trans (congrArg some (by kernel_rfl))⟩,
  f23 := ⟨Tryd.f78.name, by decide, Tryd.func78.trans (congrArg some (by kernel_rfl))⟩,
  f24 := ⟨Tryd.f79.name, by decide, Tryd.func79.trans (congrArg some (by kernel_rfl))⟩,
  f25 := ⟨Tryd.f80.name, by decide, Tryd.func80.trans (congrArg some (by kernel_rfl))⟩,
  f26 := ⟨Tryd.f81.name, by decide, Tryd.func81.trans (congrArg some (by kernel_rfl))⟩,
  f27 := ⟨Tryd.f82.name, by decide, Tryd.func82.trans (congrArg some (by kernel_rfl))⟩,
  f28 := Tryd.func83.trans (congrArg some (by kernel_rfl)),
  f29 := Tryd.func84.trans (congrArg some (by kernel_rfl)),
  f46 := ⟨Tryd.f88.name, by decide, Tryd.func88.trans (congrArg some (by kernel_rfl))⟩,
  f47 := Tryd.func89.trans (congrArg some (by kernel_rfl)),
  f48 := Tryd.func90.trans (congrArg some (by kernel_rfl)),
  f49 := ⟨Tryd.f91.name, by decide, Tryd.func91.trans (congrArg some (by kernel_rfl))⟩,
  f50 := ⟨Tryd.f92.name, by decide, Tryd.func92.trans (congrArg some (by kernel_rfl))⟩,
  f57 := ⟨Tryd.f93.name, by decide, Tryd.func93.trans (congrArg some (by kernel_rfl))⟩,
  t0 := Tryd.underlying0,
  a0 := Tryd.isAgg0,
  z0 := Tryd.sizeOf0,
  v0 := Tryd.zeroValue0,
  t3 := Tryd.underlying3,
  a3 := Tryd.isAgg3,
  z3 := Tryd.sizeOf3,
  v3 := Tryd.zeroValue3,
  t4 := Tryd.underlying4,
  a4 := Tryd.isAgg4,
  z4 := Tryd.sizeOf4,
  v4 := Tryd.zeroValue4,
  t5 := Tryd.underlying5,
  a5 := Tryd.isAgg5,
  z5 := Tryd.sizeOf5,
  v5 := Tryd.zeroValue5,
  t9 := Tryd.underlying9,
  a9 := Tryd.isAgg9,
  z9 := Tryd.sizeOf9,
  v9 := Tryd.zeroValue9,
  t22 := Tryd.underlying24,
  a22 := Tryd.isAgg24,
  z22 := Tryd.sizeOf24,
  v22 := Tryd.zeroValue24,
  t25 := Tryd.underlying78,
  a25 := Tryd.isAgg78,
  z25 := Tryd.sizeOf78,
  v25 := Tryd.zeroValue78,
  t39 := Tryd.underlying92,
  a39 := Tryd.isAgg92,
  z39 := Tryd.sizeOf92,
  v39 := Tryd.zeroValue92,
  t45 := Tryd.underlying98,
  a45 := Tryd.isAgg98,
  z45 := Tryd.sizeOf98,
  v45 := Tryd.zeroValue98,
  t46 := Tryd.underlying99,
  a46 := Tryd.isAgg99,
  z46 := Tryd.sizeOf99,
  v46 := Tryd.zeroValue99,
  t50 := Tryd.underlying103,
  a50 := Tryd.isAgg103,
  z50 := Tryd.sizeOf103,
  v50 := Tryd.zeroValue103,
  t53 := Tryd.underlying106,
  a53 := Tryd.isAgg106,
  z53 := Tryd.sizeOf106,
  v53 := Tryd.zeroValue106,
  t55 := Tryd.underlying108,
  a55 := Tryd.isAgg108,
  z55 := Tryd.sizeOf108,
  v55 := Tryd.zeroValue108,
  t66 := Tryd.underlying111,
  a66 := Tryd.isAgg111,
  z66 := Tryd.sizeOf111,
  v66 := Tryd.zeroValue111,
  t70 := Tryd.underlying115,
  a70 := Tryd.isAgg115,
  z70 := Tryd.sizeOf115,
  v70 := Tryd.zeroValue115,
  t76 := Tryd.underlying117,
  a76 := Tryd.isAgg117,
  z76 := Tryd.sizeOf117,
  v76 := Tryd.zeroValue117,
  t77 := Tryd.underlying118,
  a77 := Tryd.isAgg118,
  z77 := Tryd.sizeOf118,
  v77 := Tryd.zeroValue118 }

theorem sort_ok : PrimOk Tryd.prog G 54 (pSort pav (decOf pav) cmpP 37 18 55) :=
  pSort_ok (ρ := sort54_ren) sort54 (ent_of Tryd.func54 (by kernel_rfl) (c := _) rfl) Tryd.isAgg37 Tryd.sizeOf37 pav_len pav_plain decOf_ok cmpP_swo cmpP_tot envOk e_prefix_Compare (ent_of Tryd.func55 (by kernel_rfl) (c := _) rfl)
end Go.Proofs.YtnpdaegfmfkghaaDoor.F0

/- What the evaluator is told of the functions. No condition. -/
namespace Go.Proofs.YtnpdaegfmfkghaaDoor.F
open Go Go.Proofs.YtnpdaegfmfkghaaDoor.A
def fns : FuncId → Option AFunc
  | 3 => some f3
  | 4 => some f4
  | 5 => some f5
  | 6 => some f6
  | 7 => some f7
  | 8 => some f8
  | 9 => some f9
  | 10 => some f10
  | 11 => some f11
  | 12 => some f12
  | 13 => some f13
  | 14 => some f14
  | 15 => some f15
  | 16 => some f16
  | 17 => some f17
  | 18 => some f18
  | 19 => some f19
  | 20 => some f20
  | 21 => some f21
  | 22 => some f22
  | 23 => some f23
  | 24 => some f24
  | 25 => some f25
  | 26 => some f26
  | 27 => some f27
  | 28 => some f28
  | 29 => some f29
  | 30 => some f30
  | 31 => some f31
  | 32 => some f32
  | 33 => some f33
  | 34 => some f34
  | 35 => some f35
  | 36 => some f36
  | 37 => some f37
  | 38 => some f38
  | 39 => some f39
  | 40 => some f40
  | 41 => some f41
  | 42 => some f42
  | 43 => some f43
  | 44 => some f44
  | 45 => some f45
  | 46 => some f46
  | 47 => some f47
  | 48 => some f48
  | 49 => some f49
  | 50 => some f50
  | 51 => some f51
  | 52 => some f52
  | 53 => some f53
  | 55 => some f55
  | 56 => some f56
  | 57 => some f57
  | 58 => some f58
  | 59 => some f59
  | 60 => some f60
  | 61 => some f61
  | 62 => some f62
  | 63 => some f63
  | 64 => some f64
  | 65 => some f65
  | 66 => some f66
  | 70 => some f70
  | 71 => some f71
  | 72 => some f72
  | 73 => some f73
  | 74 => some f74
  | 85 => some f85
  | 87 => some f87
  | _ => none
noncomputable def prims : FuncId → Option (List AV → List Blk → Option (AV × List Blk))
  | 54 => some (pSort D.pav (decOf D.pav) D.cmpP 37 18 55)
  | 67 => some (pGrow 37 18 32)
  | 86 => some (pCmp)
  | _ => none
noncomputable def E : Env := ⟨fns, prims⟩
theorem envOk : EnvOk Tryd.prog G E := by
  refine ⟨fun f af _ h => ?_, fun f p h => ?_⟩
  · show ∃ fm g, _
    change fns f = some af at h
    unfold fns at h
    split at h
    · cases h; exact ⟨Tryd.f3, f3, Tryd.func3, by kernel_rfl, c3⟩
    · cases h; exact ⟨Tryd.f4, f4, Tryd.func4, by kernel_rfl, c4⟩
    · cases h; exact ⟨Tryd.f5, f5, Tryd.func5, by kernel_rfl, c5⟩
    · cases h; exact ⟨Tryd.f6, f6, Tryd.func6, by kernel_rfl, c6⟩
    · cases h; exact ⟨Tryd.f7, f7, Tryd.func7, by kernel_rfl, c7⟩
    · cases h; exact ⟨Tryd.f8, f8, Tryd.func8, by kernel_rfl, c8⟩
    · cases h; exact ⟨Tryd.f9, f9, Tryd.func9, by kernel_rfl, c9⟩
    · cases h; exact ⟨Tryd.f10, f10, Tryd.func10, by kernel_rfl, c10⟩
    · cases h; exact ⟨Tryd.f11, f11, Tryd.func11, by kernel_rfl, c11⟩
    · cases h; exact ⟨Tryd.f12, f12, Tryd.func12, by kernel_rfl, c12⟩
    · cases h; exact ⟨Tryd.f13, f13, Tryd.func13, by kernel_rfl, c13⟩
    · cases h; exact ⟨Tryd.f14, f14, Tryd.func14, by kernel_rfl, c14⟩
    · cases h; exact ⟨Tryd.f15, f15, Tryd.func15, by kernel_rfl, c15⟩
    · cases h; exact ⟨Tryd.f16, f16, Tryd.func16, by kernel_rfl, c16⟩
    · cases h; exact ⟨Tryd.f17, f17, Tryd.func17, by kernel_rfl, c17⟩
    · cases h; exact ⟨Tryd.f18, f18, Tryd.func18, by kernel_rfl, c18⟩
    · cases h; exact ⟨Tryd.f19, f19, Tryd.func19, by kernel_rfl, c19⟩
    · cases h; exact ⟨Tryd.f20, f20, Tryd.func20, by kernel_rfl, c20⟩
    · cases h; exact ⟨Tryd.f21, f21, Tryd.func21, by kernel_rfl, c21⟩
    · cases h; exact ⟨Tryd.f22, f22, Tryd.func22, by kernel_rfl, c22⟩
    · cases h; exact ⟨Tryd.f23, f23, Tryd.func23, by kernel_rfl, c23⟩
    · cases h; exact ⟨Tryd.f24, f24, Tryd.func24, by kernel_rfl, c24⟩
    · cases h; exact ⟨Tryd.f25, f25, Tryd.func25, by kernel_rfl, c25⟩
    · cases h; exact ⟨Tryd.f26, f26, Tryd.func26, by kernel_rfl, c26⟩
    · cases h; exact ⟨Tryd.f27, f27, Tryd.func27, by kernel_rfl, c27⟩
    · cases h; exact ⟨Tryd.f28, f28, Tryd.func28, by kernel_rfl, c28⟩
    · cases h; exact ⟨Tryd.f29, f29, Tryd.func29, by kernel_rfl, c29⟩
    · cases h; exact ⟨Tryd.f30, f30, Tryd.func30, by kernel_rfl, c30⟩
    · cases h; exact ⟨Tryd.f31, f31, Tryd.func31, by kernel_rfl, c31⟩
    · cases h; exact ⟨Tryd.f32, f32, Tryd.func32, by kernel_rfl, c32⟩
    · cases h; exact ⟨Tryd.f33, f33, Tryd.func33, by kernel_rfl, c33⟩
    · cases h; exact ⟨Tryd.f34, f34, Tryd.func34, by kernel_rfl, c34⟩
    · cases h; exact ⟨Tryd.f35, f35, Tryd.func35, by kernel_rfl, c35⟩
    · cases h; exact ⟨Tryd.f36, f36, Tryd.func36, by kernel_rfl, c36⟩
    · cases h; exact ⟨Tryd.f37, f37, Tryd.func37, by kernel_rfl, c37⟩
    · cases h; exact ⟨Tryd.f38, f38, Tryd.func38, by kernel_rfl, c38⟩
    · cases h; exact ⟨Tryd.f39, f39, Tryd.func39, by kernel_rfl, c39⟩
    · cases h; exact ⟨Tryd.f40, f40, Tryd.func40, by kernel_rfl, c40⟩
    · cases h; exact ⟨Tryd.f41, f41, Tryd.func41, by kernel_rfl, c41⟩
    · cases h; exact ⟨Tryd.f42, f42, Tryd.func42, by kernel_rfl, c42⟩
    · cases h; exact ⟨Tryd.f43, f43, Tryd.func43, by kernel_rfl, c43⟩
    · cases h; exact ⟨Tryd.f44, f44, Tryd.func44, by kernel_rfl, c44⟩
    · cases h; exact ⟨Tryd.f45, f45, Tryd.func45, by kernel_rfl, c45⟩
    · cases h; exact ⟨Tryd.f46, f46, Tryd.func46, by kernel_rfl, c46⟩
    · cases h; exact ⟨Tryd.f47, f47, Tryd.func47, by kernel_rfl, c47⟩
    · cases h; exact ⟨Tryd.f48, f48, Tryd.func48, by kernel_rfl, c48⟩
    · cases h; exact ⟨Tryd.f49, f49, Tryd.func49, by kernel_rfl, c49⟩
    · cases h; exact ⟨Tryd.f50, f50, Tryd.func50, by kernel_rfl, c50⟩
    · cases h; exact ⟨Tryd.f51, f51, Tryd.func51, by kernel_rfl, c51⟩
    · cases h; exact ⟨Tryd.f52, f52, Tryd.func52, by kernel_rfl, c52⟩
    · cases h; exact ⟨Tryd.f53, f53, Tryd.func53, by kernel_rfl, c53⟩
    · cases h; exact ⟨Tryd.f55, f55, Tryd.func55, by kernel_rfl, c55⟩
    · cases h; exact ⟨Tryd.f56, f56, Tryd.func56, by kernel_rfl, c56⟩
    · cases h; exact ⟨Tryd.f57, f57, Tryd.func57, by kernel_rfl, c57⟩
    · cases h; exact ⟨Tryd.f58, f58, Tryd.func58, by kernel_rfl, c58⟩
    · cases h; exact ⟨Tryd.f59, f59, Tryd.func59, by kernel_rfl, c59⟩
    · cases h; exact ⟨Tryd.f60, f60, Tryd.func60, by kernel_rfl, c60⟩
    · cases h; exact ⟨Tryd.f61, f61, Tryd.func61, by kernel_rfl, c61⟩
    · cases h; exact ⟨Tryd.f62, f62, Tryd.func62, by kernel_rfl, c62⟩
    · cases h; exact ⟨Tryd.f63, f63, Tryd.func63, by kernel_rfl, c63⟩
    · cases h; exact ⟨Tryd.f64, f64, Tryd.func64, by kernel_rfl, c64⟩
    · cases h; exact ⟨Tryd.f65, f65, Tryd.func65, by kernel_rfl, c65⟩
    · cases h; exact ⟨Tryd.f66, f66, Tryd.func66, by kernel_rfl, c66⟩
    · cases h; exact ⟨Tryd.f70, f70, Tryd.func70, by kernel_rfl, c70⟩
    · cases h; exact ⟨Tryd.f71, f71, Tryd.func71, by kernel_rfl, c71⟩
    · cases h; exact ⟨Tryd.f72, f72, Tryd.func72, by kernel_rfl, c72⟩
    · cases h; exact ⟨Tryd.f73, f73, Tryd.func73, by kernel_rfl, c73⟩
    · cases h; exact ⟨Tryd.f74, f74, Tryd.func74, by kernel_rfl, c74⟩
    · cases h; exact ⟨Tryd.f85, f85, Tryd.func85, by kernel_rfl, c85⟩
    · cases h; exact ⟨Tryd.f87, f87, Tryd.func87, by kernel_rfl, c87⟩
    · cases h
  · change prims f = some p at h
    unfold prims at h
    split at h
    · cases h; exact F0.sort_ok
    · cases h; exact grow67_ok
    · cases h; exact pCmp_ok Tryd.func86 (by kernel_rfl) (by kernel_rfl) (by kernel_rfl) (by kernel_rfl)
    · cases h
end Go.Proofs.YtnpdaegfmfkghaaDoor.F
