/- Part 7 of the proofs of these statements. No condition. -/
import Derived.Test.YtgajekpigkknnaaDoorM6
import Derived.Shelf.Spec.SlicesGrow
import Derived.Test.YtgajekpigkknnaaDoorProg
import Derived.KernelRfl
set_option linter.unusedVariables false
set_option linter.unusedSimpArgs false
/- Functions in the evaluator's form, 2. No condition. -/
namespace Go.Proofs.YtgajekpigkknnaaDoor.F
open Go Go.Proofs.YtgajekpigkknnaaDoor.A
/-- junctionbox/plan.but -/
def f58 : AFunc :=
⟨3, [.t 6], (.seq (.region 3 [⟨some 3, .box 46 1 (.t 0) [], none, 0⟩, ⟨some 4, .box 46 1 (.t 1) [], none, 1⟩, ⟨some 5, .box 81 1 (.t 2) [], none, 2⟩, ⟨some 6, .mv (.c (.nilf)), none, 0⟩] false []) (.seq (.region 0 [⟨some 7, .clo 83 [.t 3, .t 4, .t 5], none, 0⟩, ⟨some 6, .mv (.t 7), none, 0⟩] false []) .ret)), false⟩
theorem c58 : cFunc Tryd.prog G f58 Tryd.f58 = some f58 := by kernel_rfl
/-- junctionbox/plan.leads$1$1 -/
def f59 : AFunc :=
⟨2, [.t 4], (.seq (.region 2 [⟨some 2, .box 53 21 (.t 0) [], none, 0⟩, ⟨some 3, .box 53 21 (.t 1) [], none, 1⟩, ⟨some 4, .mv (.c (.bool false)), none, 0⟩] false []) (.seq (.region 0 [⟨some 4, .mv (.c (.bool true)), none, 0⟩] false []) .ret)), false⟩
theorem c59 : cFunc Tryd.prog G f59 Tryd.f59 = some f59 := by kernel_rfl
/-- junctionbox/plan.leads$2 -/
def f60 : AFunc :=
⟨3, [], (.seq (.region 0 [⟨some 3, .boxY (.t 0), none, 0⟩] false []) (.seq (.region 0 [⟨some 5, .load 1 true (.t 1), none, 0⟩, ⟨some 6, .load 1 true (.t 2), none, 0⟩, ⟨some 7, .callR (.c (.clo 58 [])) [.t 5, .t 6, .c (.clo 61 [])] 1, none, 0⟩] false []) (.block 0 (.range (.t 7) [8] (.region 1 [⟨some 4, .alloc 53 [.int .i64 0, .int .u8 0, .int .u8 0, .int .u8 0, .int .u8 0, .int .u8 0, .int .u8 0, .int .u8 0, .int .u8 0, .int .u8 0, .int .u8 0, .int .u8 0, .int .u8 0, .int .u8 0, .int .u8 0, .int .u8 0, .int .u8 0, .int .i64 0, .int .i64 0, .int .i64 0, .int .i64 0] [], none, 0⟩, ⟨none, .store 21 (.t 4) (.t 8), none, 0⟩] false []) (.block 1 (.seq (.region 0 [⟨some 9, .loadY (.t 3), none, 0⟩, ⟨some 10, .faddr 0 (.t 4), none, 0⟩, ⟨some 11, .load 18 true (.t 10), none, 0⟩, ⟨some 12, .faddr 18 (.t 4), none, 0⟩, ⟨some 13, .load 1 false (.t 12), none, 0⟩, ⟨some 14, .faddr 19 (.t 4), none, 0⟩, ⟨some 15, .load 1 false (.t 14), none, 0⟩, ⟨some 16, .faddr 20 (.t 4), none, 0⟩, ⟨some 17, .load 1 false (.t 16), none, 0⟩, ⟨some 18, .build [.int .i64 0, .int .u8 0, .int .u8 0, .int .u8 0, .int .u8 0, .int .u8 0, .int .u8 0, .int .u8 0, .int .u8 0, .int .u8 0, .int .u8 0, .int .u8 0, .int .u8 0, .int .u8 0, .int .u8 0, .int .u8 0, .int .u8 0, .int .i64 0, .int .i64 0, .bool false, .int .i64 0, .int .i64 0] [(0, 18, .t 11), (18, 1, .t 13), (20, 1, .t 15), (21, 1, .t 17)] [], none, 0⟩, ⟨some 19, .callR (.t 9) [.t 18] 0, none, 0⟩, ⟨some 20, .not (.t 19), none, 0⟩] false []) (.cond (.t 20) .ret .skip))))))), false⟩
theorem c60 : cFunc Tryd.prog G f60 Tryd.f60 = some f60 := by kernel_rfl
/-- junctionbox/plan.leads$2$1 -/
def f61 : AFunc :=
⟨2, [.t 4], (.seq (.region 2 [⟨some 2, .box 53 21 (.t 0) [], none, 0⟩, ⟨some 3, .box 53 21 (.t 1) [], none, 1⟩, ⟨some 4, .mv (.c (.bool false)), none, 0⟩] false []) (.seq (.region 0 [⟨some 5, .load 21 true (.t 2), none, 0⟩, ⟨some 6, .load 21 true (.t 3), none, 0⟩, ⟨some 7, .eqagg false [1, 1, 1, 1, 1, 1, 1, 1, 1, 1, 1, 1, 1, 1, 1, 1, 1, 1, 1, 1, 1] (.t 5) (.t 6), none, 0⟩, ⟨some 4, .mv (.t 7), none, 0⟩] false []) .ret)), false⟩
theorem c61 : cFunc Tryd.prog G f61 Tryd.f61 = some f61 := by kernel_rfl
/-- junctionbox/plan.row -/
def f62 : AFunc :=
⟨2, [.t 4], (.seq (.region 2 [⟨some 2, .box 3 1 (.t 0) [], none, 0⟩, ⟨some 4, .newl 42 22, none, 1⟩] false []) (.seq (.region 2 [⟨some 5, .alloc 24 [.clip []] [(0, 42, 22)], none, 0⟩] false []) (.seq (.seq (.region 0 [⟨some 9, .mv (.t 1), none, 0⟩, ⟨some 10, .len (.t 9), none, 0⟩, ⟨some 11, .mv (.c (.int .i64 0)), none, 0⟩] false []) (.block 0 (.loop [2, 4, 5, 9, 10, 11] (.seq (.region 0 [⟨some 12, .bin .lss (.t 11) (.t 10), none, 0⟩] false []) (.seq (.cond (.t 12) .skip (.exit 0)) (.seq (.block 1 (.seq (.region 0 [⟨some 13, .iaddr 1 none (.t 9) (.t 11), none, 0⟩, ⟨some 14, .load 1 false (.t 13), none, 0⟩, ⟨some 7, .mv (.t 14), none, 0⟩] false []) (.seq (.region 0 [⟨some 15, .mv (.t 7), none, 0⟩] false []) (.block 2 (.range (.t 15) [16] (.region 1 [⟨some 8, .alloc 42 [.int .i64 0, .int .u8 0, .int .u8 0, .int .u8 0, .int .u8 0, .int .u8 0, .int .u8 0, .int .u8 0, .int .u8 0, .int .u8 0, .int .u8 0, .int .u8 0, .int .u8 0, .int .u8 0, .int .u8 0, .int .u8 0, .int .u8 0, .int .i64 0, .int .i64 0, .bool false, .int .i64 0, .int .i64 0] [], none, 0⟩, ⟨none, .store 22 (.t 8) (.t 16), none, 0⟩] false []) (.block 3 (.seq (.region 0 [⟨some 17, .load 1 false (.t 2), none, 0⟩, ⟨some 18, .bin .eql (.t 17) (.c (.int .i64 0)), none, 0⟩, ⟨some 19, .mv (.t 18), none, 0⟩, ⟨some 20, .faddr 18 (.t 8), some (19, false), 0⟩, ⟨some 21, .load 1 false (.t 20), some (19, false), 0⟩, ⟨some 22, .load 1 false (.t 2), some (19, false), 0⟩, ⟨some 23, .bin .eql (.t 21) (.t 22), some (19, false), 0⟩, ⟨some 24, .pick (.t 19) (.c (.bool true)) (.t 23), none, 0⟩] false []) (.cond (.t 24) (.region 2 [⟨some 25, .load 1 false (.t 5), none, 0⟩, ⟨some 26, .load 22 true (.t 8), none, 0⟩, ⟨some 27, .buildSl 42 22 [.int .i64 0, .int .u8 0, .int .u8 0, .int .u8 0, .int .u8 0, .int .u8 0, .int .u8 0, .int .u8 0, .int .u8 0, .int .u8 0, .int .u8 0, .int .u8 0, .int .u8 0, .int .u8 0, .int .u8 0, .int .u8 0, .int .u8 0, .int .i64 0, .int .i64 0, .bool false, .int .i64 0, .int .i64 0] 1 [(0, .t 26)] false, none, 0⟩, ⟨some 28, .append 42 22 64 (.t 25) (.t 27), none, 1⟩, ⟨none, .store 1 (.t 5) (.t 28), none, 0⟩] false []) .skip)))))))) (.region 0 [⟨some 29, .bin .add (.t 11) (.c (.int .i64 1)), none, 0⟩, ⟨some 11, .mv (.t 29), none, 0⟩] false []))))))) (.seq (.region 0 [⟨some 30, .load 1 false (.t 5), none, 0⟩, ⟨some 4, .mv (.t 30), none, 0⟩] false []) .ret)))), true⟩
theorem c62 : cFunc Tryd.prog G f62 Tryd.f62 = some f62 := by kernel_rfl
/-- junctionbox/plan.mixed$1 -/
def f63 : AFunc :=
⟨2, [.t 3], (.seq (.region 1 [⟨some 2, .box 53 21 (.t 0) [], none, 0⟩, ⟨some 3, .mv (.c (.bool false)), none, 0⟩] false []) (.seq (.region 0 [⟨some 4, .faddr 18 (.t 2), none, 0⟩, ⟨some 5, .load 1 false (.t 4), none, 0⟩, ⟨some 6, .load 1 false (.t 1), none, 0⟩, ⟨some 7, .bin .neq (.t 5) (.t 6), none, 0⟩, ⟨some 3, .mv (.t 7), none, 0⟩] false []) .ret)), false⟩
theorem c63 : cFunc Tryd.prog G f63 Tryd.f63 = some f63 := by kernel_rfl
/-- junctionbox/plan.mixed$2 -/
def f64 : AFunc :=
⟨2, [.t 3], (.seq (.region 1 [⟨some 2, .box 53 21 (.t 0) [], none, 0⟩, ⟨some 3, .mv (.c (.bool false)), none, 0⟩] false []) (.seq (.region 0 [⟨some 4, .faddr 18 (.t 2), none, 0⟩, ⟨some 5, .load 1 false (.t 4), none, 0⟩, ⟨some 6, .load 1 false (.t 1), none, 0⟩, ⟨some 7, .bin .eql (.t 5) (.t 6), none, 0⟩, ⟨some 3, .mv (.t 7), none, 0⟩] false []) .ret)), false⟩
theorem c64 : cFunc Tryd.prog G f64 Tryd.f64 = some f64 := by kernel_rfl
/-- slices.Concat[[]junctionbox/api.Route,junctionbox/api.Route] -/
def f65 : AFunc :=
⟨1, [.t 2], (.seq (.region 1 [⟨some 2, .newl 53 21, none, 0⟩] false []) (.seq (.region 0 [⟨some 3, .mv (.c (.int .i64 0)), none, 0⟩] false []) (.seq (.seq (.region 0 [⟨some 9, .mv (.t 0), none, 0⟩, ⟨some 10, .len (.t 9), none, 0⟩, ⟨some 11, .mv (.c (.int .i64 0)), none, 0⟩] false []) (.block 0 (.loop [0, 3, 9, 10, 11] (.seq (.region 0 [⟨some 12, .bin .lss (.t 11) (.t 10), none, 0⟩] false []) (.seq (.cond (.t 12) .skip (.exit 0)) (.seq (.block 1 (.seq (.region 0 [⟨some 13, .iaddr 1 none (.t 9) (.t 11), none, 0⟩, ⟨some 14, .load 1 false (.t 13), none, 0⟩, ⟨some 5, .mv (.t 14), none, 0⟩] false []) (.seq (.region 0 [⟨some 15, .mv (.t 3), none, 0⟩, ⟨some 16, .mv (.t 5), none, 0⟩, ⟨some 17, .len (.t 16), none, 0⟩, ⟨some 18, .bin .add (.t 15) (.t 17), none, 0⟩, ⟨some 3, .mv (.t 18), none, 0⟩] false []) (.seq (.region 0 [⟨some 19, .mv (.t 3), none, 0⟩, ⟨some 20, .bin .lss (.t 19) (.c (.int .i64 0)), none, 0⟩] false []) (.cond (.t 20) .bad .skip))))) (.region 0 [⟨some 22, .bin .add (.t 11) (.c (.int .i64 1)), none, 0⟩, ⟨some 11, .mv (.t 22), none, 0⟩] false []))))))) (.seq (.region 0 [⟨some 23, .mv (.t 3), none, 0⟩, ⟨some 24, .callR (.c (.clo 84 [])) [.c (.clip []), .t 23] 1, none, 0⟩, ⟨some 6, .mv (.t 24), none, 0⟩] false []) (.seq (.seq (.region 0 [⟨some 25, .mv (.t 0), none, 0⟩, ⟨some 26, .len (.t 25), none, 0⟩, ⟨some 27, .mv (.c (.int .i64 0)), none, 0⟩] false []) (.block 2 (.loop [6, 25, 26, 27] (.seq (.region 0 [⟨some 28, .bin .lss (.t 27) (.t 26), none, 0⟩] false []) (.seq (.cond (.t 28) .skip (.exit 2)) (.seq (.block 3 (.seq (.region 0 [⟨some 29, .iaddr 1 none (.t 25) (.t 27), none, 0⟩, ⟨some 30, .load 1 false (.t 29), none, 0⟩, ⟨some 8, .mv (.t 30), none, 0⟩] false []) (.region 1 [⟨some 31, .mv (.t 6), none, 0⟩, ⟨some 32, .mv (.t 8), none, 0⟩, ⟨some 33, .append 53 21 56 (.t 31) (.t 32), none, 0⟩, ⟨some 6, .mv (.t 33), none, 0⟩] false []))) (.region 0 [⟨some 34, .bin .add (.t 27) (.c (.int .i64 1)), none, 0⟩, ⟨some 27, .mv (.t 34), none, 0⟩] false []))))))) (.seq (.region 0 [⟨some 35, .mv (.t 6), none, 0⟩, ⟨some 2, .mv (.t 35), none, 0⟩] false []) .ret)))))), true⟩
theorem c65 : cFunc Tryd.prog G f65 Tryd.f65 = some f65 := by kernel_rfl
/-- slices.DeleteFunc[[]junctionbox/api.Route,junctionbox/api.Route] -/
def f66 : AFunc :=
⟨2, [.t 4], (.seq (.region 1 [⟨some 4, .newl 53 21, none, 0⟩] false []) (.seq (.region 0 [⟨some 8, .mv (.t 0), none, 0⟩, ⟨some 9, .mv (.t 1), none, 0⟩, ⟨some 10, .callR (.c (.clo 85 [])) [.t 8, .t 9] 0, none, 0⟩, ⟨some 5, .mv (.t 10), none, 0⟩] false []) (.seq (.seq (.region 0 [⟨some 11, .mv (.t 5), none, 0⟩, ⟨some 12, .bin .eql (.t 11) (.c (.int .i64 (-1))), none, 0⟩] false []) (.cond (.t 12) (.seq (.region 0 [⟨some 13, .mv (.t 0), none, 0⟩, ⟨some 4, .mv (.t 13), none, 0⟩] false []) .ret) .skip)) (.seq (.seq (.region 0 [⟨some 14, .mv (.t 5), none, 0⟩, ⟨some 15, .bin .add (.t 14) (.c (.int .i64 1)), none, 0⟩, ⟨some 6, .mv (.t 15), none, 0⟩] false []) (.block 0 (.loop [0, 1, 5, 6] (.seq (.seq (.region 0 [⟨some 16, .mv (.t 6), none, 0⟩, ⟨some 17, .mv (.t 0), none, 0⟩, ⟨some 18, .len (.t 17), none, 0⟩, ⟨some 19, .bin .lss (.t 16) (.t 18), none, 0⟩] false []) (.cond (.t 19) .skip (.exit 0))) (.seq (.block 1 (.seq (.region 1 [⟨some 22, .mv (.t 0), none, 0⟩, ⟨some 23, .mv (.t 6), none, 0⟩, ⟨some 24, .iaddr 21 none (.t 22) (.t 23), none, 0⟩, ⟨some 25, .load 21 true (.t 24), none, 0⟩, ⟨some 7, .alloc 53 [.int .i64 0, .int .u8 0, .int .u8 0, .int .u8 0, .int .u8 0, .int .u8 0, .int .u8 0, .int .u8 0, .int .u8 0, .int .u8 0, .int .u8 0, .int .u8 0, .int .u8 0, .int .u8 0, .int .u8 0, .int .u8 0, .int .u8 0, .int .i64 0, .int .i64 0, .int .i64 0, .int .i64 0] [], none, 0⟩, ⟨none, .store 21 (.t 7) (.t 25), none, 0⟩] false []) (.seq (.region 0 [⟨some 26, .mv (.t 1), none, 0⟩, ⟨some 27, .load 21 true (.t 7), none, 0⟩, ⟨some 28, .callR (.t 26) [.t 27] 0, none, 0⟩, ⟨some 29, .not (.t 28), none, 0⟩] false []) (.cond (.t 29) (.seq (.region 0 [⟨some 30, .mv (.t 0), none, 0⟩, ⟨some 31, .mv (.t 5), none, 0⟩, ⟨some 32, .load 21 true (.t 7), none, 0⟩, ⟨some 33, .iaddr 21 none (.t 30) (.t 31), none, 0⟩, ⟨none, .store 21 (.t 33) (.t 32), none, 0⟩] false []) (.region 0 [⟨some 34, .mv (.t 5), none, 0⟩, ⟨some 35, .bin .add (.t 34) (.c (.int .i64 1)), none, 0⟩, ⟨some 5, .mv (.t 35), none, 0⟩] false [])) .skip)))) (.region 0 [⟨some 20, .mv (.t 6), none, 0⟩, ⟨some 21, .bin .add (.t 20) (.c (.int .i64 1)), none, 0⟩, ⟨some 6, .mv (.t 21), none, 0⟩] false [])))))) (.seq (.region 0 [⟨some 36, .mv (.t 0), none, 0⟩, ⟨some 37, .mv (.t 5), none, 0⟩, ⟨some 38, .slice 21 (.t 36) (some (.t 37)) none none, none, 0⟩, ⟨none, .clear [.int .i64 0, .int .u8 0, .int .u8 0, .int .u8 0, .int .u8 0, .int .u8 0, .int .u8 0, .int .u8 0, .int .u8 0, .int .u8 0, .int .u8 0, .int .u8 0, .int .u8 0, .int .u8 0, .int .u8 0, .int .u8 0, .int .u8 0, .int .i64 0, .int .i64 0, .int .i64 0, .int .i64 0] (.t 38), none, 0⟩] false []) (.seq (.region 0 [⟨some 39, .mv (.t 0), none, 0⟩, ⟨some 40, .mv (.t 5), none, 0⟩, ⟨some 41, .slice 21 (.t 39) none (some (.t 40)) none, none, 0⟩, ⟨some 4, .mv (.t 41), none, 0⟩] false []) .ret)))))), false⟩
theorem c66 : cFunc Tryd.prog G f66 Tryd.f66 = some f66 := by kernel_rfl
/-- junctionbox/plan.compare -/
def f68 : AFunc :=
⟨2, [.t 4], (.seq (.region 2 [⟨some 2, .box 53 21 (.t 0) [], none, 0⟩, ⟨some 3, .box 53 21 (.t 1) [], none, 1⟩, ⟨some 4, .mv (.c (.int .i64 0)), none, 0⟩] false []) (.seq (.seq (.region 0 [⟨some 6, .faddr 0 (.t 2), none, 0⟩, ⟨some 7, .load 18 true (.t 6), none, 0⟩, ⟨some 8, .faddr 0 (.t 3), none, 0⟩, ⟨some 9, .load 18 true (.t 8), none, 0⟩, ⟨some 10, .callV 72 [.t 7, .t 9] 0, none, 0⟩, ⟨some 5, .mv (.t 10), none, 0⟩] false []) (.seq (.region 0 [⟨some 11, .mv (.t 5), none, 0⟩, ⟨some 12, .bin .neq (.t 11) (.c (.int .i64 0)), none, 0⟩] false []) (.cond (.t 12) (.seq (.region 0 [⟨some 13, .mv (.t 5), none, 0⟩, ⟨some 4, .mv (.t 13), none, 0⟩] false []) .ret) .skip))) (.seq (.region 0 [⟨some 14, .faddr 18 (.t 2), none, 0⟩, ⟨some 15, .load 1 false (.t 14), none, 0⟩, ⟨some 16, .faddr 18 (.t 3), none, 0⟩, ⟨some 17, .load 1 false (.t 16), none, 0⟩, ⟨some 18, .bin .sub (.t 15) (.t 17), none, 0⟩, ⟨some 4, .mv (.t 18), none, 0⟩] false []) .ret))), false⟩
theorem c68 : cFunc Tryd.prog G f68 Tryd.f68 = some f68 := by kernel_rfl
/-- junctionbox/prefix.Check -/
def f70 : AFunc :=
⟨1, [.t 2], (.seq (.region 1 [⟨some 1, .box 40 18 (.t 0) [], none, 0⟩, ⟨some 2, .mv (.c (.int .i64 0)), none, 0⟩] false []) (.seq (.seq (.region 0 [⟨some 3, .faddr 0 (.t 1), none, 0⟩, ⟨some 4, .load 17 true (.t 3), none, 0⟩, ⟨some 5, .callV 88 [.t 4] 0, none, 0⟩, ⟨some 6, .bin .neq (.t 5) (.c (.int .i64 0)), none, 0⟩, ⟨some 7, .mv (.t 6), none, 0⟩, ⟨some 8, .faddr 17 (.t 1), some (7, false), 0⟩, ⟨some 9, .load 1 false (.t 8), some (7, false), 0⟩, ⟨some 10, .bin .lss (.t 9) (.c (.int .i64 0)), some (7, false), 0⟩, ⟨some 11, .pick (.t 7) (.c (.bool true)) (.t 10), none, 0⟩, ⟨some 12, .mv (.t 11), none, 0⟩, ⟨some 13, .faddr 17 (.t 1), some (12, false), 0⟩, ⟨some 14, .load 1 false (.t 13), some (12, false), 0⟩, ⟨some 15, .faddr 0 (.t 1), some (12, false), 0⟩, ⟨some 16, .faddr 0 (.t 15), some (12, false), 0⟩, ⟨some 17, .load 1 false (.t 16), some (12, false), 0⟩, ⟨some 18, .callV 89 [.t 17] 0, some (12, false), 0⟩, ⟨some 19, .bin .gtr (.t 14) (.t 18), some (12, false), 0⟩, ⟨some 20, .pick (.t 12) (.c (.bool true)) (.t 19), none, 0⟩, ⟨some 21, .mv (.t 20), none, 0⟩, ⟨some 22, .faddr 0 (.t 1), some (21, false), 0⟩, ⟨some 23, .faddr 1 (.t 22), some (21, false), 0⟩, ⟨some 24, .load 16 true (.t 23), some (21, false), 0⟩, ⟨some 25, .faddr 17 (.t 1), some (21, false), 0⟩, ⟨some 26, .load 1 false (.t 25), some (21, false), 0⟩, ⟨some 27, .callV 90 [.t 24, .t 26] 0, some (21, false), 0⟩, ⟨some 28, .not (.t 27), some (21, false), 0⟩, ⟨some 29, .pick (.t 21) (.c (.bool true)) (.t 28), none, 0⟩] true []) (.cond (.t 29) (.seq (.region 0 [⟨some 2, .mv (.c (.int .i64 151)), none, 0⟩] false []) .ret) .skip)) (.seq (.region 0 [⟨some 2, .mv (.c (.int .i64 0)), none, 0⟩] false []) .ret))), false⟩
theorem c70 : cFunc Tryd.prog G f70 Tryd.f70 = some f70 := by kernel_rfl
/-- cmp.Or[int] -/
def f71 : AFunc :=
⟨1, [.t 2], (.seq (.region 0 [⟨some 2, .mv (.c (.int .i64 0)), none, 0⟩] false []) (.seq (.region 0 [⟨some 3, .mv (.c (.int .i64 0)), none, 0⟩] false []) (.seq (.seq (.region 0 [⟨some 6, .mv (.t 0), none, 0⟩, ⟨some 7, .len (.t 6), none, 0⟩, ⟨some 8, .mv (.c (.int .i64 0)), none, 0⟩] false []) (.block 0 (.loop [3, 6, 7, 8] (.seq (.region 0 [⟨some 9, .bin .lss (.t 8) (.t 7), none, 0⟩] false []) (.seq (.cond (.t 9) .skip (.exit 0)) (.seq (.block 1 (.seq (.region 0 [⟨some 10, .iaddr 1 none (.t 6) (.t 8), none, 0⟩, ⟨some 11, .load 1 false (.t 10), none, 0⟩, ⟨some 5, .mv (.t 11), none, 0⟩] false []) (.seq (.region 0 [⟨some 12, .mv (.t 5), none, 0⟩, ⟨some 13, .mv (.t 3), none, 0⟩, ⟨some 14, .bin .neq (.t 12) (.t 13), none, 0⟩] false []) (.cond (.t 14) (.seq (.region 0 [⟨some 15, .mv (.t 5), none, 0⟩, ⟨some 2, .mv (.t 15), none, 0⟩] false []) .ret) .skip)))) (.region 0 [⟨some 16, .bin .add (.t 8) (.c (.int .i64 1)), none, 0⟩, ⟨some 8, .mv (.t 16), none, 0⟩] false []))))))) (.seq (.region 0 [⟨some 17, .mv (.t 3), none, 0⟩, ⟨some 2, .mv (.t 17), none, 0⟩] false []) .ret)))), false⟩
theorem c71 : cFunc Tryd.prog G f71 Tryd.f71 = some f71 := by kernel_rfl
/-- junctionbox/prefix.Compare -/
def f72 : AFunc :=
⟨2, [.t 4], (.seq (.region 2 [⟨some 2, .box 40 18 (.t 0) [], none, 0⟩, ⟨some 3, .box 40 18 (.t 1) [], none, 1⟩, ⟨some 4, .mv (.c (.int .i64 0)), none, 0⟩] false []) (.seq (.region 1 [⟨some 5, .faddr 0 (.t 2), none, 0⟩, ⟨some 6, .faddr 0 (.t 5), none, 0⟩, ⟨some 7, .load 1 false (.t 6), none, 0⟩, ⟨some 8, .faddr 0 (.t 3), none, 0⟩, ⟨some 9, .faddr 0 (.t 8), none, 0⟩, ⟨some 10, .load 1 false (.t 9), none, 0⟩, ⟨some 11, .callV 73 [.t 7, .t 10] 0, none, 0⟩, ⟨some 12, .faddr 0 (.t 2), none, 0⟩, ⟨some 13, .faddr 1 (.t 12), none, 0⟩, ⟨some 14, .slarr 1 16 (.t 13) none none, none, 0⟩, ⟨some 15, .faddr 0 (.t 3), none, 0⟩, ⟨some 16, .faddr 1 (.t 15), none, 0⟩, ⟨some 17, .slarr 1 16 (.t 16) none none, none, 0⟩, ⟨some 18, .callV 91 [.t 14, .t 17] 0, none, 0⟩, ⟨some 19, .faddr 17 (.t 2), none, 0⟩, ⟨some 20, .load 1 false (.t 19), none, 0⟩, ⟨some 21, .faddr 17 (.t 3), none, 0⟩, ⟨some 22, .load 1 false (.t 21), none, 0⟩, ⟨some 23, .callV 73 [.t 20, .t 22] 0, none, 0⟩, ⟨some 24, .buildSl 3 1 [.int .i64 0] 3 [(0, .t 11), (1, .t 18), (2, .t 23)] false, none, 0⟩, ⟨some 25, .callV 71 [.t 24] 0, none, 0⟩, ⟨some 4, .mv (.t 25), none, 0⟩] true []) .ret)), false⟩
theorem c72 : cFunc Tryd.prog G f72 Tryd.f72 = some f72 := by kernel_rfl
/-- cmp.Compare[int] -/
def f73 : AFunc :=
⟨2, [.t 4], (.seq (.region 0 [⟨some 4, .mv (.c (.int .i64 0)), none, 0⟩] false []) (.seq (.region 0 [⟨some 7, .mv (.t 0), none, 0⟩, ⟨some 8, .callV 92 [.t 7] 0, none, 0⟩, ⟨some 5, .mv (.t 8), none, 0⟩] false []) (.seq (.region 0 [⟨some 9, .mv (.t 1), none, 0⟩, ⟨some 10, .callV 92 [.t 9] 0, none, 0⟩, ⟨some 6, .mv (.t 10), none, 0⟩] false []) (.seq (.seq (.region 0 [⟨some 11, .mv (.t 5), none, 0⟩] false []) (.cond (.t 11) (.seq (.seq (.region 0 [⟨some 12, .mv (.t 6), none, 0⟩] false []) (.cond (.t 12) (.seq (.region 0 [⟨some 4, .mv (.c (.int .i64 0)), none, 0⟩] false []) .ret) .skip)) (.seq (.region 0 [⟨some 4, .mv (.c (.int .i64 (-1))), none, 0⟩] false []) .ret)) .skip)) (.seq (.seq (.region 0 [⟨some 13, .mv (.t 6), none, 0⟩] false []) (.cond (.t 13) (.seq (.region 0 [⟨some 4, .mv (.c (.int .i64 1)), none, 0⟩] false []) .ret) .skip)) (.seq (.seq (.region 0 [⟨some 14, .mv (.t 0), none, 0⟩, ⟨some 15, .mv (.t 1), none, 0⟩, ⟨some 16, .bin .lss (.t 14) (.t 15), none, 0⟩] false []) (.cond (.t 16) (.seq (.region 0 [⟨some 4, .mv (.c (.int .i64 (-1))), none, 0⟩] false []) .ret) .skip)) (.seq (.seq (.region 0 [⟨some 17, .mv (.t 0), none, 0⟩, ⟨some 18, .mv (.t 1), none, 0⟩, ⟨some 19, .bin .gtr (.t 17) (.t 18), none, 0⟩] false []) (.cond (.t 19) (.seq (.region 0 [⟨some 4, .mv (.c (.int .i64 1)), none, 0⟩] false []) .ret) .skip)) (.seq (.region 0 [⟨some 4, .mv (.c (.int .i64 0)), none, 0⟩] false []) .ret)))))))), false⟩
theorem c73 : cFunc Tryd.prog G f73 Tryd.f73 = some f73 := by kernel_rfl
/-- slices.ContainsFunc[[]junctionbox/api.Update,junctionbox/api.Update] -/
def f74 : AFunc :=
⟨2, [.t 4], (.seq (.region 0 [⟨some 4, .mv (.c (.bool false)), none, 0⟩] false []) (.seq (.region 0 [⟨some 5, .mv (.t 0), none, 0⟩, ⟨some 6, .mv (.t 1), none, 0⟩, ⟨some 7, .callR (.c (.clo 93 [])) [.t 5, .t 6] 0, none, 0⟩, ⟨some 8, .bin .geq (.t 7) (.c (.int .i64 0)), none, 0⟩, ⟨some 4, .mv (.t 8), none, 0⟩] false []) .ret)), false⟩
theorem c74 : cFunc Tryd.prog G f74 Tryd.f74 = some f74 := by kernel_rfl
/-- junctionbox/route.CheckBatch$1 -/
def f75 : AFunc :=
⟨2, [.t 3], (.seq (.region 1 [⟨some 2, .box 42 22 (.t 0) [], none, 0⟩, ⟨some 3, .mv (.c (.bool false)), none, 0⟩] false []) (.seq (.region 0 [⟨some 4, .faddr 0 (.t 2), none, 0⟩, ⟨some 5, .load 18 true (.t 4), none, 0⟩, ⟨some 6, .faddr 0 (.t 1), none, 0⟩, ⟨some 7, .load 18 true (.t 6), none, 0⟩, ⟨some 8, .eqagg false [1, 1, 1, 1, 1, 1, 1, 1, 1, 1, 1, 1, 1, 1, 1, 1, 1, 1] (.t 5) (.t 7), none, 0⟩, ⟨some 9, .mv (.t 8), none, 0⟩, ⟨some 10, .faddr 18 (.t 2), some (9, true), 0⟩, ⟨some 11, .load 1 false (.t 10), some (9, true), 0⟩, ⟨some 12, .faddr 18 (.t 1), some (9, true), 0⟩, ⟨some 13, .load 1 false (.t 12), some (9, true), 0⟩, ⟨some 14, .bin .eql (.t 11) (.t 13), some (9, true), 0⟩, ⟨some 15, .pick (.t 9) (.t 14) (.c (.bool false)), none, 0⟩, ⟨some 3, .mv (.t 15), none, 0⟩] false []) .ret)), false⟩
theorem c75 : cFunc Tryd.prog G f75 Tryd.f75 = some f75 := by kernel_rfl
/-- junctionbox/route.update -/
def f76 : AFunc :=
⟨1, [.t 2], (.seq (.region 1 [⟨some 1, .box 42 22 (.t 0) [], none, 0⟩, ⟨some 2, .mv (.c (.bool false)), none, 0⟩] false []) (.seq (.seq (.region 0 [⟨some 3, .faddr 19 (.t 1), none, 0⟩, ⟨some 4, .load 1 false (.t 3), none, 0⟩] false []) (.cond (.t 4) (.seq (.region 0 [⟨some 5, .faddr 20 (.t 1), none, 0⟩, ⟨some 6, .load 1 false (.t 5), none, 0⟩, ⟨some 7, .bin .eql (.t 6) (.c (.int .i64 0)), none, 0⟩, ⟨some 8, .mv (.t 7), none, 0⟩, ⟨some 9, .faddr 21 (.t 1), some (8, true), 0⟩, ⟨some 10, .load 1 false (.t 9), some (8, true), 0⟩, ⟨some 11, .bin .eql (.t 10) (.c (.int .i64 0)), some (8, true), 0⟩, ⟨some 12, .pick (.t 8) (.t 11) (.c (.bool false)), none, 0⟩, ⟨some 13, .mv (.t 12), none, 0⟩, ⟨some 14, .faddr 0 (.t 1), some (13, true), 0⟩, ⟨some 15, .load 18 true (.t 14), some (13, true), 0⟩, ⟨some 16, .faddr 18 (.t 1), some (13, true), 0⟩, ⟨some 17, .load 1 false (.t 16), some (13, true), 0⟩, ⟨some 18, .callV 47 [.t 15, .t 17, .c (.int .i64 0), .c (.int .i64 1)] 0, some (13, true), 0⟩, ⟨some 19, .pick (.t 13) (.t 18) (.c (.bool false)), none, 0⟩, ⟨some 2, .mv (.t 19), none, 0⟩] false []) .ret) .skip)) (.seq (.region 0 [⟨some 20, .faddr 0 (.t 1), none, 0⟩, ⟨some 21, .load 18 true (.t 20), none, 0⟩, ⟨some 22, .faddr 18 (.t 1), none, 0⟩, ⟨some 23, .load 1 false (.t 22), none, 0⟩, ⟨some 24, .faddr 20 (.t 1), none, 0⟩, ⟨some 25, .load 1 false (.t 24), none, 0⟩, ⟨some 26, .faddr 21 (.t 1), none, 0⟩, ⟨some 27, .load 1 false (.t 26), none, 0⟩, ⟨some 28, .callV 47 [.t 21, .t 23, .t 25, .t 27] 0, none, 0⟩, ⟨some 2, .mv (.t 28), none, 0⟩] false []) .ret))), false⟩
theorem c76 : cFunc Tryd.prog G f76 Tryd.f76 = some f76 := by kernel_rfl
/-- junctionbox/plan.but$1 -/
def f83 : AFunc :=
⟨4, [], (.seq (.region 0 [⟨some 9, .faddr 0 (.t 1), none, 0⟩, ⟨some 10, .load 1 false (.t 9), none, 0⟩, ⟨some 11, .len (.t 10), none, 0⟩, ⟨some 12, .mv (.c (.int .i64 0)), none, 0⟩] false []) (.block 0 (.loop [0, 2, 3, 10, 11, 12] (.seq (.region 0 [⟨some 13, .bin .lss (.t 12) (.t 11), none, 0⟩] false []) (.seq (.cond (.t 13) .skip (.exit 0)) (.seq (.block 1 (.seq (.region 1 [⟨some 14, .iaddr 21 none (.t 10) (.t 12), none, 0⟩, ⟨some 15, .load 21 true (.t 14), none, 0⟩, ⟨some 6, .alloc 53 [.int .i64 0, .int .u8 0, .int .u8 0, .int .u8 0, .int .u8 0, .int .u8 0, .int .u8 0, .int .u8 0, .int .u8 0, .int .u8 0, .int .u8 0, .int .u8 0, .int .u8 0, .int .u8 0, .int .u8 0, .int .u8 0, .int .u8 0, .int .i64 0, .int .i64 0, .int .i64 0, .int .i64 0] [], none, 0⟩, ⟨none, .store 21 (.t 6) (.t 15), none, 0⟩] false []) (.seq (.region 0 [⟨some 17, .faddr 0 (.t 2), none, 0⟩, ⟨some 18, .load 1 false (.t 17), none, 0⟩, ⟨some 19, .load 21 true (.t 6), none, 0⟩, ⟨some 20, .callR (.c (.clo 51 [])) [.t 18, .t 19, .c (.clo 68 [])] 0, none, 0⟩, ⟨some 16, .mv (.t 20), none, 0⟩, ⟨some 21, .extr (.t 16) 0, none, 0⟩, ⟨some 22, .extr (.t 16) 1, none, 0⟩, ⟨some 7, .mv (.t 21), none, 0⟩, ⟨some 8, .mv (.t 22), none, 0⟩] false []) (.seq (.region 0 [⟨some 23, .mv (.t 8), none, 0⟩, ⟨some 24, .not (.t 23), none, 0⟩, ⟨some 25, .mv (.t 24), none, 0⟩, ⟨some 26, .load 1 false (.t 3), some (25, false), 0⟩, ⟨some 27, .load 21 true (.t 6), some (25, false), 0⟩, ⟨some 28, .faddr 0 (.t 2), some (25, false), 0⟩, ⟨some 29, .load 1 false (.t 28), some (25, false), 0⟩, ⟨some 30, .mv (.t 7), some (25, false), 0⟩, ⟨some 31, .iaddr 21 none (.t 29) (.t 30), some (25, false), 0⟩, ⟨some 32, .load 21 true (.t 31), some (25, false), 0⟩, ⟨some 33, .callR (.t 26) [.t 27, .t 32] 0, some (25, false), 0⟩, ⟨some 34, .not (.t 33), some (25, false), 0⟩, ⟨some 35, .pick (.t 25) (.c (.bool true)) (.t 34), none, 0⟩, ⟨some 36, .mv (.t 35), none, 0⟩, ⟨some 37, .mv (.t 0), some (36, true), 0⟩, ⟨some 38, .load 21 true (.t 6), some (36, true), 0⟩, ⟨some 39, .callR (.t 37) [.t 38] 0, some (36, true), 0⟩, ⟨some 40, .not (.t 39), some (36, true), 0⟩, ⟨some 41, .pick (.t 36) (.t 40) (.c (.bool false)), none, 0⟩] true []) (.cond (.t 41) .ret .skip))))) (.region 0 [⟨some 42, .bin .add (.t 12) (.c (.int .i64 1)), none, 0⟩, ⟨some 12, .mv (.t 42), none, 0⟩] false []))))))), false⟩
theorem c83 : cFunc Tryd.prog G f83 Tryd.f83 = some f83 := by kernel_rfl
/-- slices.IndexFunc[[]junctionbox/api.Route,junctionbox/api.Route] -/
def f85 : AFunc :=
⟨2, [.t 4], (.seq (.region 0 [⟨some 4, .mv (.c (.int .i64 0)), none, 0⟩] false []) (.seq (.seq (.region 0 [⟨some 6, .mv (.t 0), none, 0⟩, ⟨some 7, .len (.t 6), none, 0⟩, ⟨some 8, .mv (.c (.int .i64 0)), none, 0⟩] false []) (.block 0 (.loop [0, 1, 7, 8] (.seq (.region 0 [⟨some 9, .bin .lss (.t 8) (.t 7), none, 0⟩] false []) (.seq (.cond (.t 9) .skip (.exit 0)) (.seq (.block 1 (.seq (.region 0 [⟨some 10, .mv (.t 8), none, 0⟩, ⟨some 5, .mv (.t 10), none, 0⟩] false []) (.seq (.region 0 [⟨some 11, .mv (.t 1), none, 0⟩, ⟨some 12, .mv (.t 0), none, 0⟩, ⟨some 13, .mv (.t 5), none, 0⟩, ⟨some 14, .iaddr 21 none (.t 12) (.t 13), none, 0⟩, ⟨some 15, .load 21 true (.t 14), none, 0⟩, ⟨some 16, .callR (.t 11) [.t 15] 0, none, 0⟩] false []) (.cond (.t 16) (.seq (.region 0 [⟨some 17, .mv (.t 5), none, 0⟩, ⟨some 4, .mv (.t 17), none, 0⟩] false []) .ret) .skip)))) (.region 0 [⟨some 18, .bin .add (.t 8) (.c (.int .i64 1)), none, 0⟩, ⟨some 8, .mv (.t 18), none, 0⟩] false []))))))) (.seq (.region 0 [⟨some 4, .mv (.c (.int .i64 (-1))), none, 0⟩] false []) .ret))), false⟩
theorem c85 : cFunc Tryd.prog G f85 Tryd.f85 = some f85 := by kernel_rfl
/-- junctionbox/prefix.CheckAddr -/
def f88 : AFunc :=
⟨1, [.t 2], (.seq (.region 1 [⟨some 1, .box 38 17 (.t 0) [], none, 0⟩, ⟨some 2, .mv (.c (.int .i64 0)), none, 0⟩] false []) (.seq (.seq (.region 0 [⟨some 4, .faddr 0 (.t 1), none, 0⟩, ⟨some 5, .load 1 false (.t 4), none, 0⟩, ⟨some 6, .callV 89 [.t 5] 0, none, 0⟩, ⟨some 3, .mv (.t 6), none, 0⟩] false []) (.seq (.region 0 [⟨some 7, .mv (.t 3), none, 0⟩, ⟨some 8, .bin .eql (.t 7) (.c (.int .i64 0)), none, 0⟩, ⟨some 9, .mv (.t 8), none, 0⟩, ⟨some 10, .faddr 1 (.t 1), some (9, false), 0⟩, ⟨some 11, .load 16 true (.t 10), some (9, false), 0⟩, ⟨some 12, .mv (.t 3), some (9, false), 0⟩, ⟨some 13, .callV 90 [.t 11, .t 12] 0, some (9, false), 0⟩, ⟨some 14, .not (.t 13), some (9, false), 0⟩, ⟨some 15, .pick (.t 9) (.c (.bool true)) (.t 14), none, 0⟩] false []) (.cond (.t 15) (.seq (.region 0 [⟨some 2, .mv (.c (.int .i64 150)), none, 0⟩] false []) .ret) .skip))) (.seq (.region 0 [⟨some 2, .mv (.c (.int .i64 0)), none, 0⟩] false []) .ret))), false⟩
theorem c88 : cFunc Tryd.prog G f88 Tryd.f88 = some f88 := by kernel_rfl
/-- junctionbox/prefix.Width -/
def f89 : AFunc :=
⟨1, [.t 2], (.seq (.region 0 [⟨some 2, .mv (.c (.int .i64 0)), none, 0⟩] false []) (.seq (.seq (.region 0 [⟨some 3, .mv (.t 0), none, 0⟩, ⟨some 4, .bin .lss (.t 3) (.c (.int .i64 0)), none, 0⟩, ⟨some 5, .mv (.t 4), none, 0⟩, ⟨some 6, .mv (.t 0), some (5, false), 0⟩, ⟨some 7, .bin .geq (.t 6) (.c (.int .i64 7)), some (5, false), 0⟩, ⟨some 8, .pick (.t 5) (.c (.bool true)) (.t 7), none, 0⟩] false []) (.cond (.t 8) (.seq (.region 0 [⟨some 2, .mv (.c (.int .i64 0)), none, 0⟩] false []) .ret) .skip)) (.seq (.region 0 [⟨some 9, .mv (.t 0), none, 0⟩, ⟨some 10, .iaddr 1 (some 7) (.c (.rp [.int .i64 0, .int .i64 0, .int .i64 0, .int .i64 0, .int .i64 32, .int .i64 0, .int .i64 128] 0)) (.t 9), none, 0⟩, ⟨some 11, .load 1 false (.t 10), none, 0⟩, ⟨some 2, .mv (.t 11), none, 0⟩] false []) .ret))), false⟩
theorem c89 : cFunc Tryd.prog G f89 Tryd.f89 = some f89 := by kernel_rfl
/-- junctionbox/prefix.clear -/
def f90 : AFunc :=
⟨2, [.t 4], (.seq (.region 1 [⟨some 2, .box 36 16 (.t 0) [], none, 0⟩, ⟨some 4, .mv (.c (.bool false)), none, 0⟩] false []) (.seq (.seq (.region 0 [⟨some 6, .mv (.t 1), none, 0⟩, ⟨some 5, .mv (.t 6), none, 0⟩] false []) (.block 0 (.loop [2, 5] (.seq (.seq (.region 0 [⟨some 7, .mv (.t 5), none, 0⟩, ⟨some 8, .bin .lss (.t 7) (.c (.int .i64 128)), none, 0⟩] false []) (.cond (.t 8) .skip (.exit 0))) (.seq (.block 1 (.seq (.region 0 [⟨some 11, .mv (.t 5), none, 0⟩, ⟨some 12, .bin .quo (.t 11) (.c (.int .i64 8)), none, 0⟩, ⟨some 13, .iaddr 1 (some 16) (.t 2) (.t 12), none, 0⟩, ⟨some 14, .load 1 false (.t 13), none, 0⟩, ⟨some 15, .mv (.t 5), none, 0⟩, ⟨some 16, .bin .rem (.t 15) (.c (.int .i64 8)), none, 0⟩, ⟨some 17, .bin .sub (.c (.int .i64 7)) (.t 16), none, 0⟩, ⟨some 18, .bin .shr (.t 14) (.t 17), none, 0⟩, ⟨some 19, .bin .and (.t 18) (.c (.int .u8 1)), none, 0⟩, ⟨some 20, .bin .eql (.t 19) (.c (.int .u8 1)), none, 0⟩] false []) (.cond (.t 20) (.seq (.region 0 [⟨some 4, .mv (.c (.bool false)), none, 0⟩] false []) .ret) .skip))) (.region 0 [⟨some 9, .mv (.t 5), none, 0⟩, ⟨some 10, .bin .add (.t 9) (.c (.int .i64 1)), none, 0⟩, ⟨some 5, .mv (.t 10), none, 0⟩] false [])))))) (.seq (.region 0 [⟨some 4, .mv (.c (.bool true)), none, 0⟩] false []) .ret))), false⟩
theorem c90 : cFunc Tryd.prog G f90 Tryd.f90 = some f90 := by kernel_rfl
/-- bytes.Compare -/
def f91 : AFunc :=
⟨2, [.t 4], (.seq (.region 0 [⟨some 4, .mv (.c (.int .i64 0)), none, 0⟩] false []) (.seq (.region 0 [⟨some 5, .mv (.t 0), none, 0⟩, ⟨some 6, .mv (.t 1), none, 0⟩, ⟨some 7, .callV 105 [.t 5, .t 6] 0, none, 0⟩, ⟨some 4, .mv (.t 7), none, 0⟩] false []) .ret)), false⟩
theorem c91 : cFunc Tryd.prog G f91 Tryd.f91 = some f91 := by kernel_rfl
/-- cmp.isNaN[int] -/
def f92 : AFunc :=
⟨1, [.t 2], (.seq (.region 0 [⟨some 2, .mv (.c (.bool false)), none, 0⟩] false []) (.seq (.region 0 [⟨some 3, .mv (.t 0), none, 0⟩, ⟨some 4, .mv (.t 0), none, 0⟩, ⟨some 5, .bin .neq (.t 3) (.t 4), none, 0⟩, ⟨some 2, .mv (.t 5), none, 0⟩] false []) .ret)), false⟩
theorem c92 : cFunc Tryd.prog G f92 Tryd.f92 = some f92 := by kernel_rfl
/-- slices.IndexFunc[[]junctionbox/api.Update,junctionbox/api.Update] -/
def f93 : AFunc :=
⟨2, [.t 4], (.seq (.region 0 [⟨some 4, .mv (.c (.int .i64 0)), none, 0⟩] false []) (.seq (.seq (.region 0 [⟨some 6, .mv (.t 0), none, 0⟩, ⟨some 7, .len (.t 6), none, 0⟩, ⟨some 8, .mv (.c (.int .i64 0)), none, 0⟩] false []) (.block 0 (.loop [0, 1, 7, 8] (.seq (.region 0 [⟨some 9, .bin .lss (.t 8) (.t 7), none, 0⟩] false []) (.seq (.cond (.t 9) .skip (.exit 0)) (.seq (.block 1 (.seq (.region 0 [⟨some 10, .mv (.t 8), none, 0⟩, ⟨some 5, .mv (.t 10), none, 0⟩] false []) (.seq (.region 0 [⟨some 11, .mv (.t 1), none, 0⟩, ⟨some 12, .mv (.t 0), none, 0⟩, ⟨some 13, .mv (.t 5), none, 0⟩, ⟨some 14, .iaddr 22 none (.t 12) (.t 13), none, 0⟩, ⟨some 15, .load 22 true (.t 14), none, 0⟩, ⟨some 16, .callR (.t 11) [.t 15] 0, none, 0⟩] false []) (.cond (.t 16) (.seq (.region 0 [⟨some 17, .mv (.t 5), none, 0⟩, ⟨some 4, .mv (.t 17), none, 0⟩] false []) .ret) .skip)))) (.region 0 [⟨some 18, .bin .add (.t 8) (.c (.int .i64 1)), none, 0⟩, ⟨some 8, .mv (.t 18), none, 0⟩] false []))))))) (.seq (.region 0 [⟨some 4, .mv (.c (.int .i64 (-1))), none, 0⟩] false []) .ret))), false⟩
theorem c93 : cFunc Tryd.prog G f93 Tryd.f93 = some f93 := by kernel_rfl
end Go.Proofs.YtgajekpigkknnaaDoor.F

/- slices.Clone of this program. No condition. -/
set_option linter.unusedVariables false
set_option linter.unusedSimpArgs false
namespace Go.Proofs.YtgajekpigkknnaaDoor.F
open Go Go.RowKit Go.Proofs Go.Proofs.YtgajekpigkknnaaDoor Go.Proofs.YtgajekpigkknnaaDoor.J
theorem elemT_44 : ElemT Tryd.prog 44 53 21 (.agg #[.int .i64 0, .int .u8 0, .int .u8 0, .int .u8 0, .int .u8 0, .int .u8 0, .int .u8 0, .int .u8 0, .int .u8 0, .int .u8 0, .int .u8 0, .int .u8 0, .int .u8 0, .int .u8 0, .int .u8 0, .int .u8 0, .int .u8 0, .int .i64 0, .int .i64 0, .int .i64 0, .int .i64 0]) 56 := ⟨Tryd.underlying44, by kernel_rfl, rfl, by decide⟩
set_option maxHeartbeats 4000000 in
set_option maxRecDepth 100000 in
theorem ins_shift_f53 (g n c i vb voff vc : Nat) (cur curv : Array Value) (xs : List Value) (w : World) (hi : i < n) (hroom : n + 1 ≤ c) (hc63 : c ≤ 9223372036854775807) (hvb : vb ≠ g) (hh : w.heap[g]? = some (.cells cur 53 (0, 0))) (hcs : cur.size = c * 21)
    (hv : w.heap[vb]? = some (.cells curv 53 (0, 0))) (hxl : xs.length = 21) (hx : ∀ j u, xs[j]? = some u → w.cell? ⟨vb, voff + j, none⟩ = some u) (h1x : ∀ u ∈ xs, u.oneCell' = true) (h1c : ∀ u ∈ (cur.toList.take (n * 21)).drop (i * 21), u.oneCell' = true) (R1 : Array Value)
    (hA : R1 = (cur.toList.take ((i + 1) * 21) ++ (cur.toList.take (n * 21)).drop (i * 21) ++ cur.toList.drop ((i + 1) * 21 + (n - i) * 21)).toArray) :
    Calls Tryd.prog 53 #[.slice (some ⟨g, 0, none⟩) n c, .int .i64 i, .slice (some ⟨vb, voff, none⟩) 1 vc] w fun e w' =>
      e = .returned (.slice (some ⟨g, 0, none⟩) (n + 1) c) ∧ w' = (w.drew.setRow g R1).setRow g (R1.toList.take (i * 21) ++ xs ++ R1.toList.drop (i * 21 + xs.length)).toArray := by
  have hsz : (Tryd.prog.info? 53).map (·.size) = some 21 := by kernel_rfl
  have hdl : ((cur.toList.take (n * 21)).drop (i * 21)).length = (n - i) * 21 := by
    rw [List.length_drop, List.length_take, Array.length_toList]
    omega
  have hsA : w.shape? vb = some (53, curv.size) := by simp [World.shape?, hv]
  have hsB : w.shape? g = some (53, cur.size) := by simp [World.shape?, hh]
  have hfr : ∀ o, w.frozen? ⟨vb, o, none⟩ = false := fun o => by simp [World.frozen?, hv]
  have hov : ∀ lb cb, (callFunc 77 #[.slice (some ⟨vb, voff, none⟩) 1 vc, .slice (some ⟨g, (i + 1) * 21, none⟩) lb cb]).run Tryd.prog w = .ok (.value (.bool false)) w := fun lb cb => by
    rw [run_callFunc_extern Tryd.func77 (by kernel_rfl) (by kernel_rfl) (by kernel_rfl) (e := Extern.SlicesOverlaps.overlaps #[44, 44] #[4]) (by kernel_rfl),
      Lib.run_overlaps_apart w 44 4 53 Tryd.underlying44 21 (fun w => by kernel_rfl) ⟨vb, voff, none⟩ ⟨g, (i + 1) * 21, none⟩ 1 vc lb cb hvb 53 53 _ _ hsA hsB (by omega) (hfr _) (hfr _)]
    rfl
  have hAs : R1.size = cur.size := by
    rw [hA]; simp only [List.size_toArray, List.length_append, hdl, List.length_take, List.length_drop, Array.length_toList]
    omega
  have hcp1 : ∀ ty dc sc, (Builtin.copy_ #[44, 44] ty #[.slice (some ⟨g, (i + 1) * 21, none⟩) (n - i) dc, .slice (some ⟨g, i * 21, none⟩) (n + 1 - i) sc]).run Tryd.prog w.drew = .ok (goInt ((n - i : Nat) : Int)) (w.drew.setRow g R1) := fun ty dc sc => by
    have h := A.run_copy_row (P := Tryd.prog) w.drew 44 ty 53 21 Tryd.underlying44 hsz g ((i + 1) * 21) (n - i) dc ⟨g, i * 21, none⟩ (n + 1 - i) sc cur 53 hh _ (n - i) (by simp only [Nat.min_def]; split <;> omega) hdl (fun j v hj => by
      rw [Addr.add_lit]
      rw [List.getElem?_drop, List.getElem?_take] at hj
      split at hj
      · show w.cell? _ = _
        simp only [World.cell?, hh]
        rw [← Array.getElem?_toList]; exact hj
      · cases hj) (by rw [hdl]; omega) h1c
    rw [hdl] at h
    rw [hA]; exact h
  obtain ⟨W1, hW1⟩ : ∃ W1, W1 = w.drew.setRow g R1 := ⟨_, rfl⟩
  have hh1 : W1.heap[g]? = some (.cells R1 53 (0, 0)) := by rw [hW1]; exact setRow_heap w.drew g cur R1 53 (0, 0) hh
  have hx1 : ∀ j u, xs[j]? = some u → W1.cell? ⟨vb, voff + j, none⟩ = some u := fun j u hj => by
    rw [hW1, cell_setRow_other w.drew g R1 _ hvb]; exact hx j u hj
  have hcp2 : ∀ ty dc, (Builtin.copy_ #[44, 44] ty #[.slice (some ⟨g, i * 21, none⟩) (n + 1 - i) dc, .slice (some ⟨vb, voff, none⟩) 1 vc]).run Tryd.prog W1 = .ok (goInt 1) (W1.setRow g (R1.toList.take (i * 21) ++ xs ++ R1.toList.drop (i * 21 + xs.length)).toArray) := fun ty dc =>
    A.run_copy_row (P := Tryd.prog) W1 44 ty 53 21 Tryd.underlying44 hsz g (i * 21) (n + 1 - i) dc ⟨vb, voff, none⟩ 1 vc R1 53 hh1 xs 1 (by simp only [Nat.min_def]; split <;> omega) (by omega) (fun j v hj => by rw [Addr.add_lit]; exact hx1 j v hj) (by omega) h1x
  have hw1 : IntKind.i64.wrap ((i : Int) + 1) = (i : Int) + 1 := by rw [IntKind.wrap_i64]; omega
  have hw2 : IntKind.i64.wrap ((n : Int) + 1) = (n : Int) + 1 := by rw [IntKind.wrap_i64]; omega
  have hz2 : ¬ ((i : Int) = (n : Int)) := by omega
  have hb1 : (0 : Int) ≤ (i : Int) + 1 := by omega
  have hin : i ≤ n := by omega
  have htn : ((i : Int) + 1).toNat = i + 1 := by omega
  have htn2 : ((n : Int) + 1).toNat = n + 1 := by omega
  have hb2 : ¬ (c = i + 1) := by omega
  have hb3 : (i : Int) ≤ (n : Int) + 1 := by omega
  have hb4 : ¬ (c = i) := by omega
  rw [← hW1] at hcp1 ⊢
  clear hW1 hA hdl hAs
  go_enter Tryd.func53, Tryd.ntmps53
  go_wp2_with (simp only [hov])
  go_region_law (refine step_copy_runI rfl _ _ 44 44 rfl _ _ (by simp [Act.eval, Act.put]) (by simp [Act.eval, Act.put]) (hcp1 _ _ _) ?_)
  go_wp2_with (at_builtin; refine wpList_copy_runI _ rfl _ _ 44 44 rfl _ _ rfl rfl (hcp2 _ _) ?_)
  go_ret
  exact ⟨rfl, by simp [hxl]⟩
set_option maxHeartbeats 4000000 in
set_option maxRecDepth 100000 in
theorem ins_grow_f53 (g n c i vb voff vc : Nat) (cur curv : Array Value) (xs : List Value) (w : World) (hi : i < n) (hnc : n ≤ c) (hroom : c < n + 1) (hbig : (n + 1) * 56 ≤ 140737488355328) (hh : w.heap[g]? = some (.cells cur 53 (0, 0))) (hcs : cur.size = c * 21)
    (hv : w.heap[vb]? = some (.cells curv 53 (0, 0))) (hxl : xs.length = 21) (hx : ∀ j u, xs[j]? = some u → w.cell? ⟨vb, voff + j, none⟩ = some u) (h1x : ∀ u ∈ xs, u.oneCell' = true) (h1c : ∀ u ∈ (cur.toList.take (n * 21)).drop (i * 21), u.oneCell' = true) :
    Calls Tryd.prog 53 #[.slice (some ⟨g, 0, none⟩) n c, .int .i64 i, .slice (some ⟨vb, voff, none⟩) 1 vc] w fun e w' =>
      ∃ (G : Nat) (R1 R2 : Array Value), e = .returned (.slice (some ⟨w.heap.size, 0, none⟩) (n + 1) G) ∧ n + 1 ≤ G ∧ G ≤ maxLen ∧ R1.size = G * 21 ∧ R1.toList.take (i * 21) = cur.toList.take (i * 21) ∧
        R2 = (R1.toList.take (i * 21) ++ xs ++ R1.toList.drop (i * 21 + 21)).toArray ∧
        w'.heap = ((((w.alloc (.cells R1 53)).setRow w.heap.size R2).setRow w.heap.size (R2.toList.take ((i + 1) * 21) ++ (cur.toList.take (n * 21)).drop (i * 21) ++ R2.toList.drop ((i + 1) * 21 + (n - i) * 21)).toArray)).heap ∧
        w'.os = w.os ∧ w'.tape = w.tape ∧ w'.output = w.output ∧ w.drawn ≤ w'.drawn := by
  obtain ⟨i0, z, hi0, hz0, hzs, hzb, hzc⟩ : ∃ i0 z, Tryd.prog.info? 53 = some i0 ∧ i0.zero = some z ∧ i0.size = 21 ∧ i0.bytes = 56 ∧ z.cells.size = 21 := by
    have h := elemT_44.info
    cases hq : Tryd.prog.info? 53 with
    | none => rw [hq] at h; cases h
    | some i0 => rw [hq] at h; simp at h; exact ⟨i0, _, rfl, h.1, h.2.1, h.2.2, elemT_44.zs⟩
  have hsz : (Tryd.prog.info? 53).map (·.size) = some 21 := by rw [hi0]; simp [hzs]
  have hdl : ((cur.toList.take (n * 21)).drop (i * 21)).length = (n - i) * 21 := by
    rw [List.length_drop, List.length_take, Array.length_toList]
    omega
  have hgw : g < w.heap.size := (Array.getElem?_eq_some_iff.1 hh).1
  have hvw : vb < w.heap.size := (Array.getElem?_eq_some_iff.1 hv).1
  have hkk : (n : Int) + 1 - (i : Int) = ((n + 1 - i : Nat) : Int) := by omega
  have hik : i + (n + 1 - i) = n + 1 := by omega
  have hold : (Builtin.firstCells i0.size i (.slice (some ⟨g, 0, none⟩) i c)).run Tryd.prog w.drew = .ok (cur.toList.take (i * 21)).toArray w.drew := by
    rw [hzs]
    exact run_firstCells_some w.drew 21 i ⟨g, 0, none⟩ i c (cur.toList.take (i * 21)) (by rw [List.length_take, Array.length_toList]; omega) (fun j v hj => by
      rw [Addr.add_lit]
      rw [List.getElem?_take] at hj
      split at hj
      · show w.cell? _ = _
        simp only [World.cell?, hh]
        rw [← Array.getElem?_toList, Nat.zero_add]; exact hj
      · cases hj)
  obtain ⟨G, hG⟩ : ∃ G, G = grownCap w (n + 1) c 53 := ⟨_, rfl⟩
  obtain ⟨R1, hR1⟩ : ∃ R1 : Array Value, R1 = (cur.toList.take (i * 21)).toArray ++ Builtin.zeroCells z.cells (n + 1 - i) ++ Builtin.zeroCells z.cells (G - (n + 1)) := ⟨_, rfl⟩
  have hrz : ∀ ty, (Builtin.append_ #[44, 3] ty #[.slice (some ⟨g, 0, none⟩) i c, .int .i64 ((n : Int) + 1 - (i : Int))]).run Tryd.prog w = .ok (.slice (some ⟨w.heap.size, 0, none⟩) (n + 1) G) (w.drew.alloc (.cells R1 53)) := fun ty => by
    have h := Lib.run_append_grow_zeros w 44 3 ty 53 i0 _ .i64 .i64 Tryd.underlying44 Tryd.underlying3 hi0 hz0 (some ⟨g, 0, none⟩) i c _ hold (n + 1 - i) (by omega) (by omega) (by omega) (by omega) (by rw [hzb]; omega) (by rw [hzb, hik]; exact growslice_fits hroom hbig)
    rw [hik, ← hG, ← hR1] at h
    rw [hkk]
    exact h
  have hGn : n + 1 ≤ G := by rw [hG]; exact grownCap_ge w _ _ _
  have hGm : G ≤ maxLen := by rw [hG]; exact grownCap_le_maxLen w (n + 1) c 53 (by unfold maxLen; omega)
  have hG63 : G ≤ 9223372036854775807 := by unfold maxLen at hGm; omega
  have hRs : R1.size = G * 21 := by
    rw [hR1]; simp only [Array.size_append, List.size_toArray, size_zeroCells, hzc, List.length_take, Array.length_toList]
    omega
  have hRt : R1.toList.take (i * 21) = cur.toList.take (i * 21) := by
    rw [hR1]
    have hl : (cur.toList.take (i * 21)).length = i * 21 := by rw [List.length_take, Array.length_toList]; omega
    simp only [Array.toList_append, List.append_assoc]
    exact List.take_left' hl
  obtain ⟨R2, hR2⟩ : ∃ R2 : Array Value, R2 = (R1.toList.take (i * 21) ++ xs ++ R1.toList.drop (i * 21 + 21)).toArray := ⟨_, rfl⟩
  obtain ⟨R3, hR3⟩ : ∃ R3 : Array Value, R3 = (R2.toList.take ((i + 1) * 21) ++ (cur.toList.take (n * 21)).drop (i * 21) ++ R2.toList.drop ((i + 1) * 21 + (n - i) * 21)).toArray := ⟨_, rfl⟩
  have hle : (i + 1) * 21 + (n - i) * 21 ≤ G * 21 := by omega
  have hR2s : R2.size = G * 21 := by
    rw [hR2]; simp only [List.size_toArray, List.length_append, List.length_take, List.length_drop, Array.length_toList, hxl, hRs]
    omega
  have hcpA : ∀ W : World, W.heap = (w.alloc (.cells R1 53)).heap → ∀ ty dc, (Builtin.copy_ #[44, 44] ty #[.slice (some ⟨w.heap.size, i * 21, none⟩) (n + 1 - i) dc, .slice (some ⟨vb, voff, none⟩) 1 vc]).run Tryd.prog W = .ok (goInt 1) (W.setRow w.heap.size R2) := fun W hW ty dc => by
    have h := A.run_copy_row (P := Tryd.prog) W 44 ty 53 21 Tryd.underlying44 hsz w.heap.size (i * 21) (n + 1 - i) dc ⟨vb, voff, none⟩ 1 vc R1 53 (by rw [hW]; exact World.alloc_heap_new w _) xs 1 (by simp only [Nat.min_def]; split <;> omega) (by omega) (fun j v hj => by
      rw [Addr.add_lit]
      have := hx j v hj
      unfold World.cell? at this ⊢
      rw [hW]
      rw [A.alloc_old w _ hvw]
      exact this) (by omega) h1x
    rw [hxl] at h
    rw [hR2]; exact h
  have hcpB : ∀ W : World, W.heap = ((w.alloc (.cells R1 53)).setRow w.heap.size R2).heap → ∀ ty dc sc, (Builtin.copy_ #[44, 44] ty #[.slice (some ⟨w.heap.size, (i + 1) * 21, none⟩) (n - i) dc, .slice (some ⟨g, i * 21, none⟩) (n - i) sc]).run Tryd.prog W = .ok (goInt ((n - i : Nat) : Int)) (W.setRow w.heap.size R3) := fun W hW ty dc sc => by
    have h := A.run_copy_row (P := Tryd.prog) W 44 ty 53 21 Tryd.underlying44 hsz w.heap.size ((i + 1) * 21) (n - i) dc ⟨g, i * 21, none⟩ (n - i) sc R2 53 (by rw [hW]; exact setRow_heap _ _ R1 R2 53 (0, 0) (World.alloc_heap_new w _)) _ (n - i) (by simp only [Nat.min_def]; split <;> omega) hdl (fun j v hj => by
      rw [Addr.add_lit]
      have hc : W.cell? ⟨g, i * 21 + j, none⟩ = ((w.alloc (.cells R1 53)).setRow w.heap.size R2).cell? ⟨g, i * 21 + j, none⟩ := by unfold World.cell?; rw [hW]
      rw [hc, cell_setRow_other _ _ _ _ (show g ≠ w.heap.size by omega)]
      rw [List.getElem?_drop, List.getElem?_take] at hj
      split at hj
      · unfold World.cell?
        rw [A.alloc_old w _ hgw, hh]
        simp only
        rw [← Array.getElem?_toList]; exact hj
      · cases hj) (by rw [hdl, hR2s]; omega) h1c
    rw [hdl] at h
    rw [hR3]; exact h
  have hw1 : IntKind.i64.wrap ((i : Int) + 1) = (i : Int) + 1 := by rw [IntKind.wrap_i64]; omega
  have hw2 : IntKind.i64.wrap ((n : Int) + 1) = (n : Int) + 1 := by rw [IntKind.wrap_i64]; omega
  have hz2 : ¬ ((i : Int) = (n : Int)) := by omega
  have hz3 : (c : Int) < (n : Int) + 1 := by omega
  have hb1 : (0 : Int) ≤ (i : Int) + 1 := by omega
  have hin : i ≤ n := by omega
  have htn : ((i : Int) + 1).toNat = i + 1 := by omega
  have hb3 : (i : Int) ≤ (n : Int) := by omega
  have hb4 : ¬ (c = i) := by omega
  have hGi : ¬ (G = i) := by omega
  have hGim : ¬ (G = i + 1) := by omega
  clear hkk hik hold hR1 hG hle hR2s hdl hsz
  refine Calls.mono (R := fun e w' => e = .returned (.slice (some ⟨w.heap.size, 0, none⟩) (n + 1) G) ∧ w'.heap = (((w.alloc (.cells R1 53)).setRow w.heap.size R2).setRow w.heap.size R3).heap ∧ w'.os = w.os ∧ w'.tape = w.tape ∧ w'.output = w.output ∧ w.drawn ≤ w'.drawn) ?_ (fun e w' h => ⟨G, R1, R2, h.1, hGn, hGm, hRs, hRt, hR2, by rw [← hR3]; exact h.2.1, h.2.2⟩)
  have hA := hcpA (w.alloc (.cells R1 53)).drew rfl
  have hB := hcpB ((w.alloc (.cells R1 53)).drew.setRow w.heap.size R2).drew rfl
  clear hR2 hR3 hRt hcpA hcpB
  go_enter Tryd.func53, Tryd.ntmps53
  go_wp2_with (first
    | (at_builtin; refine Lib.wpList_append_run _ rfl _ _ _ _ rfl _ _ rfl rfl _ _ (hrz _) ?_)
    | (at_builtin; refine wpList_copy_runI _ rfl _ _ 44 44 rfl _ _ rfl rfl (hA _ _) ?_))
  go_region_law (refine step_copy_runI rfl _ _ 44 44 rfl _ _ (by simp [Act.eval, Act.put]) (by simp [Act.eval, Act.put]) (hB _ _ _) ?_)
  go_wp2
  go_ret
  exact ⟨rfl, rfl, rfl, rfl, rfl, by first | exact Nat.le_refl _ | exact Nat.le_succ _ | exact Nat.le_add_right _ 2 | exact Nat.le_add_right _ 3⟩
theorem ins_mid_f53 : A.InsMid Tryd.prog 53 53 21 56 := by
  intro g n c i vb voff vc cur curv xs w hi hnc hcm hbig hvb hh hcs hv hxl hx h1x h1c
  have h1d : ∀ u ∈ (cur.toList.take (n * 21)).drop (i * 21), u.oneCell' = true := fun u hu => h1c u (List.mem_of_mem_drop hu)
  have hdl : ((cur.toList.take (n * 21)).drop (i * 21)).length = (n - i) * 21 := by
    rw [List.length_drop, List.length_take, Array.length_toList]
    omega
  have hgw : g < w.heap.size := (Array.getElem?_eq_some_iff.1 hh).1
  have ea : (n + 1) * 21 = i * 21 + 21 + (n - i) * 21 := by omega
  have eb : (i + 1) * 21 = i * 21 + 21 := by omega
  by_cases hroom : n + 1 ≤ c
  · refine (ins_shift_f53 g n c i vb voff vc cur curv xs w hi hroom (by unfold maxLen at hcm; omega) hvb hh hcs hv hxl hx h1x h1d _ rfl).mono ?_
    rintro e' w' ⟨rfl, rfl⟩
    obtain ⟨q1, q2⟩ := A.ins_list1 (i * 21) 21 ((n - i) * 21) cur.toList xs _ hdl hxl (by rw [Array.length_toList, hcs]; omega) _ _ rfl rfl
    obtain ⟨c', rfl⟩ : ∃ c', c = c' + 1 := ⟨c - 1, by omega⟩
    refine ⟨g, c', _, rfl, setRow_heap _ g _ _ 53 (0, 0) (setRow_heap w.drew g cur _ 53 (0, 0) hh), hroom, hcm, ?_, ?_, .inl rfl, ?_, Nat.le_succ _⟩
    · rw [← Array.length_toList]
      rw [hxl, eb]; exact q2.trans (by rw [Array.length_toList]; exact hcs)
    · rw [hxl, ea, eb]; exact q1
    · refine ⟨rfl, rfl, rfl, by simp only [World.setRow, Array.size_modify]; exact Nat.le_refl _, fun b hb hne => ?_⟩
      rw [setRow_other _ _ _ _ (fun e => hne (by rw [e])), setRow_other _ _ _ _ (fun e => hne (by rw [e]))]; rfl
  · refine (ins_grow_f53 g n c i vb voff vc cur curv xs w hi hnc (by omega) hbig hh hcs hv hxl hx h1x h1d).mono ?_
    rintro e' w' ⟨G, R1, R2, rfl, hG1, hG2, hR1, hR1t, hR2, hheap, ho, ht, hout, hdr⟩
    obtain ⟨q1, q2⟩ := A.ins_list2 (i * 21) 21 ((n - i) * 21) cur.toList xs _ R1.toList hdl hxl (by rw [Array.length_toList, hR1]; omega) hR1t (by rw [Array.length_toList, hcs]; omega) R2.toList _ (by rw [hR2]) rfl
    obtain ⟨c', rfl⟩ : ∃ c', G = c' + 1 := ⟨G - 1, by omega⟩
    refine ⟨w.heap.size, c', (R2.toList.take ((i + 1) * 21) ++ (cur.toList.take (n * 21)).drop (i * 21) ++ R2.toList.drop ((i + 1) * 21 + (n - i) * 21)).toArray, rfl, ?_, hG1, hG2, ?_, ?_, .inr (Nat.le_refl _), ?_, hdr⟩
    rotate_left 3
    · refine ⟨ho, ht, hout, by rw [hheap]; simp only [World.setRow, Array.size_modify]; show _ ≤ (w.heap.push _).size; rw [Array.size_push]; exact Nat.le_succ _, fun b hb hne => ?_⟩
      rw [hheap, setRow_other _ _ _ _ (by omega), setRow_other _ _ _ _ (by omega)]; exact A.alloc_old w _ hb
    · rw [hheap]; exact setRow_heap _ _ _ _ 53 (0, 0) (setRow_heap _ _ R1 _ 53 (0, 0) (World.alloc_heap_new w _))
    · rw [← Array.length_toList]
      rw [eb]; exact q2.trans (by rw [Array.length_toList]; exact hR1)
    · rw [ea, eb]; exact q1
set_option maxHeartbeats 4000000 in
set_option maxRecDepth 100000 in
theorem ins_end_f53 : A.InsEnd Tryd.prog 53 44 := by
  intro base n c vb voff vc v' w w' hnc hn hrun
  have h1 : (0 : Int) ≤ (n : Int) := by omega
  cases base with
  | none =>
    have h0 := hn rfl
    subst h0
    go_enter Tryd.func53, Tryd.ntmps53
    go_wp2_with (at_builtin; refine Lib.wpList_append_run _ rfl _ _ _ _ rfl _ _ rfl rfl _ _ hrun ?_)
    go_ret
    exact ⟨rfl, rfl⟩
  | some a =>
    obtain ⟨ab, ao, asp⟩ := a
    go_enter Tryd.func53, Tryd.ntmps53
    go_wp2_with (at_builtin; refine Lib.wpList_append_run _ rfl _ _ _ _ rfl _ _ rfl rfl _ _ hrun ?_)
    all_goals (go_ret; exact ⟨rfl, rfl⟩)
theorem elemT_24 : ElemT Tryd.prog 24 42 22 (.agg #[.int .i64 0, .int .u8 0, .int .u8 0, .int .u8 0, .int .u8 0, .int .u8 0, .int .u8 0, .int .u8 0, .int .u8 0, .int .u8 0, .int .u8 0, .int .u8 0, .int .u8 0, .int .u8 0, .int .u8 0, .int .u8 0, .int .u8 0, .int .i64 0, .int .i64 0, .bool false, .int .i64 0, .int .i64 0]) 64 := ⟨Tryd.underlying24, by kernel_rfl, rfl, by decide⟩
set_option maxHeartbeats 1000000 in
theorem clone_f22 (a : Option Addr) (c : Nat) (css : List (List Value)) (w : World) (hs : SlC w 22 a css) (h1 : ∀ cs ∈ css, ∀ u ∈ cs, u.oneCell' = true) (hb : css.length * 64 ≤ 140737488355328) :
    Calls Tryd.prog 22 #[.slice a css.length c] w fun e w' => ∃ v, e = .returned v ∧ OwnL w' w.heap.size 42 22 v css ∧ Ext w w' ∧ w.drawn ≤ w'.drawn := by
  have keq := eql_slice_nil Tryd.underlying24
  cases a with
  | none =>
    have hnil : css = [] := by
      cases css with
      | nil => rfl
      | cons c r => obtain ⟨_, b, o, h2, _⟩ := hs 0 c rfl; cases h2
    subst hnil
    have kn := fun (w : World) (l c : Nat) => keq w none l c
    simp only [Option.isNone_none] at kn
    clear keq
    go_enter Tryd.func22, Tryd.ntmps22
    go_wp2
    go_ret
    exact ⟨_, rfl, OwnL.nil _ _ _ _, by repeat (first | exact Ext.refl _ | assumption | apply Ext.alloc | apply Ext.drewN | apply Ext.drew), by first | exact Nat.le_refl _ | exact Nat.le_succ _⟩
  | some ad =>
    have kn := fun (w : World) (l c : Nat) => keq w (some ad) l c
    simp only [Option.isNone_some] at kn
    clear keq
    have ho : OwnL (w.alloc (.cells #[] 42)) w.heap.size 42 22 (.slice (some ⟨w.heap.size, 0, none⟩) 0 0) [] := ⟨World.ownsRow_lit w #[] 0 (Nat.le_refl _) (Nat.zero_le _) (by simp), fun c hc => by cases hc⟩
    go_enter Tryd.func22, Tryd.ntmps22
    go_wp2_with (at_builtin; refine wpl_append_d rfl _ _ 24 rfl elemT_24 w.heap.size rfl ho rfl rfl (hs.ext ((Ext.refl w).alloc _)) h1 (by simpa using hb) (by decide) (by simp) ?_; intro v' W' ho' hg' hd'; have he' := ext_own ((Ext.refl w).alloc _) ho (Nat.le_refl _) hg'; clear hg')
    go_ret
    exact ⟨_, rfl, by simpa using ho', he', hd'⟩
set_option maxHeartbeats 1000000 in
theorem clone_f36 (a : Option Addr) (c : Nat) (css : List (List Value)) (w : World) (hs : SlC w 21 a css) (h1 : ∀ cs ∈ css, ∀ u ∈ cs, u.oneCell' = true) (hb : css.length * 56 ≤ 140737488355328) :
    Calls Tryd.prog 36 #[.slice a css.length c] w fun e w' => ∃ v, e = .returned v ∧ OwnL w' w.heap.size 53 21 v css ∧ Ext w w' ∧ w.drawn ≤ w'.drawn := by
  have keq := eql_slice_nil Tryd.underlying44
  cases a with
  | none =>
    have hnil : css = [] := by
      cases css with
      | nil => rfl
      | cons c r => obtain ⟨_, b, o, h2, _⟩ := hs 0 c rfl; cases h2
    subst hnil
    have kn := fun (w : World) (l c : Nat) => keq w none l c
    simp only [Option.isNone_none] at kn
    clear keq
    go_enter Tryd.func36, Tryd.ntmps36
    go_wp2
    go_ret
    exact ⟨_, rfl, OwnL.nil _ _ _ _, by repeat (first | exact Ext.refl _ | assumption | apply Ext.alloc | apply Ext.drewN | apply Ext.drew), by first | exact Nat.le_refl _ | exact Nat.le_succ _⟩
  | some ad =>
    have kn := fun (w : World) (l c : Nat) => keq w (some ad) l c
    simp only [Option.isNone_some] at kn
    clear keq
    have ho : OwnL (w.alloc (.cells #[] 53)) w.heap.size 53 21 (.slice (some ⟨w.heap.size, 0, none⟩) 0 0) [] := ⟨World.ownsRow_lit w #[] 0 (Nat.le_refl _) (Nat.zero_le _) (by simp), fun c hc => by cases hc⟩
    go_enter Tryd.func36, Tryd.ntmps36
    go_wp2_with (at_builtin; refine wpl_append_d rfl _ _ 44 rfl elemT_44 w.heap.size rfl ho rfl rfl (hs.ext ((Ext.refl w).alloc _)) h1 (by simpa using hb) (by decide) (by simp) ?_; intro v' W' ho' hg' hd'; have he' := ext_own ((Ext.refl w).alloc _) ho (Nat.le_refl _) hg'; clear hg')
    go_ret
    exact ⟨_, rfl, by simpa using ho', he', hd'⟩
end Go.Proofs.YtgajekpigkknnaaDoor.F

/- A function of the library that is taken as told: slices.Grow. No condition. -/
set_option linter.unusedVariables false
set_option linter.unusedSimpArgs false
namespace Go.Proofs.YtgajekpigkknnaaDoor.A
open Go Go.Shelf
variable {U : Nat → Prop} {w w' : World} {Pr Pr' : Nat → Nat → Prop} {σ σ' : List Blk} {γ γ' : List Ghost} {ls : List Nat} {P : Program} {G : Nat → Option (List AV)}
def pGrow (e : TypeId) (k bytes : Nat) : List AV → List Blk → Option (AV × List Blk)
  | [.lis id g 0 len, .int .i64 n], bs =>
    match bs[id]? with
    | some (.lst 0 g' e' k' rows) =>
      if (g' = g ∧ e' = e ∧ k' = k ∧ rows.length = len) ∧ 0 ≤ n ∧ (len + n.toNat) * bytes ≤ 140737488355328 ∧ len + n.toNat ≤ 4611686018427387904 then some (.lis id (g + 1) 0 len, bs.set id (.lst 0 (g + 1) e k rows)) else none
    | _ => none
  | [.clip [], .int .i64 n], bs =>
    if 0 ≤ n ∧ n.toNat * bytes ≤ 140737488355328 ∧ n.toNat ≤ 4611686018427387904 then some (.lis bs.length 0 0 0, bs ++ [.lst 0 0 e k []]) else none
  | _, _ => none
theorem grow_call {ρ : Ren} (L : Lays8.n4 P ρ) {i0 : TypeInfo} {z : Value} (hi0 : P.info? (ρ.t 25) = some i0) (hz0 : i0.zero = some z) (hzs : z.cells.size = i0.size) (hs0 : 0 < i0.size)
    (base : Option Addr) (l c n : Nat) (us : List Value) (w : World) (hlc : l ≤ c) (hcm : c ≤ maxLen) (hbig : (l + n) * i0.bytes ≤ 140737488355328) (h63 : l + n ≤ 4611686018427387904)
    (hul : us.length = l * i0.size) (hnil : base = none → c = 0) (hcs : ∀ a, base = some a → c ≠ 0 → ∃ b cur e, a = ⟨b, 0, none⟩ ∧ w.heap[b]? = some (.cells cur e (0, 0)) ∧ cur.size = c * i0.size ∧ cur.toList.take (l * i0.size) = us) :
    Calls P (ρ.f 4) #[.slice base l c, .int .i64 n] w fun e w' => (e = .returned (.slice base l c) ∧ w' = w) ∨
      ∃ c' cur', e = .returned (.slice (some ⟨w.heap.size, 0, none⟩) l (c' + 1)) ∧ l ≤ c' + 1 ∧ c' + 1 ≤ maxLen ∧ w' = w.drew.alloc (.cells cur' (ρ.t 25)) ∧ cur'.size = (c' + 1) * i0.size ∧ cur'.toList.take (l * i0.size) = us := by
  unfold maxLen at hcm
  rcases Nat.lt_or_ge c (l + n) with hroom | hroom
  · obtain ⟨cs, hcl, htk, hcs'⟩ : ∃ cs : List Value, cs.length = c * i0.size ∧ cs.take (l * i0.size) = us ∧ ∀ a, base = some a → ∀ j v, cs[j]? = some v → w.cell? (a.add j) = some v := by
      by_cases h0 : c = 0
      · subst h0
        obtain rfl : l = 0 := by omega
        refine ⟨[], by simp, ?_, fun a _ j v h => by simp at h⟩
        have : us = [] := List.eq_nil_of_length_eq_zero (by simpa using hul)
        rw [this]; simp
      · cases base with
        | none => exact absurd (hnil rfl) h0
        | some a =>
          obtain ⟨b, cur, e, rfl, h1, h2, h3⟩ := hcs a rfl h0
          refine ⟨cur.toList, by simpa using h2, h3, fun a' ha j v hj => ?_⟩
          cases ha
          have ea : Addr.add ⟨b, 0, none⟩ j = ⟨b, j, none⟩ := by cases j <;> simp [Addr.add]
          rw [ea]
          simp only [World.cell?, h1]
          rw [← Array.getElem?_toList]; exact hj
    refine (Any8.slices_Grow_grow L i0 z hi0 hz0 hs0 base l c n cs w hlc hroom hbig h63 hcl hnil hcs').mono ?_
    rintro e w' ⟨rfl, rfl⟩
    have hG := grownCap_ge w (l + n) c (ρ.t 25)
    have hG2 := grownCap_le_maxLen w (l + n) c (ρ.t 25) (by unfold maxLen; omega)
    generalize grownCap w (l + n) c (ρ.t 25) = G at *
    obtain ⟨G, rfl⟩ : ∃ G', G = G' + 1 := ⟨G - 1, by omega⟩
    refine .inr ⟨G, _, rfl, by omega, hG2, rfl, ?_, ?_⟩
    · simp only [Array.size_append, size_zeroCells, List.size_toArray, hcl, hzs, ← Nat.add_mul]
      congr 1; omega
    · rw [Array.toList_append, Array.toList_append, List.append_assoc, List.take_append_of_le_length (by rw [hcl]; exact Nat.mul_le_mul_right _ hlc)]
      exact htk
  · refine (Any8.slices_Grow_room L base l c n w hlc hcm (by omega) hroom).mono ?_
    rintro e w' ⟨rfl, rfl⟩
    exact .inl ⟨rfl, rfl⟩
theorem alloc_evo (o : Obj) (hu : ∀ b, w.heap.size ≤ b → U b) : Evo U [] w Pr (w.drew.alloc o) Pr := ext_evo (J.Ext.alloc (J.Ext.drew (J.Ext.refl w)) o) (Nat.le_succ _) hu
theorem pGrow_ok {ρ : Ren} (L : Lays8.n4 P ρ) {i0 : TypeInfo} {z : Value} (hi0 : P.info? (ρ.t 25) = some i0) (hz0 : i0.zero = some z) (hzs : z.cells.size = i0.size) (hs0 : 0 < i0.size) (hent : Ent P (ρ.f 4)) :
    PrimOk P G (ρ.f 4) (pGrow (ρ.t 25) i0.size i0.bytes) := by
  intro args bs r bs' h U w Pr γ vs hI hG hA
  unfold pGrow at h
  split at h
  · rename_i id g len n
    split at h
    case h_2 => cases h
    rename_i g' e' k' rows hid
    split at h
    case isFalse => cases h
    rename_i hc
    obtain ⟨⟨rfl, rfl, rfl, hlen⟩, h0, h1, h2⟩ := hc
    cases h
    obtain ⟨v0, vs1, rfl, r0, hA⟩ := hA.cons_inv
    obtain ⟨v1, vs2, rfl, r1, hA⟩ := hA.cons_inv
    rw [hA.nil_inv]
    obtain ⟨m, rfl⟩ : ∃ m : Nat, n = (m : Int) := ⟨n.toNat, by omega⟩
    simp only [Int.toNat_natCast] at h1 h2
    have hq := int_inv r1
    subst hq
    subst hlen
    obtain ⟨gh, us, hg, hk, hrk, hd, hV, hR, hone⟩ := hI.lst id 0 g' _ _ rows hid
    have hidl := (List.getElem?_eq_some_iff.1 hid).1
    have hγl : id < γ.length := (List.getElem?_eq_some_iff.1 hg).1
    have hM : MutIs gh.v i0.size 0 rows.length v0 := by
      cases r0 with
      | lisOld id gen off len lk g2 e k rows u h3 h4 ho => rw [hid] at h3; cases h3; omega
      | lis id off len lk g2 e k rows gh2 u h3 h4 h5 h6 => rw [hid] at h3; cases h3; rw [hg] at h4; cases h4; exact h6
    obtain ⟨base, n0, cap, hgv, ⟨_, rfl, hlc, hbs⟩ | ⟨h0, _⟩⟩ := hM
    case inr => exact absurd h0 (Nat.lt_irrefl 0)
    have hul := hV.1
    have hcall := grow_call (P := P) L hi0 hz0 hzs hs0 base rows.length cap m us w hlc
      (by
        obtain ⟨_, ⟨_, a, hx⟩ | ⟨g, c, cur, hx, _, _, hcm, _⟩⟩ := hV
        · rw [hgv] at hx; cases hx; exact Nat.zero_le _
        · rw [hgv] at hx; cases hx; exact hcm) h1 h2 hul
      (fun hb => by
        obtain ⟨_, ⟨_, a, hx⟩ | ⟨g, c, cur, hx, _, _, hcm, _⟩⟩ := hV
        · rw [hgv] at hx; cases hx; rfl
        · rw [hgv] at hx; cases hx; cases hb)
      (fun a ha hc => by
        obtain ⟨_, ⟨_, a', hx⟩ | ⟨g, c, cur, hx, h3, _, hcm, h4, h5⟩⟩ := hV
        · rw [hgv] at hx; cases hx; exact absurd rfl hc
        · rw [hgv] at hx; cases hx; cases ha
          exact ⟨g, cur, _, rfl, h3, h4, h5⟩)
    refine .inl ⟨hent _ _, hcall.mono ?_⟩
    rintro e1 w1 (⟨rfl, rfl⟩ | ⟨c', cur', rfl, hlc', hcm', rfl, hsz, htk⟩)
    · obtain ⟨h3, h4⟩ := hI.growLst hid hg rows gh.v us (Evo.refl U [] w1 Pr) (fun _ _ _ => rfl) (fun b hb => .inl hb) hrk hd hV hR hone
      exact ⟨_, rfl, Pr, _, h3, h4, Evo.refl _ _ _ _, .lis id 0 _ 0 (g' + 1) _ _ rows ⟨0, gh.v⟩ _ (List.getElem?_set_self hidl) (List.getElem?_set_self hγl) (by omega) ⟨base, n0, cap, hgv, .inl ⟨rfl, rfl, hlc, hbs⟩⟩⟩
    · have hE := alloc_evo (w := w) (Pr := Pr) (U := U) (.cells cur' (ρ.t 25)) hI.new
      have hh : (w.drew.alloc (.cells cur' (ρ.t 25))).heap[w.heap.size]? = some (.cells cur' (ρ.t 25) (0, 0)) := by show (w.heap.push _)[w.heap.size]? = _; simp
      obtain ⟨h3, h4⟩ := hI.growLst hid hg rows (.slice (some ⟨w.heap.size, 0, none⟩) rows.length (c' + 1)) us hE (fun b hb _ => by show (w.heap.push _)[b]? = _; rw [Array.getElem?_push_lt hb, Array.getElem?_eq_getElem hb]) (fun b hb => by cases hb; exact .inr (Nat.le_refl _)) hrk hd
        ⟨hul, .inr ⟨_, c', cur', rfl, hh, hlc', hcm', hsz, htk⟩⟩ hR hone
      exact ⟨_, rfl, Pr, _, h3, h4, hE, .lis id 0 _ 0 (g' + 1) _ _ rows ⟨0, _⟩ _ (List.getElem?_set_self hidl) (List.getElem?_set_self hγl) (by omega) ⟨_, _, _, rfl, .inl ⟨rfl, rfl, hlc', fun _ => ⟨_, rfl⟩⟩⟩⟩
  · rename_i n
    split at h
    case isFalse => cases h
    rename_i hc
    obtain ⟨h0, h1, h2⟩ := hc
    cases h
    obtain ⟨v0, vs1, rfl, r0, hA⟩ := hA.cons_inv
    obtain ⟨v1, vs2, rfl, r1, hA⟩ := hA.cons_inv
    rw [hA.nil_inv]
    obtain ⟨m, rfl⟩ : ∃ m : Nat, n = (m : Int) := ⟨n.toNat, by omega⟩
    simp only [Int.toNat_natCast] at h1 h2
    have hq := int_inv r1
    subst hq
    obtain ⟨base, rfl⟩ : ∃ a, v0 = .slice a 0 0 := by cases r0 with | clip rows a h => exact ⟨a, rfl⟩
    have hcall := grow_call (P := P) L hi0 hz0 hzs hs0 base 0 0 m [] w (Nat.le_refl _) (Nat.zero_le _) (by simpa using h1) (by simpa using h2) (by simp) (fun _ => rfl) (fun a ha hc => absurd rfl hc)
    have hset : (bs ++ [Blk.dead]).set bs.length (Blk.lst 0 0 (ρ.t 25) i0.size []) = bs ++ [Blk.lst 0 0 (ρ.t 25) i0.size []] := by rw [List.set_append_right _ _ (Nat.le_refl _), Nat.sub_self]; rfl
    obtain ⟨s1, s2⟩ := hI.slots 1
    simp only [List.replicate_one] at s1 s2
    have hdd : (bs ++ [Blk.dead])[bs.length]? = some .dead := by simp
    have hg1 : bs.length < (γ ++ [default]).length := by simp [hI.len]
    refine .inl ⟨hent _ _, hcall.mono ?_⟩
    rintro e1 w1 (⟨rfl, rfl⟩ | ⟨c', cur', rfl, hlc', hcm', rfl, hsz, htk⟩)
    · obtain ⟨h3, h4⟩ := s1.adopt hdd (ρ.t 25) i0.size [] (.slice base 0 0) [] hs0 (by simp) rfl ⟨by simp, .inl ⟨rfl, base, rfl⟩⟩ (by simpa using RepL.nil) (by simp) (fun b hb => by cases base <;> cases hb)
      rw [hset] at h3 h4
      refine ⟨_, rfl, Pr, _, h3, s2.trans h4, Evo.refl _ _ _ _, .lis bs.length 0 0 0 0 (ρ.t 25) i0.size [] ⟨0, .slice base 0 0⟩ _ (by simp) (List.getElem?_set_self hg1) (by simp) ⟨base, 0, 0, rfl, .inl ⟨rfl, rfl, Nat.le_refl _, fun h => absurd rfl h⟩⟩⟩
    · have hE := alloc_evo (w := w) (Pr := Pr) (U := U) (.cells cur' (ρ.t 25)) hI.new
      have hh : (w.drew.alloc (.cells cur' (ρ.t 25))).heap[w.heap.size]? = some (.cells cur' (ρ.t 25) (0, 0)) := by show (w.heap.push _)[w.heap.size]? = _; simp
      have s3 : Inv U (w.drew.alloc (.cells cur' (ρ.t 25))) Pr (bs ++ [Blk.dead]) (γ ++ [default]) := s1.world hE (fun j b hb => by
        have hlt := s1.memB_lt hb
        show (w.heap.push _)[b]? = _
        rw [Array.getElem?_push_lt hlt, Array.getElem?_eq_getElem hlt]) (fun _ _ _ _ h => h) (fun b i hp => Nat.lt_of_lt_of_le (hI.old b i hp) hE.size)
      obtain ⟨h3, h4⟩ := s3.adopt hdd (ρ.t 25) i0.size [] (.slice (some ⟨w.heap.size, 0, none⟩) 0 (c' + 1)) [] hs0 (by simp) rfl ⟨by simp, .inr ⟨_, c', cur', rfl, hh, hlc', hcm', hsz, htk⟩⟩ (by simpa using RepL.nil) (by simp)
        (fun b hb => by
          cases hb
          exact ⟨hI.new _ (Nat.le_refl _), fun i hp => absurd (hI.old _ i hp) (Nat.lt_irrefl _), fun j hj => absurd (s1.memB_lt hj) (Nat.lt_irrefl _)⟩)
      rw [hset] at h3 h4
      refine ⟨_, rfl, Pr, _, h3, s2.trans h4, hE, .lis bs.length 0 0 0 0 (ρ.t 25) i0.size [] ⟨0, _⟩ _ (by simp) (List.getElem?_set_self hg1) (by simp) ⟨_, _, _, rfl, .inl ⟨rfl, rfl, hlc', fun h => absurd rfl h⟩⟩⟩
  · cases h
theorem pGrow_ok' {ρ : Ren} (L : Lays8.n4 P ρ) {t : TypeId} {k bytes : Nat} {z : Value} (T : J.ElemT P t (ρ.t 25) k z bytes) (hent : Ent P (ρ.f 4)) : PrimOk P G (ρ.f 4) (pGrow (ρ.t 25) k bytes) := by
  have h := T.info
  cases hq : P.info? (ρ.t 25) with
  | none => rw [hq] at h; cases h
  | some i =>
    rw [hq] at h
    simp only [Option.map_some, Option.some.injEq, Prod.mk.injEq] at h
    obtain ⟨hz, rfl, rfl⟩ := h
    exact pGrow_ok L hq hz T.zs T.pos hent
end Go.Proofs.YtgajekpigkknnaaDoor.A

/- slices.Grow of this program. No condition. -/
namespace Go.Proofs.YtgajekpigkknnaaDoor.F
open Go Go.Proofs Go.RowKit Go.Proofs.YtgajekpigkknnaaDoor Go.Proofs.YtgajekpigkknnaaDoor.A Go.Proofs.YtgajekpigkknnaaDoor.J
def grow84_ren : Go.Shelf.Ren := ⟨fun | 4 => 84 | n => n, fun | 22 => 44 | 25 => 53 | 3 => 3 | 4 => 4 | 9 => 9 | 20 => 20 | 0 => 0 | n => n, fun | n => n⟩
theorem grow84 : Go.Proofs.Lays8.n4 Tryd.prog grow84_ren := {
  mixed := by kernel_rfl,
  f4 := ⟨Tryd.f84.name, by decide, Tryd.func84.trans (congrArg some (by kernel_rfl))⟩,
  t0 := Tryd.underlying0,
  a0 := Tryd.isAgg0,
  z0 := Tryd.sizeOf0,
  v0 := Tryd.zeroValue0,
  t3 := Tryd.underlying3,
  a3 := Tryd.isAgg3,
  z3 := Tryd.sizeOf3,
  v3 := Tryd.zeroValue3,
  t4 := Tryd.underlying4,
  a4 := Tryd.isAgg4,
  z4 := Tryd.sizeOf4,
  v4 := Tryd.zeroValue4,
  t9 := Tryd.underlying9,
  a9 := Tryd.isAgg9,
  z9 := Tryd.sizeOf9,
  v9 := Tryd.zeroValue9,
  t20 := Tryd.underlying20,
  a20 := Tryd.isAgg20,
  z20 := Tryd.sizeOf20,
  v20 := Tryd.zeroValue20,
  t22 := Tryd.underlying44,
  a22 := Tryd.isAgg44,
  z22 := Tryd.sizeOf44,
  v22 := Tryd.zeroValue44 }

theorem grow84_ok {G : Nat → Option (List AV)} : PrimOk Tryd.prog G 84 (pGrow 53 21 56) :=
  pGrow_ok' (ρ := grow84_ren) grow84 elemT_44 (ent_of Tryd.func84 (by kernel_rfl) (c := _) rfl)
end Go.Proofs.YtgajekpigkknnaaDoor.F
