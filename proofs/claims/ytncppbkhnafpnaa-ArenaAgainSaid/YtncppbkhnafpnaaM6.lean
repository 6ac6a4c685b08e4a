/- Part 6 of the proofs of these statements. No condition. -/
import Derived.Test.YtncppbkhnafpnaaM5
import Derived.Laws.Cover3
import Derived.Test.YtncppbkhnafpnaaProg
import Derived.KernelRfl
import Derived.Laws.Bits64b
import Derived.Lib.Hide
set_option linter.unusedVariables false
set_option linter.unusedSimpArgs false
/- Functions in the evaluator's form, 2. No condition. -/
namespace Go.Proofs.Ytncppbkhnafpnaa.F
open Go Go.Proofs.Ytncppbkhnafpnaa.A
/-- (*junctionbox/arena.Arena).word -/
def f36 : AFunc :=
⟨3, [.t 6, .t 7], (.seq (.region 0 [⟨some 6, .mv (.c (.nilp)), none, 0⟩, ⟨some 7, .mv (.c (.int .i64 0)), none, 0⟩] false []) (.seq (.seq (.region 0 [⟨some 10, .mv (.t 0), none, 0⟩, ⟨some 11, .pnil false (.t 10), none, 0⟩] false []) (.cond (.t 11) (.seq (.region 0 [⟨some 6, .mv (.c (.nilp)), none, 0⟩, ⟨some 7, .mv (.c (.int .i64 1)), none, 0⟩] false []) .ret) .skip)) (.seq (.region 1 [⟨some 13, .mv (.t 0), none, 0⟩, ⟨some 14, .mv (.t 1), none, 0⟩, ⟨some 15, .callR (.c (.clo 40 [])) [.t 13, .t 14] 0, none, 0⟩, ⟨some 12, .mv (.t 15), none, 0⟩, ⟨some 16, .extr (.t 12) 0, none, 0⟩, ⟨some 17, .extr (.t 12) 1, none, 0⟩, ⟨some 8, .alloc 58 [.int .i64 0, .int .i64 0] [], none, 0⟩, ⟨none, .store 2 (.t 8) (.t 16), none, 0⟩, ⟨some 9, .mv (.t 17), none, 0⟩] false []) (.seq (.block 0 (.seq (.region 0 [⟨some 19, .mv (.t 9), none, 0⟩, ⟨some 20, .not (.t 19), none, 0⟩, ⟨some 18, .mv (.t 20), none, 0⟩] false []) (.cond (.t 18) (.seq (.region 0 [⟨some 6, .mv (.c (.nilp)), none, 0⟩, ⟨some 7, .mv (.c (.int .i64 4)), none, 0⟩] false []) .ret) (.seq (.region 0 [⟨some 22, .mv (.t 2), none, 0⟩, ⟨some 23, .bin .lss (.t 22) (.c (.int .i64 0)), none, 0⟩, ⟨some 24, .mv (.t 23), none, 0⟩, ⟨some 25, .mv (.t 2), some (24, false), 0⟩, ⟨some 26, .faddr 1 (.t 8), some (24, false), 0⟩, ⟨some 27, .load 1 false (.t 26), some (24, false), 0⟩, ⟨some 28, .callV 34 [.t 27] false, some (24, false), 0⟩, ⟨some 29, .bin .geq (.t 25) (.t 28), some (24, false), 0⟩, ⟨some 30, .pick (.t 24) (.c (.bool true)) (.t 29), none, 0⟩, ⟨some 21, .mv (.t 30), none, 0⟩] false []) (.cond (.t 21) (.seq (.region 0 [⟨some 6, .mv (.c (.nilp)), none, 0⟩, ⟨some 7, .mv (.c (.int .i64 2)), none, 0⟩] false []) .ret) .skip))))) (.seq (.region 0 [⟨some 31, .mv (.t 0), none, 0⟩, ⟨some 32, .nilck (.t 31), none, 0⟩, ⟨some 33, .faddr 0 (.t 32), none, 0⟩, ⟨some 34, .load 1 false (.t 33), none, 0⟩, ⟨some 35, .mv (.t 1), none, 0⟩, ⟨some 36, .mv (.t 2), none, 0⟩, ⟨some 37, .bin .add (.t 35) (.t 36), none, 0⟩, ⟨some 38, .iaddr 1 none (.t 34) (.t 37), none, 0⟩, ⟨some 6, .mv (.t 38), none, 0⟩, ⟨some 7, .mv (.c (.int .i64 0)), none, 0⟩] false []) .ret))))), false⟩
theorem c36 : cFunc Try.prog G f36 Try.f36 = some f36 := by kernel_rfl
/-- (*junctionbox/arena.Arena).pieces -/
def f37 : AFunc :=
⟨2, [.t 4], (.seq (.region 2 [⟨some 3, .box 4 1 (.t 1) [], none, 0⟩, ⟨some 4, .newl 58 2, none, 1⟩] false []) (.seq (.seq (.region 0 [⟨some 8, .mv (.t 0), none, 0⟩, ⟨some 9, .pnil false (.t 8), none, 0⟩] false []) (.cond (.t 9) (.seq (.region 1 [⟨some 4, .newl 58 2, none, 0⟩] false []) .ret) .skip)) (.seq (.region 2 [⟨some 5, .alloc 43 [.clip []] [(0, 58, 2)], none, 0⟩] false []) (.seq (.seq (.region 0 [⟨some 10, .mv (.t 0), none, 0⟩, ⟨some 11, .callR (.c (.clo 68 [])) [.t 10] 1, none, 0⟩] false []) (.block 0 (.range (.t 11) [12, 13] (.seq (.region 1 [⟨some 6, .alloc 58 [.int .i64 0, .int .i64 0] [], none, 0⟩, ⟨none, .store 2 (.t 6) (.t 12), none, 0⟩] false []) (.region 0 [⟨some 7, .mv (.t 13), none, 0⟩] false [])) (.block 1 (.seq (.region 0 [⟨some 14, .mv (.t 7), none, 0⟩, ⟨some 15, .load 1 false (.t 3), none, 0⟩, ⟨some 16, .eqb false (.t 14) (.t 15), none, 0⟩] false []) (.cond (.t 16) (.region 2 [⟨some 17, .load 1 false (.t 5), none, 0⟩, ⟨some 18, .load 2 true (.t 6), none, 0⟩, ⟨some 19, .buildSl 58 2 [.int .i64 0, .int .i64 0] 1 [(0, .t 18)] false, none, 0⟩, ⟨some 20, .append 58 2 16 (.t 17) (.t 19), none, 1⟩, ⟨none, .store 1 (.t 5) (.t 20), none, 0⟩] false []) .skip)))))) (.seq (.region 0 [⟨some 21, .load 1 false (.t 5), none, 0⟩, ⟨some 4, .mv (.t 21), none, 0⟩] false []) .ret))))), false⟩
theorem c37 : cFunc Try.prog G f37 Try.f37 = some f37 := by kernel_rfl
/-- (*junctionbox/arena.Arena).find -/
def f40 : AFunc :=
⟨2, [.cell 4 2 true, .cell 5 1 false], (.seq (.region 3 [⟨some 3, .box 3 1 (.t 1) [], none, 0⟩, ⟨some 4, .alloc 58 [.int .i64 0, .int .i64 0] [], none, 1⟩, ⟨some 5, .alloc 4 [.bool false] [], none, 2⟩] false []) (.seq (.seq (.region 0 [⟨some 8, .mv (.t 0), none, 0⟩, ⟨some 9, .callR (.c (.clo 68 [])) [.t 8] 1, none, 0⟩] false []) (.block 0 (.range (.t 9) [10, 11] (.seq (.region 1 [⟨some 6, .alloc 58 [.int .i64 0, .int .i64 0] [], none, 0⟩, ⟨none, .store 2 (.t 6) (.t 10), none, 0⟩] false []) (.region 0 [⟨some 7, .mv (.t 11), none, 0⟩] false [])) (.block 1 (.seq (.region 0 [⟨some 12, .mv (.t 7), none, 0⟩, ⟨some 13, .mv (.t 12), none, 0⟩, ⟨some 14, .faddr 0 (.t 6), some (13, true), 0⟩, ⟨some 15, .load 1 false (.t 14), some (13, true), 0⟩, ⟨some 16, .load 1 false (.t 3), some (13, true), 0⟩, ⟨some 17, .bin .eql (.t 15) (.t 16), some (13, true), 0⟩, ⟨some 18, .pick (.t 13) (.t 17) (.c (.bool false)), none, 0⟩] false []) (.cond (.t 18) (.seq (.region 0 [⟨some 19, .load 2 true (.t 6), none, 0⟩, ⟨none, .store 2 (.t 4) (.t 19), none, 0⟩, ⟨none, .store 1 (.t 5) (.c (.bool true)), none, 0⟩] false []) .ret) .skip)))))) (.seq (.region 0 [⟨some 20, .build [.int .i64 0, .int .i64 0] [] [], none, 0⟩, ⟨none, .store 2 (.t 4) (.t 20), none, 0⟩, ⟨none, .store 1 (.t 5) (.c (.bool false)), none, 0⟩] false []) .ret))), false⟩
theorem c40 : cFunc Try.prog G f40 Try.f40 = some f40 := by kernel_rfl
/-- (*junctionbox/arena.Arena).lies -/
def f41 : AFunc :=
⟨2, [.t 4], (.seq (.region 0 [⟨some 4, .mv (.c (.bool false)), none, 0⟩] false []) (.seq (.region 1 [⟨some 8, .mv (.t 0), none, 0⟩, ⟨some 9, .mv (.t 1), none, 0⟩, ⟨some 10, .callR (.c (.clo 40 [])) [.t 8, .t 9] 0, none, 0⟩, ⟨some 7, .mv (.t 10), none, 0⟩, ⟨some 11, .extr (.t 7) 0, none, 0⟩, ⟨some 12, .extr (.t 7) 1, none, 0⟩, ⟨some 5, .alloc 58 [.int .i64 0, .int .i64 0] [], none, 0⟩, ⟨none, .store 2 (.t 5) (.t 11), none, 0⟩, ⟨some 6, .mv (.t 12), none, 0⟩] false []) (.seq (.region 0 [⟨some 13, .mv (.t 6), none, 0⟩, ⟨some 14, .mv (.t 13), none, 0⟩, ⟨some 15, .mv (.t 1), some (14, false), 0⟩, ⟨some 16, .bin .eql (.t 15) (.c (.int .i64 0)), some (14, false), 0⟩, ⟨some 17, .pick (.t 14) (.c (.bool true)) (.t 16), none, 0⟩, ⟨some 4, .mv (.t 17), none, 0⟩] false []) .ret))), false⟩
theorem c41 : cFunc Try.prog G f41 Try.f41 = some f41 := by kernel_rfl
/-- junctionbox/octet.Put32 -/
def f43 : AFunc :=
⟨2, [.t 4], (.seq (.region 1 [⟨some 4, .newl 5 1, none, 0⟩] false []) (.seq (.region 0 [⟨some 5, .mv (.t 0), none, 0⟩, ⟨some 6, .mv (.t 1), none, 0⟩, ⟨some 7, .conv .u64 (.t 6), none, 0⟩, ⟨some 8, .callV 69 [.t 5, .t 7, .c (.int .i64 4)] false, none, 0⟩, ⟨some 4, .mv (.t 8), none, 0⟩] false []) .ret)), false⟩
theorem c43 : cFunc Try.prog G f43 Try.f43 = some f43 := by kernel_rfl
/-- slices.Index[[]int,int] -/
def f44 : AFunc :=
⟨2, [.t 4], (.seq (.region 0 [⟨some 4, .mv (.c (.int .i64 0)), none, 0⟩] false []) (.seq (.seq (.region 0 [⟨some 6, .mv (.t 0), none, 0⟩, ⟨some 7, .len (.t 6), none, 0⟩, ⟨some 8, .mv (.c (.int .i64 0)), none, 0⟩] false []) (.block 0 (.loop [0, 1, 7, 8] (.seq (.region 0 [⟨some 9, .bin .lss (.t 8) (.t 7), none, 0⟩] false []) (.seq (.cond (.t 9) .skip (.exit 0)) (.seq (.block 1 (.seq (.region 0 [⟨some 10, .mv (.t 8), none, 0⟩, ⟨some 5, .mv (.t 10), none, 0⟩] false []) (.seq (.region 0 [⟨some 11, .mv (.t 1), none, 0⟩, ⟨some 12, .mv (.t 0), none, 0⟩, ⟨some 13, .mv (.t 5), none, 0⟩, ⟨some 14, .iaddr 1 none (.t 12) (.t 13), none, 0⟩, ⟨some 15, .load 1 false (.t 14), none, 0⟩, ⟨some 16, .bin .eql (.t 11) (.t 15), none, 0⟩] false []) (.cond (.t 16) (.seq (.region 0 [⟨some 17, .mv (.t 5), none, 0⟩, ⟨some 4, .mv (.t 17), none, 0⟩] false []) .ret) .skip)))) (.region 0 [⟨some 18, .bin .add (.t 8) (.c (.int .i64 1)), none, 0⟩, ⟨some 8, .mv (.t 18), none, 0⟩] false []))))))) (.seq (.region 0 [⟨some 4, .mv (.c (.int .i64 (-1))), none, 0⟩] false []) .ret))), false⟩
theorem c44 : cFunc Try.prog G f44 Try.f44 = some f44 := by kernel_rfl
/-- (*junctionbox/arena.Arena).all -/
def f68 : AFunc :=
⟨1, [.t 2], (.seq (.region 1 [⟨some 1, .box 26 1 (.t 0) [], none, 0⟩, ⟨some 2, .mv (.c (.nilf)), none, 0⟩] false []) (.seq (.region 0 [⟨some 3, .clo 83 [.t 1], none, 0⟩, ⟨some 2, .mv (.t 3), none, 0⟩] false []) .ret)), false⟩
theorem c68 : cFunc Try.prog G f68 Try.f68 = some f68 := by kernel_rfl
/-- junctionbox/octet.goes -/
def f69 : AFunc :=
⟨3, [.t 6], (.seq (.region 1 [⟨some 6, .newl 5 1, none, 0⟩] false []) (.seq (.region 1 [⟨some 9, .mv (.t 0), none, 0⟩, ⟨some 10, .callV 74 [.t 9] true, none, 0⟩, ⟨some 11, .mv (.t 2), none, 0⟩, ⟨some 12, .callR (.c (.clo 84 [])) [.t 10, .t 11] 1, none, 0⟩, ⟨some 7, .mv (.t 12), none, 0⟩] false []) (.seq (.seq (.region 0 [⟨some 13, .mv (.t 2), none, 0⟩, ⟨some 14, .mv (.c (.int .i64 0)), none, 0⟩] false []) (.block 0 (.loop [1, 2, 7, 13, 14] (.seq (.region 0 [⟨some 15, .bin .lss (.t 14) (.t 13), none, 0⟩] false []) (.seq (.cond (.t 15) .skip (.exit 0)) (.seq (.block 1 (.seq (.region 0 [⟨some 16, .mv (.t 14), none, 0⟩, ⟨some 8, .mv (.t 16), none, 0⟩] false []) (.region 2 [⟨some 17, .mv (.t 7), none, 0⟩, ⟨some 18, .mv (.t 1), none, 0⟩, ⟨some 19, .mv (.t 2), none, 0⟩, ⟨some 20, .bin .mul (.c (.int .i64 8)) (.t 19), none, 0⟩, ⟨some 21, .bin .sub (.t 20) (.c (.int .i64 8)), none, 0⟩, ⟨some 22, .mv (.t 8), none, 0⟩, ⟨some 23, .bin .mul (.c (.int .i64 8)) (.t 22), none, 0⟩, ⟨some 24, .bin .sub (.t 21) (.t 23), none, 0⟩, ⟨some 25, .bin .shr (.t 18) (.t 24), none, 0⟩, ⟨some 26, .bin .and (.t 25) (.c (.int .u64 255)), none, 0⟩, ⟨some 27, .conv .u8 (.t 26), none, 0⟩, ⟨some 28, .buildSl 5 1 [.int .u8 0] 1 [(0, .t 27)] false, none, 0⟩, ⟨some 29, .append 5 1 1 (.t 17) (.t 28), none, 1⟩, ⟨some 7, .mv (.t 29), none, 0⟩] false []))) (.region 0 [⟨some 30, .bin .add (.t 14) (.c (.int .i64 1)), none, 0⟩, ⟨some 14, .mv (.t 30), none, 0⟩] false []))))))) (.seq (.region 0 [⟨some 31, .mv (.t 7), none, 0⟩, ⟨some 32, .callV 85 [.t 31] false, none, 0⟩, ⟨some 6, .mv (.t 32), none, 0⟩] false []) .ret)))), false⟩
theorem c69 : cFunc Try.prog G f69 Try.f69 = some f69 := by kernel_rfl
/-- junctionbox/arena.class -/
def f76 : AFunc :=
⟨1, [.t 2], (.seq (.region 0 [⟨some 2, .mv (.c (.int .i64 0)), none, 0⟩] false []) (.seq (.region 0 [⟨some 3, .mv (.t 0), none, 0⟩, ⟨some 4, .bin .sub (.t 3) (.c (.int .u32 16)), none, 0⟩, ⟨some 5, .conv .i64 (.t 4), none, 0⟩, ⟨some 6, .bin .shr (.t 5) (.c (.int .u64 1)), none, 0⟩, ⟨some 2, .mv (.t 6), none, 0⟩] false []) .ret)), false⟩
theorem c76 : cFunc Try.prog G f76 Try.f76 = some f76 := by kernel_rfl
/-- (*junctionbox/arena.Arena).all$1 -/
def f83 : AFunc :=
⟨2, [], (.seq (.region 0 [⟨some 3, .mv (.c (.int .i64 16)), none, 0⟩] false []) (.block 0 (.loop [0, 1, 3] (.seq (.seq (.region 0 [⟨some 5, .mv (.t 3), none, 0⟩, ⟨some 6, .load 1 false (.t 1), none, 0⟩, ⟨some 7, .nilck (.t 6), none, 0⟩, ⟨some 8, .faddr 0 (.t 7), none, 0⟩, ⟨some 9, .load 1 false (.t 8), none, 0⟩, ⟨some 10, .iaddr 1 none (.t 9) (.c (.int .i64 15)), none, 0⟩, ⟨some 11, .load 1 false (.t 10), none, 0⟩, ⟨some 12, .conv .i64 (.t 11), none, 0⟩, ⟨some 13, .bin .lss (.t 5) (.t 12), none, 0⟩] false []) (.cond (.t 13) .skip (.exit 0))) (.block 1 (.seq (.region 0 [⟨some 14, .load 1 false (.t 1), none, 0⟩, ⟨some 15, .nilck (.t 14), none, 0⟩, ⟨some 16, .faddr 0 (.t 15), none, 0⟩, ⟨some 17, .load 1 false (.t 16), none, 0⟩, ⟨some 18, .mv (.t 3), none, 0⟩, ⟨some 19, .iaddr 1 none (.t 17) (.t 18), none, 0⟩, ⟨some 20, .load 1 false (.t 19), none, 0⟩, ⟨some 21, .callV 76 [.t 20] false, none, 0⟩, ⟨some 4, .mv (.t 21), none, 0⟩] false []) (.seq (.seq (.region 0 [⟨some 22, .mv (.t 0), none, 0⟩, ⟨some 23, .mv (.t 3), none, 0⟩, ⟨some 24, .bin .add (.t 23) (.c (.int .i64 1)), none, 0⟩, ⟨some 25, .mv (.t 4), none, 0⟩, ⟨some 26, .build [.int .i64 0, .int .i64 0] [(0, 1, .t 24), (1, 1, .t 25)] [], none, 0⟩, ⟨some 27, .load 1 false (.t 1), none, 0⟩, ⟨some 28, .nilck (.t 27), none, 0⟩, ⟨some 29, .faddr 0 (.t 28), none, 0⟩, ⟨some 30, .load 1 false (.t 29), none, 0⟩, ⟨some 31, .mv (.t 3), none, 0⟩, ⟨some 32, .iaddr 1 none (.t 30) (.t 31), none, 0⟩, ⟨some 33, .load 1 false (.t 32), none, 0⟩, ⟨some 34, .bin .and (.t 33) (.c (.int .u32 1)), none, 0⟩, ⟨some 35, .bin .neq (.t 34) (.c (.int .u32 0)), none, 0⟩, ⟨some 36, .callR (.t 22) [.t 26, .t 35] 0, none, 0⟩, ⟨some 37, .not (.t 36), none, 0⟩] false []) (.cond (.t 37) .ret .skip)) (.region 0 [⟨some 38, .mv (.t 3), none, 0⟩, ⟨some 39, .mv (.t 4), none, 0⟩, ⟨some 40, .callV 34 [.t 39] false, none, 0⟩, ⟨some 41, .bin .add (.c (.int .i64 1)) (.t 40), none, 0⟩, ⟨some 42, .bin .add (.t 38) (.t 41), none, 0⟩, ⟨some 3, .mv (.t 42), none, 0⟩] false [])))))))), false⟩
theorem c83 : cFunc Try.prog G f83 Try.f83 = some f83 := by kernel_rfl
/-- slices.Clip[[]byte,byte] -/
def f85 : AFunc :=
⟨1, [.t 2], (.seq (.region 1 [⟨some 2, .newl 5 1, none, 0⟩] false []) (.seq (.region 0 [⟨some 3, .mv (.t 0), none, 0⟩, ⟨some 4, .mv (.t 0), none, 0⟩, ⟨some 5, .len (.t 4), none, 0⟩, ⟨some 6, .mv (.t 0), none, 0⟩, ⟨some 7, .len (.t 6), none, 0⟩, ⟨some 8, .slice 1 (.t 3) none (some (.t 5)) (some (.t 7)), none, 0⟩, ⟨some 2, .mv (.t 8), none, 0⟩] false []) .ret)), false⟩
theorem c85 : cFunc Try.prog G f85 Try.f85 = some f85 := by kernel_rfl
end Go.Proofs.Ytncppbkhnafpnaa.F

/- slices.Clone of this program. No condition. -/
set_option linter.unusedVariables false
set_option linter.unusedSimpArgs false
namespace Go.Proofs.Ytncppbkhnafpnaa.F
open Go Go.RowKit Go.Proofs Go.Proofs.Ytncppbkhnafpnaa Go.Proofs.Ytncppbkhnafpnaa.J
theorem elemT_54 : ElemT Try.prog 54 5 1 (.int .u8 0) 1 := ⟨Try.underlying54, by kernel_rfl, rfl, by decide⟩
set_option maxHeartbeats 1000000 in
theorem clone_f74 (a : Option Addr) (c : Nat) (css : List (List Value)) (w : World) (hs : SlC w 1 a css) (h1 : ∀ cs ∈ css, ∀ u ∈ cs, u.oneCell' = true) (hb : css.length * 1 ≤ 140737488355328) :
    Calls Try.prog 74 #[.slice a css.length c] w fun e w' => ∃ v, e = .returned v ∧ OwnL w' w.heap.size 5 1 v css ∧ Ext w w' ∧ w.drawn ≤ w'.drawn := by
  have keq := eql_slice_nil Try.underlying54
  cases a with
  | none =>
    have hnil : css = [] := by
      cases css with
      | nil => rfl
      | cons c r => obtain ⟨_, b, o, h2, _⟩ := hs 0 c rfl; cases h2
    subst hnil
    have kn := fun (w : World) (l c : Nat) => keq w none l c
    simp only [Option.isNone_none] at kn
    clear keq
    go_enter Try.func74, Try.ntmps74
    go_wp2
    go_ret
    exact ⟨_, rfl, OwnL.nil _ _ _ _, by repeat (first | exact Ext.refl _ | assumption | apply Ext.alloc | apply Ext.drewN | apply Ext.drew), by first | exact Nat.le_refl _ | exact Nat.le_succ _⟩
  | some ad =>
    have kn := fun (w : World) (l c : Nat) => keq w (some ad) l c
    simp only [Option.isNone_some] at kn
    clear keq
    have ho : OwnL (w.alloc (.cells #[] 5)) w.heap.size 5 1 (.slice (some ⟨w.heap.size, 0, none⟩) 0 0) [] := ⟨World.ownsRow_lit w #[] 0 (Nat.le_refl _) (Nat.zero_le _) (by simp), fun c hc => by cases hc⟩
    go_enter Try.func74, Try.ntmps74
    go_wp2_with (at_builtin; refine wpl_append_d rfl _ _ 54 rfl elemT_54 w.heap.size rfl ho rfl rfl (hs.ext ((Ext.refl w).alloc _)) h1 (by simpa using hb) (by decide) (by simp) ?_; intro v' W' ho' hg' hd'; have he' := ext_own ((Ext.refl w).alloc _) ho (Nat.le_refl _) hg'; clear hg')
    go_ret
    exact ⟨_, rfl, by simpa using ho', he', hd'⟩
end Go.Proofs.Ytncppbkhnafpnaa.F

/- Two words of the arena's head: pair, two, put, walked. No condition. -/
set_option linter.unusedVariables false
set_option linter.unusedSimpArgs false
namespace Go.Proofs.Ytncppbkhnafpnaa.F
open Go Go.RowKit Go.Proofs Go.Proofs.Ytncppbkhnafpnaa Go.Proofs.Ytncppbkhnafpnaa.J
set_option maxHeartbeats 1000000 in
theorem pair_w (bx g len cap n : Nat) (w : World) (hc : w.cell? ⟨bx, 0, none⟩ = some (.slice (some ⟨g, 0, none⟩) len cap)) (hn : n + 2 ≤ len) (hl : len ≤ cap) (hcap : cap ≤ maxLen) :
    Calls Try.prog 39 #[.pointer (some ⟨bx, 0, none⟩), .int .i64 n] w fun e w' => e = .returned (.pointer (some ⟨g, n, none⟩)) ∧ w' = w := by
  unfold maxLen at hcap
  have hat : ∀ l c w, 2 ≤ l → (Instr.arrayAt 177 (.slice (some ⟨g, n, none⟩) l c)).run Try.prog w = .ok (.pointer (some ⟨g, n, none⟩)) w := fun l c w h => run_arrayAt w 177 _ 2 _ l c Try.underlying177 h
  go_enter Try.func39, Try.ntmps39
  go_wp2
  go_ret
  exact ⟨rfl, rfl⟩
theorem or_sum {a b : Int} (ha : 0 ≤ a ∧ a ≤ 4294967295) (hb : 0 ≤ b ∧ b ≤ 4294967295) : bits BinOp.or IntKind.u64 (a * 4294967296) b = a * 4294967296 + b := by
  obtain ⟨x, rfl⟩ := Int.eq_ofNat_of_zero_le ha.1
  obtain ⟨y, rfl⟩ := Int.eq_ofNat_of_zero_le hb.1
  have e := bits_or_u64_nat (x * 4294967296) y (by omega) (by omega)
  have h := Nat.two_pow_add_eq_or_of_lt (i := 32) (b := y) (by omega) x
  rw [show (2 : Nat) ^ 32 * x = x * 4294967296 by rw [Nat.mul_comm]] at h
  rw [← h] at e
  have e2 : ((x : Int) * 4294967296) = ((x * 4294967296 : Nat) : Int) := by omega
  rw [e2]
  exact e.trans (by omega)
set_option maxHeartbeats 1000000 in
theorem two_w (g n : Nat) (a b : Int) (w : World) (ha : 0 ≤ a ∧ a ≤ 4294967295) (hb : 0 ≤ b ∧ b ≤ 4294967295) (h0 : w.cell? ⟨g, n, none⟩ = some (.int .u32 a)) (h1 : w.cell? ⟨g, n + 1, none⟩ = some (.int .u32 b)) :
    Calls Try.prog 38 #[.pointer (some ⟨g, n, none⟩)] w fun e w' => e = .returned (.int .u64 (a * 4294967296 + b)) ∧ w' = w.drew := by
  have H := Lib.hid (or_sum ha hb)
  go_enter Try.func38, Try.ntmps38
  go_wp2
  go_region
  go_wp2
  go_ret
  exact ⟨by rw [← H.out]; rfl, rfl⟩
structure Two (w w' : World) (g : Nat) (cur' : Array Value) (e : TypeId) : Prop where
  os : w'.os = w.os
  tape : w'.tape = w.tape
  output : w'.output = w.output
  size : w'.heap.size = w.heap.size
  at_ : w'.heap[g]? = some (.cells cur' e (0, 0))
  else_ : ∀ b, b ≠ g → w'.heap[b]? = w.heap[b]?
  drawn : w.drawn ≤ w'.drawn
set_option maxHeartbeats 1000000 in
theorem put_w (g n : Nat) (x : Int) (w : World) (cur : Array Value) (e : TypeId) (a b : Value) (hx : 0 ≤ x ∧ x ≤ 18446744073709551615) (hh : w.heap[g]? = some (.cells cur e (0, 0))) (hn : n + 2 ≤ cur.size)
    (h0 : w.cell? ⟨g, n, none⟩ = some a) (h1 : w.cell? ⟨g, n + 1, none⟩ = some b) (hf0 : w.frozen? ⟨g, n, none⟩ = false) (hf1 : w.frozen? ⟨g, n + 1, none⟩ = false) :
    Calls Try.prog 42 #[.pointer (some ⟨g, n, none⟩), .int .u64 x] w fun e' w' => e' = .returned (.tuple #[]) ∧ Two w w' g ((cur.setIfInBounds n (.int .u32 (x / 4294967296))).setIfInBounds (n + 1) (.int .u32 (x % 4294967296))) e := by
  have hlt : n < cur.size := by omega
  go_enter Try.func42, Try.ntmps42
  go_region
  refine bodyPost_end (results_none rfl _ _ _) rfl ⟨rfl, ?_⟩
  have e1 := heap_setCell_same w g n cur e (.int .u32 (x / 4294967296)) hh
  have e2 := heap_setCell_same (w.setCell ⟨g, n, none⟩ (.int .u32 (x / 4294967296))) g (n + 1) _ e (.int .u32 (x % 4294967296)) e1
  refine ⟨rfl, rfl, rfl, ?_, e2, fun b hb => ?_, ?_⟩
  · show ((w.setCell _ _).setCell _ _).heap.size = _
    simp
  · exact (heap_setCell_other _ _ _ _ hb).trans (heap_setCell_other _ _ _ _ hb)
  · exact Nat.le_succ _
end Go.Proofs.Ytncppbkhnafpnaa.F
namespace Go.Proofs.Ytncppbkhnafpnaa.A
open Go Go.RowKit Go.Proofs.Ytncppbkhnafpnaa.J
variable {U : Nat → Prop} {w w' : World} {Pr Pr' : Nat → Nat → Prop} {σ σ' : List Blk} {γ γ' : List Ghost} {ls : List Nat}
def pPair : List AV → List Blk → Option (AV × List Blk)
  | [.ptr id 0 0 0, .int .i64 n], bs =>
    match bs[id]? with
    | some (.box _ _ [.lis lid gen 0 len]) =>
      match bs[lid]? with
      | some (.lst _ g _ 1 rows) => if g = gen ∧ 0 ≤ n ∧ n + 2 ≤ len ∧ len ≤ rows.length then some (.ptr lid gen n.toNat 0, bs) else none
      | _ => none
    | _ => none
  | _, _ => none
def pTwo : List AV → List Blk → Option (AV × List Blk)
  | [.ptr id g row 0], bs =>
    match bs[id]? with
    | some (.lst _ g' _ 1 rows) =>
      match rows[row]?, rows[row + 1]? with
      | some [.int .u32 a], some [.int .u32 b] => if g' = g ∧ (0 ≤ a ∧ a ≤ 4294967295) ∧ (0 ≤ b ∧ b ≤ 4294967295) then some (.int .u64 (a * 4294967296 + b), bs) else none
      | _, _ => none
    | _ => none
  | _, _ => none
def pPut : List AV → List Blk → Option (AV × List Blk)
  | [.ptr id g row 0, .int .u64 x], bs =>
    match bs[id]? with
    | some (.lst 0 g' e 1 rows) =>
      if g' = g ∧ row + 2 ≤ rows.length ∧ (0 ≤ x ∧ x ≤ 18446744073709551615) then some (.tup [], bs.set id (.lst 0 g e 1 ((rows.set row [.int .u32 (x / 4294967296)]).set (row + 1) [.int .u32 (x % 4294967296)]))) else none
    | _ => none
  | _, _ => none
theorem ptrL_inv {P : Program} (hI : Inv U w Pr σ γ) {id g row off lk g' k : Nat} {e : TypeId} {rows : List (List AV)} {v : Value} (h : Rep w Pr σ γ ls (.ptr id g row off) v) (hi : σ[id]? = some (.lst lk g' e k rows)) (hg : g' = g) :
    row < rows.length ∧ ∃ (gh : Ghost) (gb c : Nat) (cur : Array Value) (vs : List Value), γ[id]? = some gh ∧ gh.v = .slice (some ⟨gb, 0, none⟩) rows.length (c + 1) ∧ v = .pointer (some ⟨gb, row * k + off, none⟩) ∧ w.heap[gb]? = some (.cells cur e (0, 0)) ∧
      rows.length ≤ c + 1 ∧ cur.size = (c + 1) * k ∧ cur.toList.take (rows.length * k) = vs ∧ RepL w Pr σ γ rows.flatten vs ∧ (∀ r ∈ rows, r.length = k) ∧ dataL rows.flatten = true ∧ (∀ u ∈ vs, u.oneCell' = true) := by
  subst hg
  obtain ⟨gh, vs, h1, h2, h3, h4, h5, h6, h7⟩ := hI.lst id lk g' e k rows hi
  cases h with
  | ptrB _ _ _ _ _ _ h8 => rw [hi] at h8; cases h8
  | ptrOld _ _ _ _ _ _ _ _ _ _ _ h8 h9 => rw [hi] at h8; cases h8; omega
  | ptrL _ _ _ _ _ _ _ _ gh' gb h8 h9 h10 h11 =>
    rw [hi] at h8; cases h8
    rw [h1] at h9; cases h9
    refine ⟨h11, ?_⟩
    obtain ⟨_, ⟨h12, _⟩ | ⟨_, c, cur, h12, h13, h14, h15, h16, h17⟩⟩ := h5
    · exact absurd h11 (by omega)
    · rw [h12] at h10; cases h10
      exact ⟨gh, _, c, cur, vs, h1, h12, rfl, h13, h14, h16, h17, h6, h3, h4, h7⟩
theorem cell_of {gb i : Nat} {cur : Array Value} {e : TypeId} {vs : List Value} {n : Nat} {v : Value} (hh : w.heap[gb]? = some (.cells cur e (0, 0))) (ht : cur.toList.take n = vs) (hv : vs[i]? = some v) : w.cell? ⟨gb, i, none⟩ = some v := by
  rw [← ht, List.getElem?_take] at hv
  split at hv
  · simp only [World.cell?, hh]; rw [← Array.getElem?_toList]; exact hv
  · cases hv
theorem rep_u32 {n : Int} {v : Value} (h : Rep w Pr σ γ ls (.int .u32 n) v) : v = .int .u32 n := by cases h; rfl
theorem flatten_get1 {β : Type} : ∀ {rows : List (List β)}, (∀ r ∈ rows, r.length = 1) → ∀ t : Nat, rows.flatten[t]? = (rows[t]?).bind (·[0]?)
  | [], _, t => by simp
  | r :: rows, h, t => by
    obtain ⟨a, rfl⟩ := List.length_eq_one_iff.1 (h r (by simp))
    cases t with
    | zero => simp
    | succ t => simpa using flatten_get1 (fun q hq => h q (by simp [hq])) t
theorem flat1 {rows : List (List AV)} (h : ∀ r ∈ rows, r.length = 1) (i : Nat) : rows.flatten[i]? = (rows[i]?).bind (·[0]?) := flatten_get1 h i
theorem flat_at {rows : List (List AV)} (h : ∀ r ∈ rows, r.length = 1) {i : Nat} {a : AV} (hi : rows[i]? = some [a]) : rows.flatten[i]? = some a := by rw [flat1 h, hi]; rfl
theorem pPair_ok {P : Program} {G : Nat → Option (List AV)} {f : FuncId} (hent : Ent P f)
    (hw : ∀ (bx g len cap n : Nat) (w : World), w.cell? ⟨bx, 0, none⟩ = some (.slice (some ⟨g, 0, none⟩) len cap) → n + 2 ≤ len → len ≤ cap → cap ≤ maxLen →
      Calls P f #[.pointer (some ⟨bx, 0, none⟩), .int .i64 n] w fun e w' => e = .returned (.pointer (some ⟨g, n, none⟩)) ∧ w' = w) : PrimOk P G f pPair := by
  intro args bs r bs' h U w Pr γ vs hI hG hA
  unfold pPair at h
  split at h
  case h_2 => cases h
  rename_i id n
  split at h
  case h_2 => cases h
  rename_i lk e lid gen len hb
  split at h
  case h_2 => cases h
  rename_i lk2 g e2 rows hl
  split at h
  case isFalse => cases h
  rename_i hc
  obtain ⟨rfl, h0, h1, h2⟩ := hc
  cases h
  obtain ⟨v0, vs1, rfl, r0, hA⟩ := hA.cons_inv
  obtain ⟨v1, vs2, rfl, r1, hA⟩ := hA.cons_inv
  rw [hA.nil_inv]
  obtain ⟨m, rfl⟩ : ∃ m : Nat, n = (m : Int) := ⟨n.toNat, by omega⟩
  have hq := int_inv r1
  subst hq
  obtain ⟨gh, cs, hg, hh, hR, _⟩ := hI.box id lk e _ hb
  cases r0 with
  | ptrOld _ _ _ _ _ _ _ _ _ _ _ h8 h9 => rw [hb] at h8; cases h8
  | ptrL _ _ _ _ _ _ _ _ gh' gb h8 h9 h10 h11 => rw [hb] at h8; cases h8
  | ptrB _ _ _ _ _ gh' h8 h9 =>
    rw [hg] at h9; cases h9
    obtain ⟨u, us, hcs, ru, _⟩ := hR.cons_inv
    obtain ⟨gh2, vs2, g1, g2, g3, g4, g5, g6, g7⟩ := hI.lst lid lk2 g e2 1 rows hl
    have hM : MutIs gh2.v 1 0 len u := by
      cases ru with
      | lisOld _ _ _ _ _ _ _ _ _ _ h8 h9 => rw [hl] at h8; cases h8; omega
      | lis _ _ _ _ _ _ _ _ gh3 _ h8 h9 h10 h11 => rw [hl] at h8; cases h8; rw [g1] at h9; cases h9; exact h11
    obtain ⟨base, n0, cap, hgv, ⟨_, rfl, hlc, hbs⟩ | ⟨h0, _⟩⟩ := hM
    case inr => exact absurd h0 (Nat.lt_irrefl 0)
    obtain ⟨gb, rfl⟩ := hbs (by omega)
    obtain ⟨_, ⟨h12, _⟩ | ⟨gb', c, cur, h12, h13, h14, h15, h16, h17⟩⟩ := g5
    · omega
    rw [hgv] at h12
    simp only [Value.slice.injEq, Option.some.injEq, Addr.mk.injEq, and_true] at h12
    obtain ⟨rfl, rfl, rfl⟩ := h12
    have hcell : w.cell? ⟨gh.b, 0, none⟩ = some (.slice (some ⟨gb, 0, none⟩) len (c + 1)) := by
      simp only [World.cell?, hh]
      rw [← Array.getElem?_toList, hcs]; rfl
    refine .inl ⟨hent _ _, (hw gh.b gb len (c + 1) m w hcell (by omega) hlc h15).mono ?_⟩
    rintro e' w' ⟨rfl, rfl⟩
    refine ⟨_, rfl, Pr, γ, hI, Keeps.refl _ _, Evo.refl _ _ _ _, ?_⟩
    rw [Int.toNat_natCast]
    have := Rep.ptrL (w := w') (Pr := Pr) (σ := bs) (γ := γ) (ls := []) lid m 0 lk2 g e2 1 rows gh2 gb hl g1 (by rw [hgv]; rfl) (by omega)
    simpa using this
theorem pTwo_ok {P : Program} {G : Nat → Option (List AV)} {f : FuncId} (hent : Ent P f)
    (hw : ∀ (g n : Nat) (a b : Int) (w : World), (0 ≤ a ∧ a ≤ 4294967295) → (0 ≤ b ∧ b ≤ 4294967295) → w.cell? ⟨g, n, none⟩ = some (.int .u32 a) → w.cell? ⟨g, n + 1, none⟩ = some (.int .u32 b) →
      Calls P f #[.pointer (some ⟨g, n, none⟩)] w fun e w' => e = .returned (.int .u64 (a * 4294967296 + b)) ∧ w' = w.drew) : PrimOk P G f pTwo := by
  intro args bs r bs' h U w Pr γ vs hI hG hA
  unfold pTwo at h
  split at h
  case h_2 => cases h
  rename_i id g row
  split at h
  case h_2 => cases h
  rename_i lk g' e rows hl
  split at h
  case h_2 => cases h
  rename_i a b ha hb
  split at h
  case isFalse => cases h
  rename_i hc
  obtain ⟨rfl, h0, h1⟩ := hc
  cases h
  obtain ⟨v0, vs1, rfl, r0, hA⟩ := hA.cons_inv
  rw [hA.nil_inv]
  obtain ⟨_, gh, gb, c, cur, us, g1, g2, rfl, g4, g5, g6, g7, g8, g9, g10, _⟩ := ptrL_inv (P := P) hI r0 hl rfl
  have hi0 : row + 1 < rows.length := (List.getElem?_eq_some_iff.1 hb).1
  have hlen : us.length = rows.length := by rw [g8.1, flatten_length (k := 1) rows g9]; omega
  have c0 : w.cell? ⟨gb, row, none⟩ = some (.int .u32 a) := by
    have h1 : us[row]? = some us[row] := List.getElem?_eq_getElem (by omega)
    rw [cell_of g4 g7 h1, rep_u32 (g8.2 row _ _ (flat_at g9 ha) h1)]
  have c1 : w.cell? ⟨gb, row + 1, none⟩ = some (.int .u32 b) := by
    have h1 : us[row + 1]? = some us[row + 1] := List.getElem?_eq_getElem (by omega)
    rw [cell_of g4 g7 h1, rep_u32 (g8.2 (row + 1) _ _ (flat_at g9 hb) h1)]
  have := hw gb row a b w h0 h1 c0 c1
  simp only [Nat.mul_one, Nat.add_zero]
  refine .inl ⟨hent _ _, this.mono ?_⟩
  rintro e' w' ⟨rfl, rfl⟩
  exact ⟨_, rfl, Pr, γ, hI.same rfl, Keeps.refl _ _, Evo.drew _ _ _ _, .int _ _⟩
theorem pPut_ok {P : Program} {G : Nat → Option (List AV)} {f : FuncId} (hent : Ent P f)
    (hw : ∀ (g n : Nat) (x : Int) (w : World) (cur : Array Value) (e : TypeId) (a b : Value), (0 ≤ x ∧ x ≤ 18446744073709551615) → w.heap[g]? = some (.cells cur e (0, 0)) → n + 2 ≤ cur.size →
      w.cell? ⟨g, n, none⟩ = some a → w.cell? ⟨g, n + 1, none⟩ = some b → w.frozen? ⟨g, n, none⟩ = false → w.frozen? ⟨g, n + 1, none⟩ = false →
      Calls P f #[.pointer (some ⟨g, n, none⟩), .int .u64 x] w fun e' w' => e' = .returned (.tuple #[]) ∧ F.Two w w' g ((cur.setIfInBounds n (.int .u32 (x / 4294967296))).setIfInBounds (n + 1) (.int .u32 (x % 4294967296))) e) : PrimOk P G f pPut := by
  intro args bs r bs' h U w Pr γ vs hI hG hA
  unfold pPut at h
  split at h
  case h_2 => cases h
  rename_i id g row x
  split at h
  case h_2 => cases h
  rename_i g' e rows hl
  split at h
  case isFalse => cases h
  rename_i hc
  obtain ⟨rfl, h0, h1⟩ := hc
  cases h
  obtain ⟨v0, vs1, rfl, r0, hA⟩ := hA.cons_inv
  obtain ⟨v1, vs2, rfl, r1, hA⟩ := hA.cons_inv
  rw [hA.nil_inv]
  have hq : v1 = .int .u64 x := by cases r1; rfl
  subst hq
  obtain ⟨_, gh, gb, c, cur, us, g1, g2, rfl, g4, g5, g6, g7, g8, g9, g10, g11⟩ := ptrL_inv (P := P) hI r0 hl rfl
  have hlen : us.length = rows.length := by rw [g8.1, flatten_length (k := 1) rows g9]; omega
  have hsz : row + 2 ≤ cur.size := by omega
  have k0 : us[row]? = some us[row] := List.getElem?_eq_getElem (by omega)
  have k1 : us[row + 1]? = some us[row + 1] := List.getElem?_eq_getElem (by omega)
  have fz : ∀ i, w.frozen? ⟨gb, i, none⟩ = false := fun i => by simp only [World.frozen?, g4]; simp
  have := hw gb row x w cur e _ _ h1 g4 hsz (cell_of g4 g7 k0) (cell_of g4 g7 k1) (fz _) (fz _)
  have hfl : ((rows.set row [.int .u32 (x / 4294967296)]).set (row + 1) [.int .u32 (x % 4294967296)]).flatten = (rows.flatten.set row (.int .u32 (x / 4294967296))).set (row + 1) (.int .u32 (x % 4294967296)) := by
    have hr' : ∀ r ∈ (rows.set row [.int .u32 (x / 4294967296)]).set (row + 1) [.int .u32 (x % 4294967296)], r.length = 1 := fun r hr => by
      rcases List.mem_or_eq_of_mem_set hr with hr | rfl
      · rcases List.mem_or_eq_of_mem_set hr with hr | rfl
        · exact g9 r hr
        · rfl
      · rfl
    refine List.ext_getElem? fun i => ?_
    rw [flat1 hr', List.getElem?_set, List.getElem?_set, List.getElem?_set, List.getElem?_set, flat1 g9]
    have hfl2 : rows.flatten.length = rows.length := by have := flatten_length (k := 1) rows g9; omega
    simp only [List.length_set, hfl2]
    by_cases q1 : row + 1 = i
    · simp only [if_pos q1]; split <;> rfl
    · simp only [if_neg q1]
      by_cases q2 : row = i
      · simp only [if_pos q2]; split <;> rfl
      · simp only [if_neg q2]
  simp only [Nat.mul_one, Nat.add_zero]
  refine .inl ⟨hent _ _, this.mono ?_⟩
  rintro e' w' ⟨rfl, hT⟩
  have hul : (((us.set row (.int .u32 (x / 4294967296))).set (row + 1) (.int .u32 (x % 4294967296)))).length = rows.length * 1 := by simp [hlen]
  have hR' : RepL w Pr bs γ ((rows.set row [.int .u32 (x / 4294967296)]).set (row + 1) [.int .u32 (x % 4294967296)]).flatten ((us.set row (.int .u32 (x / 4294967296))).set (row + 1) (.int .u32 (x % 4294967296))) := by
    rw [hfl]
    refine ⟨by simp [g8.1], fun i a v ha hv => ?_⟩
    rw [List.getElem?_set] at ha hv
    rw [List.getElem?_set] at ha hv
    simp only [List.length_set] at ha hv
    by_cases q1 : row + 1 = i
    · simp only [if_pos q1] at ha hv
      split at ha
      · split at hv
        · cases ha; cases hv; exact .int _ _
        · cases hv
      · cases ha
    · simp only [if_neg q1] at ha hv
      by_cases q2 : row = i
      · simp only [if_pos q2] at ha hv
        split at ha
        · split at hv
          · cases ha; cases hv; exact .int _ _
          · cases hv
        · cases ha
      · simp only [if_neg q2] at ha hv
        exact g8.2 i a v ha hv
  obtain ⟨h3, h4, h5⟩ := hI.setLst (ls := []) hl g1 (b := gb) (by rw [g2]; rfl) ((rows.set row [.int .u32 (x / 4294967296)]).set (row + 1) [.int .u32 (x % 4294967296)]) ((us.set row (.int .u32 (x / 4294967296))).set (row + 1) (.int .u32 (x % 4294967296))) (by simp)
    (fun r hr => by
      rcases List.mem_or_eq_of_mem_set hr with hr | rfl
      · rcases List.mem_or_eq_of_mem_set hr with hr | rfl
        · exact g9 r hr
        · rfl
      · rfl)
    (by
      rw [hfl]
      refine List.all_eq_true.2 fun a ha => ?_
      rcases List.mem_or_eq_of_mem_set ha with ha | rfl
      · rcases List.mem_or_eq_of_mem_set ha with ha | rfl
        · exact List.all_eq_true.1 g10 a ha
        · rfl
      · rfl)
    hul hR'
    (fun u hu => by
      rcases List.mem_or_eq_of_mem_set hu with hu | rfl
      · rcases List.mem_or_eq_of_mem_set hu with hu | rfl
        · exact g11 u hu
        · rfl
      · rfl) g4
  have hcur : (((us.set row (.int .u32 (x / 4294967296))).set (row + 1) (.int .u32 (x % 4294967296))) ++ cur.toList.drop (rows.length * 1)).toArray = (cur.setIfInBounds row (.int .u32 (x / 4294967296))).setIfInBounds (row + 1) (.int .u32 (x % 4294967296)) := by
    apply Array.toList_inj.1
    rw [Array.toList_setIfInBounds, Array.toList_setIfInBounds]
    show _ = (cur.toList.set row _).set (row + 1) _
    conv => rhs; rw [← List.take_append_drop (rows.length * 1) cur.toList, g7]
    rw [List.set_append_left _ _ (by omega), List.set_append_left _ _ (by simp; omega)]
  rw [hcur] at h3 h5
  have hh : w'.heap = (w.setRow gb ((cur.setIfInBounds row (.int .u32 (x / 4294967296))).setIfInBounds (row + 1) (.int .u32 (x % 4294967296)))).heap := by
    refine Array.ext_getElem? fun b => ?_
    by_cases hb : b = gb
    · subst hb; rw [hT.at_, setRow_heap w b cur _ e (0, 0) g4]
    · rw [hT.else_ b hb, setRow_other w gb b _ hb]
  refine ⟨_, rfl, Pr, γ, h3.same hh, h4, ?_, .tup _ _ rfl (fun i a v ha => by simp at ha)⟩
  refine ⟨hT.os, hT.tape, hT.output, by rw [hT.size]; exact Nat.le_refl _, fun b hb => by rw [hh]; exact h5.same b hb, fun b o k1 k2 k3 => by rw [hh]; exact h5.keep b o k1 k2 k3, fun b i hp => ⟨hp, fun v hv => ?_⟩, fun _ _ _ h => h, hT.drawn⟩
  have := (h5.stays b i hp).2 v hv
  simpa only [World.cell?, hh] using this
end Go.Proofs.Ytncppbkhnafpnaa.A

/- slices.Grow of this program. No condition. -/
namespace Go.Proofs.Ytncppbkhnafpnaa.F
open Go Go.Proofs Go.Proofs.Ytncppbkhnafpnaa Go.Proofs.Ytncppbkhnafpnaa.A
def grow84_ren : Go.Shelf.Ren := ⟨fun | 4 => 84 | n => n, fun | 22 => 54 | 25 => 5 | 3 => 3 | 4 => 4 | 9 => 9 | 20 => 20 | 0 => 0 | n => n, fun | n => n⟩
theorem grow84 : Go.Proofs.Lays8.n4 Try.prog grow84_ren := {
  mixed := by kernel_rfl,
  f4 := ⟨Try.f84.name, by decide, Try.func84.trans (congrArg some (by kernel_rfl))⟩,
  t0 := Try.underlying0,
  a0 := Try.isAgg0,
  z0 := Try.sizeOf0,
  v0 := Try.zeroValue0,
  t3 := Try.underlying3,
  a3 := Try.isAgg3,
  z3 := Try.sizeOf3,
  v3 := Try.zeroValue3,
  t4 := Try.underlying4,
  a4 := Try.isAgg4,
  z4 := Try.sizeOf4,
  v4 := Try.zeroValue4,
  t9 := Try.underlying9,
  a9 := Try.isAgg9,
  z9 := Try.sizeOf9,
  v9 := Try.zeroValue9,
  t20 := Try.underlying20,
  a20 := Try.isAgg20,
  z20 := Try.sizeOf20,
  v20 := Try.zeroValue20,
  t22 := Try.underlying54,
  a22 := Try.isAgg54,
  z22 := Try.sizeOf54,
  v22 := Try.zeroValue54 }

theorem grow84_ok {G : Nat → Option (List AV)} : PrimOk Try.prog G 84 (pGrow 5 1 1) :=
  pGrow_ok' (ρ := grow84_ren) grow84 elemT_54 (ent_of Try.func84 (by kernel_rfl) (c := _) rfl)
end Go.Proofs.Ytncppbkhnafpnaa.F

/- What the evaluator is told of the functions. No condition. -/
namespace Go.Proofs.Ytncppbkhnafpnaa.F
open Go Go.Proofs.Ytncppbkhnafpnaa.A
def fns : FuncId → Option AFunc
  | 3 => some f3
  | 4 => some f4
  | 5 => some f5
  | 9 => some f9
  | 10 => some f10
  | 11 => some f11
  | 12 => some f12
  | 13 => some f13
  | 14 => some f14
  | 15 => some f15
  | 16 => some f16
  | 17 => some f17
  | 18 => some f18
  | 19 => some f19
  | 20 => some f20
  | 21 => some f21
  | 22 => some f22
  | 23 => some f23
  | 24 => some f24
  | 25 => some f25
  | 26 => some f26
  | 27 => some f27
  | 33 => some f33
  | 34 => some f34
  | 35 => some f35
  | 36 => some f36
  | 37 => some f37
  | 40 => some f40
  | 41 => some f41
  | 43 => some f43
  | 44 => some f44
  | 68 => some f68
  | 69 => some f69
  | 76 => some f76
  | 83 => some f83
  | 85 => some f85
  | _ => none
def prims : FuncId → Option (List AV → List Blk → Option (AV × List Blk))
  | 38 => some (pTwo)
  | 39 => some (pPair)
  | 42 => some (pPut)
  | 74 => some (pClone 5 1 1)
  | 84 => some (pGrow 5 1 1)
  | _ => none
def E : Env := ⟨fns, prims⟩
theorem envOk : EnvOk Try.prog G E := by
  refine ⟨fun f af _ h => ?_, fun f p h => ?_⟩
  · show ∃ fm g, _
    change fns f = some af at h
    unfold fns at h
    split at h
    · cases h; exact ⟨Try.f3, f3, Try.func3, by kernel_rfl, c3⟩
    · cases h; exact ⟨Try.f4, f4, Try.func4, by kernel_rfl, c4⟩
    · cases h; exact ⟨Try.f5, f5, Try.func5, by kernel_rfl, c5⟩
    · cases h; exact ⟨Try.f9, f9, Try.func9, by kernel_rfl, c9⟩
    · cases h; exact ⟨Try.f10, f10, Try.func10, by kernel_rfl, c10⟩
    · cases h; exact ⟨Try.f11, f11, Try.func11, by kernel_rfl, c11⟩
    · cases h; exact ⟨Try.f12, f12, Try.func12, by kernel_rfl, c12⟩
    · cases h; exact ⟨Try.f13, f13, Try.func13, by kernel_rfl, c13⟩
    · cases h; exact ⟨Try.f14, f14, Try.func14, by kernel_rfl, c14⟩
    · cases h; exact ⟨Try.f15, f15, Try.func15, by kernel_rfl, c15⟩
    · cases h; exact ⟨Try.f16, f16, Try.func16, by kernel_rfl, c16⟩
    · cases h; exact ⟨Try.f17, f17, Try.func17, by kernel_rfl, c17⟩
    · cases h; exact ⟨Try.f18, f18, Try.func18, by kernel_rfl, c18⟩
    · cases h; exact ⟨Try.f19, f19, Try.func19, by kernel_rfl, c19⟩
    · cases h; exact ⟨Try.f20, f20, Try.func20, by kernel_rfl, c20⟩
    · cases h; exact ⟨Try.f21, f21, Try.func21, by kernel_rfl, c21⟩
    · cases h; exact ⟨Try.f22, f22, Try.func22, by kernel_rfl, c22⟩
    · cases h; exact ⟨Try.f23, f23, Try.func23, by kernel_rfl, c23⟩
    · cases h; exact ⟨Try.f24, f24, Try.func24, by kernel_rfl, c24⟩
    · cases h; exact ⟨Try.f25, f25, Try.func25, by kernel_rfl, c25⟩
    · cases h; exact ⟨Try.f26, f26, Try.func26, by kernel_rfl, c26⟩
    · cases h; exact ⟨Try.f27, f27, Try.func27, by kernel_rfl, c27⟩
    · cases h; exact ⟨Try.f33, f33, Try.func33, by kernel_rfl, c33⟩
    · cases h; exact ⟨Try.f34, f34, Try.func34, by kernel_rfl, c34⟩
    · cases h; exact ⟨Try.f35, f35, Try.func35, by kernel_rfl, c35⟩
    · cases h; exact ⟨Try.f36, f36, Try.func36, by kernel_rfl, c36⟩
    · cases h; exact ⟨Try.f37, f37, Try.func37, by kernel_rfl, c37⟩
    · cases h; exact ⟨Try.f40, f40, Try.func40, by kernel_rfl, c40⟩
    · cases h; exact ⟨Try.f41, f41, Try.func41, by kernel_rfl, c41⟩
    · cases h; exact ⟨Try.f43, f43, Try.func43, by kernel_rfl, c43⟩
    · cases h; exact ⟨Try.f44, f44, Try.func44, by kernel_rfl, c44⟩
    · cases h; exact ⟨Try.f68, f68, Try.func68, by kernel_rfl, c68⟩
    · cases h; exact ⟨Try.f69, f69, Try.func69, by kernel_rfl, c69⟩
    · cases h; exact ⟨Try.f76, f76, Try.func76, by kernel_rfl, c76⟩
    · cases h; exact ⟨Try.f83, f83, Try.func83, by kernel_rfl, c83⟩
    · cases h; exact ⟨Try.f85, f85, Try.func85, by kernel_rfl, c85⟩
    · cases h
  · change prims f = some p at h
    unfold prims at h
    split at h
    · cases h; exact pTwo_ok (ent_of Try.func38 (by kernel_rfl) (c := _) rfl) two_w
    · cases h; exact pPair_ok (ent_of Try.func39 (by kernel_rfl) (c := _) rfl) pair_w
    · cases h; exact pPut_ok (ent_of Try.func42 (by kernel_rfl) (c := _) rfl) put_w
    · cases h; exact pClone_ok (ent_of Try.func74 (by kernel_rfl) (c := _) rfl) clone_f74
    · cases h; exact grow84_ok
    · cases h
end Go.Proofs.Ytncppbkhnafpnaa.F

/- An arena's words as data; its small functions. No condition. -/
set_option linter.unusedSimpArgs false
namespace Go.Proofs.Ytncppbkhnafpnaa.D
open Go Go.Proofs.Ytncppbkhnafpnaa.A
def wrows (l : List Int) : List (List AV) := l.map fun n => [.int .u32 n]
theorem wrows_len (l : List Int) : (wrows l).length = l.length := by simp [wrows]
def wrd (l : List Int) (i : Nat) : Int := l.getD i 0
theorem wrd_some (l : List Int) {i : Nat} (h : i < l.length) : l[i]? = some (wrd l i) := by simp [wrd, List.getD_eq_getElem?_getD, h]
theorem wrows_get (l : List Int) {i : Nat} (h : i < l.length) : (wrows l)[i]? = some [.int .u32 (wrd l i)] := by
  rw [wrows, List.getElem?_map, wrd_some l h]; rfl
theorem wrows_set (l : List Int) (i : Nat) (x : Int) : (wrows l).set i [.int .u32 x] = wrows (l.set i x) := by simp [wrows, List.map_set]
theorem wrd_set (l : List Int) {i j : Nat} {x : Int} (h : i < l.length) : wrd (l.set i x) j = if i = j then x else wrd l j := by
  unfold wrd
  rw [List.getD_eq_getElem?_getD, List.getD_eq_getElem?_getD, List.getElem?_set]
  by_cases hj : i = j
  · subst hj; simp [h]
  · simp [hj]
theorem wrd_ne (l : List Int) {i j : Nat} {x : Int} (h : i ≠ j) : wrd (l.set i x) j = wrd l j := by
  unfold wrd
  rw [List.getD_eq_getElem?_getD, List.getD_eq_getElem?_getD, List.getElem?_set_ne h]
/-- Words. -/
def WOk (l : List Int) : Prop := ∀ i, 0 ≤ wrd l i ∧ wrd l i ≤ 4294967295
theorem WOk.set {l : List Int} (h : WOk l) {i : Nat} {x : Int} (hx : 0 ≤ x ∧ x ≤ 4294967295) : WOk (l.set i x) := fun j => by
  by_cases hj : i = j
  · by_cases hi : i < l.length
    · rw [wrd_set l hi, if_pos hj]; exact hx
    · rw [List.set_eq_of_length_le (by omega)]; exact h j
  · rw [wrd_ne l hj]; exact h j
/-- A part of the words is emptied. -/
def clr (l : List Int) (i n : Nat) : List Int := l.take i ++ List.replicate n 0 ++ l.drop (i + n)
theorem clr_len {l : List Int} {i n : Nat} (h : i + n ≤ l.length) : (clr l i n).length = l.length := by simp [clr]; omega
theorem clr_rows {l : List Int} {i n : Nat} : (wrows l).take i ++ List.replicate n [AV.int .u32 0] ++ (wrows l).drop (i + n) = wrows (clr l i n) := by
  simp [wrows, clr]
theorem wrd_clr {l : List Int} {i n j : Nat} (h : i + n ≤ l.length) : wrd (clr l i n) j = if i ≤ j ∧ j < i + n then 0 else wrd l j := by
  unfold wrd clr
  rw [List.getD_eq_getElem?_getD, List.getD_eq_getElem?_getD]
  by_cases h1 : j < i
  · rw [List.append_assoc, List.getElem?_append_left (by simp; omega), List.getElem?_take_of_lt h1, if_neg (by omega)]
  · by_cases h2 : j < i + n
    · rw [List.getElem?_append_left (by simp; omega), List.getElem?_append_right (by simp; omega), if_pos ⟨by omega, h2⟩]
      simp only [List.length_take, List.getElem?_replicate]
      split <;> rfl
    · rw [List.getElem?_append_right (by simp; omega), List.getElem?_drop, if_neg (by omega)]
      congr 2; simp only [List.length_append, List.length_take, List.length_replicate]; omega
theorem WOk.clr {l : List Int} (h : WOk l) {i n : Nat} (hi : i + n ≤ l.length) : WOk (clr l i n) := fun j => by
  rw [wrd_clr hi]; split
  · omega
  · exact h j
theorem pow_le {c : Nat} (h : c ≤ 5) : 2 ^ c ≤ 32 := by
  have : 2 ^ c ≤ 2 ^ 5 := Nat.pow_le_pow_right (by decide) h
  simpa using this
theorem pow_pos' (c : Nat) : 1 ≤ 2 ^ c := Nat.one_le_two_pow
theorem q2_0 (a b : AV) : piece [a, b] 0 1 = some [a] := rfl
theorem o2_0 (a b x : AV) : ovr [a, b] 0 [x] = some [x, b] := rfl
theorem q2_1 (a b : AV) : piece [a, b] 1 1 = some [b] := rfl
theorem o2_1 (a b x : AV) : ovr [a, b] 1 [x] = some [a, x] := rfl
theorem q2_w (a b : AV) : piece [a, b] 0 2 = some [a, b] := rfl
theorem o2_w (a b a' b' : AV) : ovr [a, b] 0 [a', b'] = some [a', b'] := rfl
theorem q4_0 (a b c d : AV) : piece [a, b, c, d] 0 1 = some [a] := rfl
theorem o4_0 (a b c d x : AV) : ovr [a, b, c, d] 0 [x] = some [x, b, c, d] := rfl
theorem q4_1 (a b c d : AV) : piece [a, b, c, d] 1 1 = some [b] := rfl
theorem o4_1 (a b c d x : AV) : ovr [a, b, c, d] 1 [x] = some [a, x, c, d] := rfl
theorem q4_2 (a b c d : AV) : piece [a, b, c, d] 2 1 = some [c] := rfl
theorem o4_2 (a b c d x : AV) : ovr [a, b, c, d] 2 [x] = some [a, b, x, d] := rfl
theorem q4_3 (a b c d : AV) : piece [a, b, c, d] 3 1 = some [d] := rfl
theorem o4_3 (a b c d x : AV) : ovr [a, b, c, d] 3 [x] = some [a, b, c, x] := rfl
theorem q4_w (a b c d : AV) : piece [a, b, c, d] 0 4 = some [a, b, c, d] := rfl
theorem o4_w (a b c d a' b' c' d' : AV) : ovr [a, b, c, d] 0 [a', b', c', d'] = some [a', b', c', d'] := rfl
theorem q7_0 (a b c d e f g : AV) : piece [a, b, c, d, e, f, g] 0 1 = some [a] := rfl
theorem q7_1 (a b c d e f g : AV) : piece [a, b, c, d, e, f, g] 1 1 = some [b] := rfl
theorem q7_2 (a b c d e f g : AV) : piece [a, b, c, d, e, f, g] 2 1 = some [c] := rfl
theorem q7_3 (a b c d e f g : AV) : piece [a, b, c, d, e, f, g] 3 1 = some [d] := rfl
theorem q7_4 (a b c d e f g : AV) : piece [a, b, c, d, e, f, g] 4 1 = some [e] := rfl
theorem q7_5 (a b c d e f g : AV) : piece [a, b, c, d, e, f, g] 5 1 = some [f] := rfl
theorem q7_6 (a b c d e f g : AV) : piece [a, b, c, d, e, f, g] 6 1 = some [g] := rfl
theorem q7_w (a b c d e f g : AV) : piece [a, b, c, d, e, f, g] 0 7 = some [a, b, c, d, e, f, g] := rfl
theorem o7_w (a b c d e f g a' b' c' d' e' f' g' : AV) : ovr [a, b, c, d, e, f, g] 0 [a', b', c', d', e', f', g'] = some [a', b', c', d', e', f', g'] := rfl
theorem LPB : ((((type_of% (@refs_int) ∧ (type_of% (@refs_bool) ∧ type_of% (@refs_str))) ∧ ((type_of% (@refs_ro) ∧ type_of% (@refs_clip)) ∧ (type_of% (@refs_nilf) ∧ type_of% (@refs_nilp)))) ∧ ((type_of% (@refs_rp) ∧ (type_of% (@refs_yld) ∧ type_of% (@refs_refs))) ∧ ((type_of% (@refs_rq) ∧ type_of% (@belowR_nil)) ∧ (type_of% (@belowR_cons) ∧ type_of% (@refs_ptr))))) ∧ (((type_of% (@refs_lis) ∧ (type_of% (@refs_clo) ∧ type_of% (@refs_agg))) ∧ ((type_of% (@refs_tup) ∧ type_of% (@below_nil)) ∧ (type_of% (@below_cons) ∧ type_of% (@bref_dead)))) ∧ (((type_of% (@bref_box) ∧ type_of% (@bref_lst)) ∧ (type_of% (@ball_nil) ∧ type_of% (@ball_cons))) ∧ ((type_of% (@refs_int) ∧ type_of% (@refs_int)) ∧ (type_of% (@refs_int) ∧ type_of% (@refs_int)))))) := ⟨⟨⟨⟨@refs_int, ⟨@refs_bool, @refs_str⟩⟩, ⟨⟨@refs_ro, @refs_clip⟩, ⟨@refs_nilf, @refs_nilp⟩⟩⟩, ⟨⟨@refs_rp, ⟨@refs_yld, @refs_refs⟩⟩, ⟨⟨@refs_rq, @belowR_nil⟩, ⟨@belowR_cons, @refs_ptr⟩⟩⟩⟩, ⟨⟨⟨@refs_lis, ⟨@refs_clo, @refs_agg⟩⟩, ⟨⟨@refs_tup, @below_nil⟩, ⟨@below_cons, @bref_dead⟩⟩⟩, ⟨⟨⟨@bref_box, @bref_lst⟩, ⟨@ball_nil, @ball_cons⟩⟩, ⟨⟨@refs_int, @refs_int⟩, ⟨@refs_int, @refs_int⟩⟩⟩⟩⟩
end Go.Proofs.Ytncppbkhnafpnaa.D
namespace Go.Proofs.Ytncppbkhnafpnaa.F
open Go Go.Proofs.Ytncppbkhnafpnaa.A Go.Proofs.Ytncppbkhnafpnaa.D
theorem e33 (c : Int) : LV E 33 [.int .i64 c] = some (.bool (decide (0 ≤ c ∧ c ≤ 5))) := by
  rw [LV_R (fn := f33) rfl rfl rfl]
  by_cases h1 : 0 ≤ c
  · by_cases h2 : c ≤ 5
    · simp only [f33, RB, pickV, eqbV, notV, negV, convV, faddrV, fldV, idxV, eqaggV, iaddrV, isnilV, nilckV, pnilV, cloV, extrV, slenV, minV, sidxV, abin, cmpInt, params, growLists, fillCells, newAt, rdPtr, wrPtr, AV.cells, asVal, lenOf, boundOf, rowsOf, argIds, freshIn, scalar1, setAll, AV.isData, AV.isYld, Nat.reduceAdd, Nat.reduceMul, Nat.reduceSub, Nat.reduceEqDiff, Nat.reduceLeDiff, Nat.reduceLT, Int.reduceNeg, ↓reduceIte, reduceCtorEq, Int.reduceEq, Int.reduceLT, Int.reduceLE, Int.reduceBEq, Int.reduceBNe, Int.reduceToNat, IntKind.bits, Int.reduceAdd, Int.reduceSub, Int.reduceMul, Int.reduceTDiv, Int.reduceTMod, h1, h2, and_self]
    · simp only [f33, RB, pickV, eqbV, notV, negV, convV, faddrV, fldV, idxV, eqaggV, iaddrV, isnilV, nilckV, pnilV, cloV, extrV, slenV, minV, sidxV, abin, cmpInt, params, growLists, fillCells, newAt, rdPtr, wrPtr, AV.cells, asVal, lenOf, boundOf, rowsOf, argIds, freshIn, scalar1, setAll, AV.isData, AV.isYld, Nat.reduceAdd, Nat.reduceMul, Nat.reduceSub, Nat.reduceEqDiff, Nat.reduceLeDiff, Nat.reduceLT, Int.reduceNeg, ↓reduceIte, reduceCtorEq, Int.reduceEq, Int.reduceLT, Int.reduceLE, Int.reduceBEq, Int.reduceBNe, Int.reduceToNat, IntKind.bits, Int.reduceAdd, Int.reduceSub, Int.reduceMul, Int.reduceTDiv, Int.reduceTMod, h1, h2, and_false]
  · simp only [f33, RB, pickV, eqbV, notV, negV, convV, faddrV, fldV, idxV, eqaggV, iaddrV, isnilV, nilckV, pnilV, cloV, extrV, slenV, minV, sidxV, abin, cmpInt, params, growLists, fillCells, newAt, rdPtr, wrPtr, AV.cells, asVal, lenOf, boundOf, rowsOf, argIds, freshIn, scalar1, setAll, AV.isData, AV.isYld, Nat.reduceAdd, Nat.reduceMul, Nat.reduceSub, Nat.reduceEqDiff, Nat.reduceLeDiff, Nat.reduceLT, Int.reduceNeg, ↓reduceIte, reduceCtorEq, Int.reduceEq, Int.reduceLT, Int.reduceLE, Int.reduceBEq, Int.reduceBNe, Int.reduceToNat, IntKind.bits, Int.reduceAdd, Int.reduceSub, Int.reduceMul, Int.reduceTDiv, Int.reduceTMod, h1, false_and]
theorem e34 {c : Nat} (h : c ≤ 5) : LV E 34 [.int .i64 (c : Int)] = some (.int .i64 ((2 ^ c : Nat) : Int)) := by
  rw [LV_R (fn := f34) rfl rfl rfl]
  have h2 : (0 : Int) ≤ (c : Int) := by omega
  have e : IntKind.i64.wrap (1 * 2 ^ Nat.min c 64) = ((2 ^ c : Nat) : Int) := by
    rw [show Nat.min c 64 = c from Nat.min_eq_left (by omega), Int.one_mul]
    rcases (show c = 0 ∨ c = 1 ∨ c = 2 ∨ c = 3 ∨ c = 4 ∨ c = 5 by omega) with rfl | rfl | rfl | rfl | rfl | rfl <;> decide
  simp only [f34, RB, pickV, eqbV, notV, negV, convV, faddrV, fldV, idxV, eqaggV, iaddrV, isnilV, nilckV, pnilV, cloV, extrV, slenV, minV, sidxV, abin, cmpInt, params, growLists, fillCells, newAt, rdPtr, wrPtr, AV.cells, asVal, lenOf, boundOf, rowsOf, argIds, freshIn, scalar1, setAll, AV.isData, AV.isYld, Nat.reduceAdd, Nat.reduceMul, Nat.reduceSub, Nat.reduceEqDiff, Nat.reduceLeDiff, Nat.reduceLT, Int.reduceNeg, ↓reduceIte, reduceCtorEq, Int.reduceEq, Int.reduceLT, Int.reduceLE, Int.reduceBEq, Int.reduceBNe, Int.reduceToNat, IntKind.bits, Int.reduceAdd, Int.reduceSub, Int.reduceMul, Int.reduceTDiv, Int.reduceTMod, h2, e]
theorem e76 {x : Int} (h : 16 ≤ x ∧ x ≤ 27) : LV E 76 [.int .u32 x] = some (.int .i64 ((x - 16) / 2)) := by
  rw [LV_R (fn := f76) rfl rfl rfl]
  have e1 : IntKind.u32.wrap (x - 16) = x - 16 := by rw [IntKind.wrap_u32]; omega
  have e2 : IntKind.i64.wrap (x - 16) = x - 16 := IntWalk.i64_in _ (by omega)
  have e3 : Int.fdiv (x - 16) (2 ^ Nat.min 1 64) = (x - 16) / 2 := by rw [Int.fdiv_eq_ediv_of_nonneg _ (by decide)]; rfl
  simp only [f76, RB, pickV, eqbV, notV, negV, convV, faddrV, fldV, idxV, eqaggV, iaddrV, isnilV, nilckV, pnilV, cloV, extrV, slenV, minV, sidxV, abin, cmpInt, params, growLists, fillCells, newAt, rdPtr, wrPtr, AV.cells, asVal, lenOf, boundOf, rowsOf, argIds, freshIn, scalar1, setAll, AV.isData, AV.isYld, Nat.reduceAdd, Nat.reduceMul, Nat.reduceSub, Nat.reduceEqDiff, Nat.reduceLeDiff, Nat.reduceLT, Int.reduceNeg, ↓reduceIte, reduceCtorEq, Int.reduceEq, Int.reduceLT, Int.reduceLE, Int.reduceBEq, Int.reduceBNe, Int.reduceToNat, IntKind.bits, Int.reduceAdd, Int.reduceSub, Int.reduceMul, Int.reduceTDiv, Int.reduceTMod, e1, e2, e3]
  done
end Go.Proofs.Ytncppbkhnafpnaa.F

/- An arena's blocks, one by one. No condition. -/
set_option linter.unusedSimpArgs false
namespace Go.Proofs.Ytncppbkhnafpnaa.D
open Go Go.Proofs.Ytncppbkhnafpnaa.A
/-- A block: its class, and whether it is taken. -/
abbrev Bk := Nat × Bool
def hdw (b : Bk) : Int := 16 + 2 * (b.1 : Int) + (if b.2 = true then 1 else 0)
def Chn (l : List Int) : Nat → List Bk → Nat → Prop
  | p, [], e => p = e
  | p, b :: bs, e => b.1 ≤ 5 ∧ wrd l p = hdw b ∧ Chn l (p + 1 + 2 ^ b.1) bs e
/-- Blocks by their places. -/
def pcs : Nat → List Bk → List (Nat × Bk)
  | _, [] => []
  | p, b :: bs => (p + 1, b) :: pcs (p + 1 + 2 ^ b.1) bs
theorem Chn.le {l : List Int} : ∀ {bs : List Bk} {p e : Nat}, Chn l p bs e → p + bs.length ≤ e
  | [], p, e, h => Nat.le_of_eq h
  | b :: bs, p, e, h => by have := Chn.le h.2.2; have := Nat.one_le_two_pow (n := b.1); simp only [List.length_cons]; omega
theorem Chn.lt {l : List Int} {b : Bk} {bs : List Bk} {p e : Nat} (h : Chn l p (b :: bs) e) : p < e := by have := Chn.le h; simp only [List.length_cons] at this; omega
theorem hdw_in {b : Bk} (h : b.1 ≤ 5) : 16 ≤ hdw b ∧ hdw b ≤ 27 := by unfold hdw; split <;> omega
theorem hdw_cls {b : Bk} (h : b.1 ≤ 5) : (hdw b - 16) / 2 = (b.1 : Int) := by unfold hdw; split <;> omega
theorem hdw_and {b : Bk} (h : b.1 ≤ 5) : bits2 .and .u32 (hdw b) 1 = some (if b.2 = true then 1 else 0) := by
  obtain ⟨c, t⟩ := b
  rcases (show c = 0 ∨ c = 1 ∨ c = 2 ∨ c = 3 ∨ c = 4 ∨ c = 5 by simp only at h; omega) with rfl | rfl | rfl | rfl | rfl | rfl <;> cases t <;> decide
/-- An arena's words: its blocks up to the edge. -/
structure ArOk (l : List Int) (bs : List Bk) : Prop where
  w : WOk l
  lo : 64 ≤ l.length
  hi : l.length ≤ 16384
  chn : Chn l 16 bs (wrd l 15).toNat
  edge : (wrd l 15).toNat ≤ l.length
end Go.Proofs.Ytncppbkhnafpnaa.D
namespace Go.Proofs.Ytncppbkhnafpnaa.F
open Go Go.Proofs.Ytncppbkhnafpnaa.A Go.Proofs.Ytncppbkhnafpnaa.D
theorem r83 {σ : Type} {ys : List Hd} {d : Nat} {S : σ → Hp} {m a : Nat} {l : List Int} {bks : List Bk} {step : σ → Nat × Bk → σ × Bool} {ok : Nat → σ → Prop} (hA : ArOk l bks) (h : Hd) (hy : ys[d]? = some h) (len : ∀ s, (S s).bs.length = m) (low : ∀ s, belowAll m (S s).bs = true)
    (ba : ∀ s, ∃ lk e, (S s).bs[a]? = some (.box lk e [.ptr 1 0 0 0])) (b0 : ∀ s, ∃ lk, (S s).bs[0]? = some (.lst lk 0 23 1 (wrows l))) (b1 : ∀ s, ∃ lk e, (S s).bs[1]? = some (.box lk e [.lis 0 0 0 l.length]))
    (hd : ∀ k s p (b : Bk), k < bks.length → ok k s → ((step s (p, b)).2 = true → ok (k + 1) (step s (p, b)).1) ∧ h [.agg [.int .i64 (p : Nat), .int .i64 (b.1 : Nat)], .bool b.2] (S s) = some ((step s (p, b)).2, S (step s (p, b)).1)) (s : σ) (h0 : ok 0 s) :
    LR E ys 83 [.yld d, .ptr a 0 0 0] (S s) = some (.tup [], S (foldU step (pcs 16 bks) s)) := by
  have ham : a < m := by obtain ⟨lk, e, h1⟩ := ba s; rw [← len s]; exact (List.getElem?_eq_some_iff.1 h1).1
  have tk : ∀ s, (S s).bs.take m = (S s).bs := fun s => List.take_of_length_le (by rw [len s]; exact Nat.le_refl _)
  rw [LR_R (fn := f83) rfl rfl rfl]
  simp only [f83, RB, pickV, eqbV, notV, negV, convV, faddrV, fldV, idxV, eqaggV, iaddrV, isnilV, nilckV, pnilV, cloV, extrV, slenV, minV, sidxV, abin, cmpInt, params, growLists, fillCells, newAt, rdPtr, wrPtr, AV.cells, asVal, lenOf, boundOf, rowsOf, argIds, freshIn, scalar1, setAll, AV.isData, AV.isYld, Nat.reduceAdd, Nat.reduceMul, Nat.reduceSub, Nat.reduceEqDiff, Nat.reduceLeDiff, Nat.reduceLT, Int.reduceNeg, ↓reduceIte, reduceCtorEq, Int.reduceEq, Int.reduceLT, Int.reduceLE, Int.reduceBEq, Int.reduceBNe, Int.reduceToNat, IntKind.bits, Int.reduceAdd, Int.reduceSub, Int.reduceMul, Int.reduceTDiv, Int.reduceTMod, R7B, take_add, List.append_assoc, List.length_append, Nat.add_assoc, shrink_lit, ball_app, RG, LPB]
  rw [len s]
  refine W_recP (ι := (Nat × Nat) × List Bk × σ) (Q := fun i x => Chn l i.1.1 i.2.1 (wrd l 15).toNat → i.1.2 + i.2.1.length = bks.length → ok i.1.2 i.2.2 → x = some (AV.tup [], S (foldU step (pcs i.1.1 i.2.1) i.2.2))) (M := fun i => [(0, .yld d), (1, .ptr a 0 0 0), (3, .int .i64 (i.1.1 : Int))]) (H := fun i => S i.2.2) (μ := fun i => i.2.1.length) (fun i => ?_) (fun i ih => ?_) ((16, 0), bks, s) hA.chn (by simp) h0
  · exact ⟨by simp only [List.map_cons, List.map_nil, LPB, Bool.and_self, ham, decide_true], low _⟩
  · obtain ⟨⟨p, k⟩, bs, s⟩ := i
    simp only at ih ⊢
    intro hc hk hok
    obtain ⟨lk0, g0⟩ := b0 s
    obtain ⟨lk1, e1, g1⟩ := b1 s
    obtain ⟨lka, ea, ga⟩ := ba s
    have hlo := hA.lo
    have hhi := hA.hi
    have hw := hA.w 15
    have he := hA.edge
    have w15 := wrows_get l (show 15 < l.length by omega)
    have c15 : IntKind.i64.wrap (wrd l 15) = wrd l 15 := IntWalk.i64_in _ (by omega)
    have x15 : (15 : Int) < (l.length : Int) := by omega
    have x15n : 15 < l.length := by omega
    cases bs with
    | nil =>
      have hpe : p = (wrd l 15).toNat := hc
      have f1 : ¬ (p : Int) < wrd l 15 := by omega
      simp only [RB, pickV, eqbV, notV, negV, convV, faddrV, fldV, idxV, eqaggV, iaddrV, isnilV, nilckV, pnilV, cloV, extrV, slenV, minV, sidxV, abin, cmpInt, params, growLists, fillCells, newAt, rdPtr, wrPtr, AV.cells, asVal, lenOf, boundOf, rowsOf, argIds, freshIn, scalar1, setAll, AV.isData, AV.isYld, Nat.reduceAdd, Nat.reduceMul, Nat.reduceSub, Nat.reduceEqDiff, Nat.reduceLeDiff, Nat.reduceLT, Int.reduceNeg, ↓reduceIte, reduceCtorEq, Int.reduceEq, Int.reduceLT, Int.reduceLE, Int.reduceBEq, Int.reduceBNe, Int.reduceToNat, IntKind.bits, Int.reduceAdd, Int.reduceSub, Int.reduceMul, Int.reduceTDiv, Int.reduceTMod, R7B, take_add, List.append_assoc, List.length_append, Nat.add_assoc, shrink_lit, ball_app, RG, LPB, wrows_len, q2_0, o2_0, q2_1, o2_1, q2_w, o2_w, q4_0, o4_0, q4_1, o4_1, q4_2, o4_2, q4_3, o4_3, q4_w, o4_w, q7_0, q7_1, q7_2, q7_3, q7_4, q7_5, q7_6, q7_w, o7_w, g0, g1, ga, w15, c15, x15, x15n, f1, lisFits]
      rfl
    | cons b bs =>
      have hlt := hc.lt
      have f1 : (p : Int) < wrd l 15 := by omega
      have f2 : (0 : Int) ≤ (p : Int) := by omega
      have f3 : p < l.length := by omega
      have wp := wrows_get l f3
      obtain ⟨hb5, hwd, hc'⟩ := hc
      have h76 := e76 (x := hdw b) (hdw_in hb5)
      rw [hdw_cls hb5] at h76
      rw [hwd] at wp
      have hand := hdw_and hb5
      have hne : ((if b.2 = true then (1 : Int) else 0) != 0) = b.2 := by cases b.2 <;> rfl
      have h34 := e34 hb5
      have hpw := pow_le hb5
      have hpc : pcs p (b :: bs) = (p + 1, b) :: pcs (p + 1 + 2 ^ b.1) bs := rfl
      rw [hpc]
      clear hpc
      generalize 2 ^ b.1 = X at *
      have a1 : IntKind.i64.wrap ((p : Int) + 1) = ((p + 1 : Nat) : Int) := by rw [IntWalk.i64_in _ (by omega)]; omega
      have a2 : IntKind.i64.wrap (1 + ((X : Nat) : Int)) = ((1 + X : Nat) : Int) := by rw [IntWalk.i64_in _ (by omega)]; omega
      have a3 : IntKind.i64.wrap ((p : Int) + ((1 + X : Nat) : Int)) = ((p + (1 + X) : Nat) : Int) := by rw [IntWalk.i64_in _ (by omega)]; omega
      obtain ⟨hok', hh⟩ := hd k s (p + 1) b (by simp only [List.length_cons] at hk; omega) hok
      cases hst : (step s (p + 1, b)).2 with
      | true =>
        rw [hst] at hh
        have ih := ih ((p + (1 + X), k + 1), bs, (step s (p + 1, b)).1) (by simp) (by rw [← Nat.add_assoc]; exact hc') (by simp only [List.length_cons] at hk ⊢; omega) (hok' hst)
        simp only [RB, pickV, eqbV, notV, negV, convV, faddrV, fldV, idxV, eqaggV, iaddrV, isnilV, nilckV, pnilV, cloV, extrV, slenV, minV, sidxV, abin, cmpInt, params, growLists, fillCells, newAt, rdPtr, wrPtr, AV.cells, asVal, lenOf, boundOf, rowsOf, argIds, freshIn, scalar1, setAll, AV.isData, AV.isYld, Nat.reduceAdd, Nat.reduceMul, Nat.reduceSub, Nat.reduceEqDiff, Nat.reduceLeDiff, Nat.reduceLT, Int.reduceNeg, ↓reduceIte, reduceCtorEq, Int.reduceEq, Int.reduceLT, Int.reduceLE, Int.reduceBEq, Int.reduceBNe, Int.reduceToNat, IntKind.bits, Int.reduceAdd, Int.reduceSub, Int.reduceMul, Int.reduceTDiv, Int.reduceTMod, R7B, take_add, List.append_assoc, List.length_append, Nat.add_assoc, shrink_lit, ball_app, RG, LPB, wrows_len, q2_0, o2_0, q2_1, o2_1, q2_w, o2_w, q4_0, o4_0, q4_1, o4_1, q4_2, o4_2, q4_3, o4_3, q4_w, o4_w, q7_0, q7_1, q7_2, q7_3, q7_4, q7_5, q7_6, q7_w, o7_w, g0, g1, ga, w15, c15, x15, x15n, f1, f2, f3, wp, h76, hand, hne, h34, a1, a2, a3, CR_yld' hy, hh, lisFits, foldU, hst]
        simp only [tk]
        exact ih
      | false =>
        rw [hst] at hh
        simp only [RB, pickV, eqbV, notV, negV, convV, faddrV, fldV, idxV, eqaggV, iaddrV, isnilV, nilckV, pnilV, cloV, extrV, slenV, minV, sidxV, abin, cmpInt, params, growLists, fillCells, newAt, rdPtr, wrPtr, AV.cells, asVal, lenOf, boundOf, rowsOf, argIds, freshIn, scalar1, setAll, AV.isData, AV.isYld, Nat.reduceAdd, Nat.reduceMul, Nat.reduceSub, Nat.reduceEqDiff, Nat.reduceLeDiff, Nat.reduceLT, Int.reduceNeg, ↓reduceIte, reduceCtorEq, Int.reduceEq, Int.reduceLT, Int.reduceLE, Int.reduceBEq, Int.reduceBNe, Int.reduceToNat, IntKind.bits, Int.reduceAdd, Int.reduceSub, Int.reduceMul, Int.reduceTDiv, Int.reduceTMod, R7B, take_add, List.append_assoc, List.length_append, Nat.add_assoc, shrink_lit, ball_app, RG, LPB, wrows_len, q2_0, o2_0, q2_1, o2_1, q2_w, o2_w, q4_0, o4_0, q4_1, o4_1, q4_2, o4_2, q4_3, o4_3, q4_w, o4_w, q7_0, q7_1, q7_2, q7_3, q7_4, q7_5, q7_6, q7_w, o7_w, g0, g1, ga, w15, c15, x15, x15n, f1, f2, f3, wp, h76, hand, hne, h34, a1, a2, a3, CR_yld' hy, hh, lisFits, foldU, hst]
theorem r83_bind {σ β : Type} {ys : List Hd} {d : Nat} {S : σ → Hp} {m a : Nat} {l : List Int} {bks : List Bk} {step : σ → Nat × Bk → σ × Bool} {ok : Nat → σ → Prop} {F : AV × Hp → Option β} {x : Option β} (s : σ) (h0 : ok 0 s) (hA : ArOk l bks) (h : Hd) (hy : ys[d]? = some h) (len : ∀ s, (S s).bs.length = m) (low : ∀ s, belowAll m (S s).bs = true)
    (ba : ∀ s, ∃ lk e, (S s).bs[a]? = some (.box lk e [.ptr 1 0 0 0])) (b0 : ∀ s, ∃ lk, (S s).bs[0]? = some (.lst lk 0 23 1 (wrows l))) (b1 : ∀ s, ∃ lk e, (S s).bs[1]? = some (.box lk e [.lis 0 0 0 l.length]))
    (hd : ∀ k s p (b : Bk), k < bks.length → ok k s → ((step s (p, b)).2 = true → ok (k + 1) (step s (p, b)).1) ∧ h [.agg [.int .i64 (p : Nat), .int .i64 (b.1 : Nat)], .bool b.2] (S s) = some ((step s (p, b)).2, S (step s (p, b)).1))
    (hF : F (.tup [], S (foldU step (pcs 16 bks) s)) = x) : (LR E ys 83 [.yld d, .ptr a 0 0 0] (S s)).bind F = x := by
  rw [r83 hA h hy len low ba b0 b1 hd s h0]
  exact hF
end Go.Proofs.Ytncppbkhnafpnaa.F

/- An arena's block at a place. No condition. -/
set_option linter.unusedSimpArgs false
namespace Go.Proofs.Ytncppbkhnafpnaa.D
open Go Go.Proofs.Ytncppbkhnafpnaa.A
def fnd (place : Int) (l : List (Nat × Bk)) : Option (Nat × Bk) := l.find? fun x => x.2.2 && ((x.1 : Int) == place)
def stepF (place : Int) (s : Option (Nat × Bk)) (x : Nat × Bk) : Option (Nat × Bk) × Bool := if (x.2.2 && ((x.1 : Int) == place)) = true then (some x, false) else (s, true)
theorem foldU_fnd (place : Int) : ∀ l, foldU (stepF place) l none = fnd place l
  | [] => rfl
  | x :: l => by
    unfold fnd
    rw [List.find?_cons]
    unfold foldU stepF
    cases h : (x.2.2 && ((x.1 : Int) == place)) with
    | true => simp
    | false => simp only [Bool.false_eq_true, if_false, if_true]; exact foldU_fnd place l
def fndV : Option (Nat × Bk) → AV
  | some x => .tup [.agg [.int .i64 (x.1 : Nat), .int .i64 (x.2.1 : Nat)], .bool true]
  | none => .tup [.agg [.int .i64 0, .int .i64 0], .bool false]
def extF (place : Int) (r : Option (Nat × Bk)) : List Blk := [.box 0 3 [.int .i64 place], .box 0 58 (match r with
    | some x => [.int .i64 (x.1 : Nat), .int .i64 (x.2.1 : Nat)]
    | none => [.int .i64 0, .int .i64 0]), .box 0 4 [.bool r.isSome], .box 0 26 [.ptr 1 0 0 0]]
theorem extF_none (place : Int) : extF place none = [.box 0 3 [.int .i64 place], .box 0 58 [.int .i64 0, .int .i64 0], .box 0 4 [.bool false], .box 0 26 [.ptr 1 0 0 0]] := rfl
theorem extF_some (place : Int) (x : Nat × Bk) : extF place (some x) = [.box 0 3 [.int .i64 place], .box 0 58 [.int .i64 (x.1 : Nat), .int .i64 (x.2.1 : Nat)], .box 0 4 [.bool true], .box 0 26 [.ptr 1 0 0 0]] := rfl
end Go.Proofs.Ytncppbkhnafpnaa.D
namespace Go.Proofs.Ytncppbkhnafpnaa.F
open Go Go.Proofs.Ytncppbkhnafpnaa.A Go.Proofs.Ytncppbkhnafpnaa.D
theorem r68 {ys : List Hd} {bs : List Blk} {pend : List (Option AExit)} : LR E ys 68 [.ptr 1 0 0 0] ⟨bs, pend⟩ = some (.clo 83 [.ptr bs.length 0 0 0], ⟨bs ++ [.box 0 26 [.ptr 1 0 0 0]], pend⟩) := by
  rw [LR_R (fn := f68) rfl rfl rfl]
  simp only [f68, RB, pickV, eqbV, notV, negV, convV, faddrV, fldV, idxV, eqaggV, iaddrV, isnilV, nilckV, pnilV, cloV, extrV, slenV, minV, sidxV, abin, cmpInt, params, growLists, fillCells, newAt, rdPtr, wrPtr, AV.cells, asVal, lenOf, boundOf, rowsOf, argIds, freshIn, scalar1, setAll, AV.isData, AV.isYld, Nat.reduceAdd, Nat.reduceMul, Nat.reduceSub, Nat.reduceEqDiff, Nat.reduceLeDiff, Nat.reduceLT, Int.reduceNeg, ↓reduceIte, reduceCtorEq, Int.reduceEq, Int.reduceLT, Int.reduceLE, Int.reduceBEq, Int.reduceBNe, Int.reduceToNat, IntKind.bits, Int.reduceAdd, Int.reduceSub, Int.reduceMul, Int.reduceTDiv, Int.reduceTMod, R7B, take_add, List.append_assoc, List.length_append, Nat.add_assoc, shrink_lit, ball_app, RG, LPB]
/-- What stands ahead: an arena. -/
theorem r40 {l : List Int} {bks : List Bk} {lk lk1 : Nat} {rest : List Blk} (hA : ArOk l bks) (hlow : belowAll (rest.length + 2) rest = true) (place : Int) :
    ∃ ext, LR E [] 40 [.ptr 1 0 0 0, .int .i64 place] ⟨.lst lk 0 23 1 (wrows l) :: .box lk1 78 [.lis 0 0 0 l.length] :: rest, []⟩ = some (fndV (fnd place (pcs 16 bks)), ⟨(.lst lk 0 23 1 (wrows l) :: .box lk1 78 [.lis 0 0 0 l.length] :: rest) ++ ext, []⟩) := by
  rw [LR_R (fn := f40) rfl rfl rfl]
  have hl1 : belowAll (rest.length + 6) rest = true := belowAll_mono (by omega) hlow
  simp only [f40, RB, pickV, eqbV, notV, negV, convV, faddrV, fldV, idxV, eqaggV, iaddrV, isnilV, nilckV, pnilV, cloV, extrV, slenV, minV, sidxV, abin, cmpInt, params, growLists, fillCells, newAt, rdPtr, wrPtr, AV.cells, asVal, lenOf, boundOf, rowsOf, argIds, freshIn, scalar1, setAll, AV.isData, AV.isYld, Nat.reduceAdd, Nat.reduceMul, Nat.reduceSub, Nat.reduceEqDiff, Nat.reduceLeDiff, Nat.reduceLT, Int.reduceNeg, ↓reduceIte, reduceCtorEq, Int.reduceEq, Int.reduceLT, Int.reduceLE, Int.reduceBEq, Int.reduceBNe, Int.reduceToNat, IntKind.bits, Int.reduceAdd, Int.reduceSub, Int.reduceMul, Int.reduceTDiv, Int.reduceTMod, R7B, take_add, List.append_assoc, List.length_append, Nat.add_assoc, shrink_lit, ball_app, RG, LPB, wrows_len, q2_0, o2_0, q2_1, o2_1, q2_w, o2_w, q4_0, o4_0, q4_1, o4_1, q4_2, o4_2, q4_3, o4_3, q4_w, o4_w, q7_0, q7_1, q7_2, q7_3, q7_4, q7_5, q7_6, q7_w, o7_w, r68]
  rw [R_range (g := 83) (caps := [.ptr (rest.length + 5) 0 0 0]) (by simp only [RB, pickV, eqbV, notV, negV, convV, faddrV, fldV, idxV, eqaggV, iaddrV, isnilV, nilckV, pnilV, cloV, extrV, slenV, minV, sidxV, abin, cmpInt, params, growLists, fillCells, newAt, rdPtr, wrPtr, AV.cells, asVal, lenOf, boundOf, rowsOf, argIds, freshIn, scalar1, setAll, AV.isData, AV.isYld, Nat.reduceAdd, Nat.reduceMul, Nat.reduceSub, Nat.reduceEqDiff, Nat.reduceLeDiff, Nat.reduceLT, Int.reduceNeg, ↓reduceIte, reduceCtorEq, Int.reduceEq, Int.reduceLT, Int.reduceLE, Int.reduceBEq, Int.reduceBNe, Int.reduceToNat, IntKind.bits, Int.reduceAdd, Int.reduceSub, Int.reduceMul, Int.reduceTDiv, Int.reduceTMod]) rfl]
  simp only [RB, pickV, eqbV, notV, negV, convV, faddrV, fldV, idxV, eqaggV, iaddrV, isnilV, nilckV, pnilV, cloV, extrV, slenV, minV, sidxV, abin, cmpInt, params, growLists, fillCells, newAt, rdPtr, wrPtr, AV.cells, asVal, lenOf, boundOf, rowsOf, argIds, freshIn, scalar1, setAll, AV.isData, AV.isYld, Nat.reduceAdd, Nat.reduceMul, Nat.reduceSub, Nat.reduceEqDiff, Nat.reduceLeDiff, Nat.reduceLT, Int.reduceNeg, ↓reduceIte, reduceCtorEq, Int.reduceEq, Int.reduceLT, Int.reduceLE, Int.reduceBEq, Int.reduceBNe, Int.reduceToNat, IntKind.bits, Int.reduceAdd, Int.reduceSub, Int.reduceMul, Int.reduceTDiv, Int.reduceTMod, R7B, take_add, List.append_assoc, List.length_append, Nat.add_assoc, shrink_lit, ball_app, RG, LPB]
  refine ⟨extF place (fnd place (pcs 16 bks)), ?_⟩
  have hl : ∀ s, (extF place s).length = 4 := fun s => rfl
  refine r83_bind (σ := Option (Nat × Bk)) (d := 0) (S := fun s => ⟨.lst lk 0 23 1 (wrows l) :: .box lk1 78 [.lis 0 0 0 l.length] :: (rest ++ extF place s), [match s with
      | some _ => some .ret
      | none => none]⟩) (m := rest.length + 6) (a := rest.length + 5) (step := stepF place) (ok := fun _ s => s = none) none rfl hA _ rfl (fun s => ?_) (fun s => ?_) (fun s => ⟨0, 26, ?_⟩) (fun s => ⟨lk, rfl⟩) (fun s => ⟨lk1, 78, rfl⟩) (fun k s p b hk hok => ?_) ?_
  · simp only [List.length_cons, List.length_append, hl]
  · rw [show (Blk.lst lk 0 23 1 (wrows l) :: Blk.box lk1 78 [.lis 0 0 0 l.length] :: (rest ++ extF place s)) = ([Blk.lst lk 0 23 1 (wrows l), Blk.box lk1 78 [.lis 0 0 0 l.length]] ++ rest) ++ extF place s from by simp, ball_app, ball_app, hl1]
    cases s <;> simp [extF, LPB]
  · simp only [RB, pickV, eqbV, notV, negV, convV, faddrV, fldV, idxV, eqaggV, iaddrV, isnilV, nilckV, pnilV, cloV, extrV, slenV, minV, sidxV, abin, cmpInt, params, growLists, fillCells, newAt, rdPtr, wrPtr, AV.cells, asVal, lenOf, boundOf, rowsOf, argIds, freshIn, scalar1, setAll, AV.isData, AV.isYld, Nat.reduceAdd, Nat.reduceMul, Nat.reduceSub, Nat.reduceEqDiff, Nat.reduceLeDiff, Nat.reduceLT, Int.reduceNeg, ↓reduceIte, reduceCtorEq, Int.reduceEq, Int.reduceLT, Int.reduceLE, Int.reduceBEq, Int.reduceBNe, Int.reduceToNat, IntKind.bits, Int.reduceAdd, Int.reduceSub, Int.reduceMul, Int.reduceTDiv, Int.reduceTMod, R7B, take_add, List.append_assoc, List.length_append, Nat.add_assoc, shrink_lit, ball_app, RG, LPB]
    cases s <;> rfl
  · subst hok
    rw [handler_run rfl rfl]
    unfold stepF
    have z6 : 0 < rest.length + 6 := by omega
    have o6 : 1 < rest.length + 6 := by omega
    cases hb : b.2 with
    | true =>
      cases hp : ((p : Int) == place) with
      | true =>
        simp only [hb, hp, Bool.and_self, if_true, Bool.false_eq_true, false_implies, true_and]
        simp only [RB, pickV, eqbV, notV, negV, convV, faddrV, fldV, idxV, eqaggV, iaddrV, isnilV, nilckV, pnilV, cloV, extrV, slenV, minV, sidxV, abin, cmpInt, params, growLists, fillCells, newAt, rdPtr, wrPtr, AV.cells, asVal, lenOf, boundOf, rowsOf, argIds, freshIn, scalar1, setAll, AV.isData, AV.isYld, Nat.reduceAdd, Nat.reduceMul, Nat.reduceSub, Nat.reduceEqDiff, Nat.reduceLeDiff, Nat.reduceLT, Int.reduceNeg, ↓reduceIte, reduceCtorEq, Int.reduceEq, Int.reduceLT, Int.reduceLE, Int.reduceBEq, Int.reduceBNe, Int.reduceToNat, IntKind.bits, Int.reduceAdd, Int.reduceSub, Int.reduceMul, Int.reduceTDiv, Int.reduceTMod, R7B, take_add, List.append_assoc, List.length_append, Nat.add_assoc, shrink_lit, ball_app, RG, LPB, wrows_len, q2_0, o2_0, q2_1, o2_1, q2_w, o2_w, q4_0, o4_0, q4_1, o4_1, q4_2, o4_2, q4_3, o4_3, q4_w, o4_w, q7_0, q7_1, q7_2, q7_3, q7_4, q7_5, q7_6, q7_w, o7_w, extF_none, extF_some, hp, hl1, z6, o6, LPB]
        done
      | false =>
        simp only [hb, hp, Bool.and_false, if_true, Bool.false_eq_true, if_false, implies_true, true_and]
        simp only [RB, pickV, eqbV, notV, negV, convV, faddrV, fldV, idxV, eqaggV, iaddrV, isnilV, nilckV, pnilV, cloV, extrV, slenV, minV, sidxV, abin, cmpInt, params, growLists, fillCells, newAt, rdPtr, wrPtr, AV.cells, asVal, lenOf, boundOf, rowsOf, argIds, freshIn, scalar1, setAll, AV.isData, AV.isYld, Nat.reduceAdd, Nat.reduceMul, Nat.reduceSub, Nat.reduceEqDiff, Nat.reduceLeDiff, Nat.reduceLT, Int.reduceNeg, ↓reduceIte, reduceCtorEq, Int.reduceEq, Int.reduceLT, Int.reduceLE, Int.reduceBEq, Int.reduceBNe, Int.reduceToNat, IntKind.bits, Int.reduceAdd, Int.reduceSub, Int.reduceMul, Int.reduceTDiv, Int.reduceTMod, R7B, take_add, List.append_assoc, List.length_append, Nat.add_assoc, shrink_lit, ball_app, RG, LPB, wrows_len, q2_0, o2_0, q2_1, o2_1, q2_w, o2_w, q4_0, o4_0, q4_1, o4_1, q4_2, o4_2, q4_3, o4_3, q4_w, o4_w, q7_0, q7_1, q7_2, q7_3, q7_4, q7_5, q7_6, q7_w, o7_w, extF_none, extF_some, hp, hl1, z6, o6, LPB]
        done
    | false =>
      simp only [hb, Bool.false_and, if_true, Bool.false_eq_true, if_false, implies_true, true_and]
      simp only [RB, pickV, eqbV, notV, negV, convV, faddrV, fldV, idxV, eqaggV, iaddrV, isnilV, nilckV, pnilV, cloV, extrV, slenV, minV, sidxV, abin, cmpInt, params, growLists, fillCells, newAt, rdPtr, wrPtr, AV.cells, asVal, lenOf, boundOf, rowsOf, argIds, freshIn, scalar1, setAll, AV.isData, AV.isYld, Nat.reduceAdd, Nat.reduceMul, Nat.reduceSub, Nat.reduceEqDiff, Nat.reduceLeDiff, Nat.reduceLT, Int.reduceNeg, ↓reduceIte, reduceCtorEq, Int.reduceEq, Int.reduceLT, Int.reduceLE, Int.reduceBEq, Int.reduceBNe, Int.reduceToNat, IntKind.bits, Int.reduceAdd, Int.reduceSub, Int.reduceMul, Int.reduceTDiv, Int.reduceTMod, R7B, take_add, List.append_assoc, List.length_append, Nat.add_assoc, shrink_lit, ball_app, RG, LPB, wrows_len, q2_0, o2_0, q2_1, o2_1, q2_w, o2_w, q4_0, o4_0, q4_1, o4_1, q4_2, o4_2, q4_3, o4_3, q4_w, o4_w, q7_0, q7_1, q7_2, q7_3, q7_4, q7_5, q7_6, q7_w, o7_w, extF_none, extF_some, hl1, z6, o6, LPB]
      done
  · rw [foldU_fnd]
    have z6 : 0 < rest.length + 6 := by omega
    have o6 : 1 < rest.length + 6 := by omega
    cases hf : fnd place (pcs 16 bks) with
    | none =>
      simp only [RB, pickV, eqbV, notV, negV, convV, faddrV, fldV, idxV, eqaggV, iaddrV, isnilV, nilckV, pnilV, cloV, extrV, slenV, minV, sidxV, abin, cmpInt, params, growLists, fillCells, newAt, rdPtr, wrPtr, AV.cells, asVal, lenOf, boundOf, rowsOf, argIds, freshIn, scalar1, setAll, AV.isData, AV.isYld, Nat.reduceAdd, Nat.reduceMul, Nat.reduceSub, Nat.reduceEqDiff, Nat.reduceLeDiff, Nat.reduceLT, Int.reduceNeg, ↓reduceIte, reduceCtorEq, Int.reduceEq, Int.reduceLT, Int.reduceLE, Int.reduceBEq, Int.reduceBNe, Int.reduceToNat, IntKind.bits, Int.reduceAdd, Int.reduceSub, Int.reduceMul, Int.reduceTDiv, Int.reduceTMod, R7B, take_add, List.append_assoc, List.length_append, Nat.add_assoc, shrink_lit, ball_app, RG, LPB, wrows_len, q2_0, o2_0, q2_1, o2_1, q2_w, o2_w, q4_0, o4_0, q4_1, o4_1, q4_2, o4_2, q4_3, o4_3, q4_w, o4_w, q7_0, q7_1, q7_2, q7_3, q7_4, q7_5, q7_6, q7_w, o7_w, extF_none, extF_some, fndV, hl1, z6, o6, LPB]
      done
    | some x =>
      simp only [RB, pickV, eqbV, notV, negV, convV, faddrV, fldV, idxV, eqaggV, iaddrV, isnilV, nilckV, pnilV, cloV, extrV, slenV, minV, sidxV, abin, cmpInt, params, growLists, fillCells, newAt, rdPtr, wrPtr, AV.cells, asVal, lenOf, boundOf, rowsOf, argIds, freshIn, scalar1, setAll, AV.isData, AV.isYld, Nat.reduceAdd, Nat.reduceMul, Nat.reduceSub, Nat.reduceEqDiff, Nat.reduceLeDiff, Nat.reduceLT, Int.reduceNeg, ↓reduceIte, reduceCtorEq, Int.reduceEq, Int.reduceLT, Int.reduceLE, Int.reduceBEq, Int.reduceBNe, Int.reduceToNat, IntKind.bits, Int.reduceAdd, Int.reduceSub, Int.reduceMul, Int.reduceTDiv, Int.reduceTMod, R7B, take_add, List.append_assoc, List.length_append, Nat.add_assoc, shrink_lit, ball_app, RG, LPB, wrows_len, q2_0, o2_0, q2_1, o2_1, q2_w, o2_w, q4_0, o4_0, q4_1, o4_1, q4_2, o4_2, q4_3, o4_3, q4_w, o4_w, q7_0, q7_1, q7_2, q7_3, q7_4, q7_5, q7_6, q7_w, o7_w, extF_none, extF_some, fndV, hl1, z6, o6, LPB]
      done
end Go.Proofs.Ytncppbkhnafpnaa.F

/- A word of an arena: word, Load, Store, Class, lies, of. No condition. -/
set_option linter.unusedSimpArgs false
namespace Go.Proofs.Ytncppbkhnafpnaa.D
open Go Go.Proofs.Ytncppbkhnafpnaa.A
theorem pcs_mem {l : List Int} {x : Nat × Bk} : ∀ {bs : List Bk} {p e : Nat}, Chn l p bs e → x ∈ pcs p bs → p + 1 ≤ x.1 ∧ x.1 + 2 ^ x.2.1 ≤ e ∧ x.2.1 ≤ 5 ∧ wrd l (x.1 - 1) = hdw x.2
  | [], p, e, _, h => by cases h
  | b :: bs, p, e, hc, h => by
    obtain ⟨h1, h2, h3⟩ := hc
    rcases List.mem_cons.1 h with rfl | h
    · have := Chn.le h3
      exact ⟨Nat.le_refl _, by simp only; omega, h1, by simpa using h2⟩
    · obtain ⟨k1, k2, k3⟩ := pcs_mem h3 h
      exact ⟨by have := Nat.one_le_two_pow (n := b.1); omega, k2, k3⟩
theorem fnd_spec {l : List Int} {bks : List Bk} {place : Int} {x : Nat × Bk} (hA : ArOk l bks) (h : fnd place (pcs 16 bks) = some x) : (x.1 : Int) = place ∧ x.2.2 = true ∧ x.2.1 ≤ 5 ∧ 17 ≤ x.1 ∧ x.1 + 2 ^ x.2.1 ≤ l.length ∧ x ∈ pcs 16 bks := by
  unfold fnd at h
  have h1 := List.mem_of_find?_eq_some h
  have h2 := List.find?_some h
  simp only [Bool.and_eq_true, beq_iff_eq] at h2
  obtain ⟨k1, k2, k3, _⟩ := pcs_mem hA.chn h1
  have := hA.edge
  exact ⟨h2.2, h2.1, k3, by omega, by omega, h1⟩
def wordS (bks : List Bk) (place i : Int) : Int × Option Nat := match fnd place (pcs 16 bks) with
  | none => (4, none)
  | some x => if i < 0 ∨ ((2 ^ x.2.1 : Nat) : Int) ≤ i then (2, none) else (0, some (x.1 + i.toNat))
def wordV (r : Int × Option Nat) : AV := .tup [match r.2 with
  | some j => .ptr 0 0 j 0
  | none => .nilp, .int .i64 r.1]
theorem wordS_lt {l : List Int} {bks : List Bk} {place i : Int} (hA : ArOk l bks) {j : Nat} (h : (wordS bks place i).2 = some j) : j < l.length ∧ (wordS bks place i).1 = 0 := by
  unfold wordS at h ⊢
  cases hf : fnd place (pcs 16 bks) with
  | none => rw [hf] at h; cases h
  | some x =>
    rw [hf] at h
    obtain ⟨_, _, _, _, k, _⟩ := fnd_spec hA hf
    simp only at h ⊢
    split at h
    · cases h
    · rename_i hn
      rw [if_neg hn]
      cases h
      exact ⟨by omega, rfl⟩
theorem wordS_none {bks : List Bk} {place i : Int} (h : (wordS bks place i).2 = none) : (wordS bks place i).1 ≠ 0 := by
  unfold wordS at h ⊢
  cases hf : fnd place (pcs 16 bks) with
  | none => simp
  | some x =>
    rw [hf] at h
    simp only at h ⊢
    split at h
    · rename_i hn; rw [if_pos hn]; simp
    · cases h
end Go.Proofs.Ytncppbkhnafpnaa.D
namespace Go.Proofs.Ytncppbkhnafpnaa.F
open Go Go.Proofs.Ytncppbkhnafpnaa.A Go.Proofs.Ytncppbkhnafpnaa.D
section
variable {l : List Int} {bks : List Bk} {lk lk1 : Nat} {rest : List Blk} (hA : ArOk l bks) (hlow : belowAll (rest.length + 2) rest = true)
include hA hlow
theorem r36 (place i : Int) : ∃ ext, LR E [] 36 [.ptr 1 0 0 0, .int .i64 place, .int .i64 i] ⟨.lst lk 0 23 1 (wrows l) :: .box lk1 78 [.lis 0 0 0 l.length] :: rest, []⟩ = some (wordV (wordS bks place i), ⟨(.lst lk 0 23 1 (wrows l) :: .box lk1 78 [.lis 0 0 0 l.length] :: rest) ++ ext, []⟩) := by
  obtain ⟨ext, h40⟩ := r40 (lk := lk) (lk1 := lk1) hA (rest := rest ++ [Blk.dead]) (by simp only [List.length_append, List.length_singleton]; rw [ball_app, belowAll_mono (by omega) hlow]; rfl) place
  rw [LR_R (fn := f36) rfl rfl rfl]
  have z2 : 0 < rest.length + 3 := by omega
  have o2 : 1 < rest.length + 3 := by omega
  have hl1 : belowAll (rest.length + 3) rest = true := belowAll_mono (by omega) hlow
  simp only [List.append_assoc, List.cons_append, List.nil_append] at h40
  unfold wordS
  cases hf : fnd place (pcs 16 bks) with
  | none =>
    rw [hf] at h40
    unfold fndV at h40
    simp only at h40
    simp only [f36, RB, pickV, eqbV, notV, negV, convV, faddrV, fldV, idxV, eqaggV, iaddrV, isnilV, nilckV, pnilV, cloV, extrV, slenV, minV, sidxV, abin, cmpInt, params, growLists, fillCells, newAt, rdPtr, wrPtr, AV.cells, asVal, lenOf, boundOf, rowsOf, argIds, freshIn, scalar1, setAll, AV.isData, AV.isYld, Nat.reduceAdd, Nat.reduceMul, Nat.reduceSub, Nat.reduceEqDiff, Nat.reduceLeDiff, Nat.reduceLT, Int.reduceNeg, ↓reduceIte, reduceCtorEq, Int.reduceEq, Int.reduceLT, Int.reduceLE, Int.reduceBEq, Int.reduceBNe, Int.reduceToNat, IntKind.bits, Int.reduceAdd, Int.reduceSub, Int.reduceMul, Int.reduceTDiv, Int.reduceTMod, R7B, take_add, List.append_assoc, List.length_append, Nat.add_assoc, shrink_lit, ball_app, RG, LPB, wrows_len, q2_0, o2_0, q2_1, o2_1, q2_w, o2_w, q4_0, o4_0, q4_1, o4_1, q4_2, o4_2, q4_3, o4_3, q4_w, o4_w, q7_0, q7_1, q7_2, q7_3, q7_4, q7_5, q7_6, q7_w, o7_w, h40, z2, o2, hl1, LPB, wordV]
    exact ⟨_, rfl⟩
  | some x =>
    rw [hf] at h40
    unfold fndV at h40
    simp only at h40
    obtain ⟨k1, k2, k3, k4, k5, _⟩ := fnd_spec hA hf
    have h34 := e34 k3
    have hhi := hA.hi
    have hpw := pow_le k3
    simp only
    generalize 2 ^ x.2.1 = X at *
    by_cases h1 : i < 0
    · rw [if_pos (.inl h1)]
      simp only [f36, RB, pickV, eqbV, notV, negV, convV, faddrV, fldV, idxV, eqaggV, iaddrV, isnilV, nilckV, pnilV, cloV, extrV, slenV, minV, sidxV, abin, cmpInt, params, growLists, fillCells, newAt, rdPtr, wrPtr, AV.cells, asVal, lenOf, boundOf, rowsOf, argIds, freshIn, scalar1, setAll, AV.isData, AV.isYld, Nat.reduceAdd, Nat.reduceMul, Nat.reduceSub, Nat.reduceEqDiff, Nat.reduceLeDiff, Nat.reduceLT, Int.reduceNeg, ↓reduceIte, reduceCtorEq, Int.reduceEq, Int.reduceLT, Int.reduceLE, Int.reduceBEq, Int.reduceBNe, Int.reduceToNat, IntKind.bits, Int.reduceAdd, Int.reduceSub, Int.reduceMul, Int.reduceTDiv, Int.reduceTMod, R7B, take_add, List.append_assoc, List.length_append, Nat.add_assoc, shrink_lit, ball_app, RG, LPB, wrows_len, q2_0, o2_0, q2_1, o2_1, q2_w, o2_w, q4_0, o4_0, q4_1, o4_1, q4_2, o4_2, q4_3, o4_3, q4_w, o4_w, q7_0, q7_1, q7_2, q7_3, q7_4, q7_5, q7_6, q7_w, o7_w, h40, z2, o2, hl1, LPB, wordV, h34, h1]
      exact ⟨_, rfl⟩
    · by_cases h2 : (X : Int) ≤ i
      · rw [if_pos (.inr h2)]
        simp only [f36, RB, pickV, eqbV, notV, negV, convV, faddrV, fldV, idxV, eqaggV, iaddrV, isnilV, nilckV, pnilV, cloV, extrV, slenV, minV, sidxV, abin, cmpInt, params, growLists, fillCells, newAt, rdPtr, wrPtr, AV.cells, asVal, lenOf, boundOf, rowsOf, argIds, freshIn, scalar1, setAll, AV.isData, AV.isYld, Nat.reduceAdd, Nat.reduceMul, Nat.reduceSub, Nat.reduceEqDiff, Nat.reduceLeDiff, Nat.reduceLT, Int.reduceNeg, ↓reduceIte, reduceCtorEq, Int.reduceEq, Int.reduceLT, Int.reduceLE, Int.reduceBEq, Int.reduceBNe, Int.reduceToNat, IntKind.bits, Int.reduceAdd, Int.reduceSub, Int.reduceMul, Int.reduceTDiv, Int.reduceTMod, R7B, take_add, List.append_assoc, List.length_append, Nat.add_assoc, shrink_lit, ball_app, RG, LPB, wrows_len, q2_0, o2_0, q2_1, o2_1, q2_w, o2_w, q4_0, o4_0, q4_1, o4_1, q4_2, o4_2, q4_3, o4_3, q4_w, o4_w, q7_0, q7_1, q7_2, q7_3, q7_4, q7_5, q7_6, q7_w, o7_w, h40, z2, o2, hl1, LPB, wordV, h34, h1, h2]
        exact ⟨_, rfl⟩
      · rw [if_neg (by omega)]
        have a1 : IntKind.i64.wrap (place + i) = ((x.1 + i.toNat : Nat) : Int) := by rw [IntWalk.i64_in _ (by omega)]; omega
        have a2 : (0 : Int) ≤ ((x.1 + i.toNat : Nat) : Int) := by omega
        have a3 : x.1 + i.toNat < l.length := by omega
        simp only [f36, RB, pickV, eqbV, notV, negV, convV, faddrV, fldV, idxV, eqaggV, iaddrV, isnilV, nilckV, pnilV, cloV, extrV, slenV, minV, sidxV, abin, cmpInt, params, growLists, fillCells, newAt, rdPtr, wrPtr, AV.cells, asVal, lenOf, boundOf, rowsOf, argIds, freshIn, scalar1, setAll, AV.isData, AV.isYld, Nat.reduceAdd, Nat.reduceMul, Nat.reduceSub, Nat.reduceEqDiff, Nat.reduceLeDiff, Nat.reduceLT, Int.reduceNeg, ↓reduceIte, reduceCtorEq, Int.reduceEq, Int.reduceLT, Int.reduceLE, Int.reduceBEq, Int.reduceBNe, Int.reduceToNat, IntKind.bits, Int.reduceAdd, Int.reduceSub, Int.reduceMul, Int.reduceTDiv, Int.reduceTMod, R7B, take_add, List.append_assoc, List.length_append, Nat.add_assoc, shrink_lit, ball_app, RG, LPB, wrows_len, q2_0, o2_0, q2_1, o2_1, q2_w, o2_w, q4_0, o4_0, q4_1, o4_1, q4_2, o4_2, q4_3, o4_3, q4_w, o4_w, q7_0, q7_1, q7_2, q7_3, q7_4, q7_5, q7_6, q7_w, o7_w, h40, z2, o2, hl1, LPB, wordV, h34, h1, h2, a1, a2, a3, lisFits]
        exact ⟨_, rfl⟩
theorem r15 (place i : Int) : ∃ ext, LR E [] 15 [.ptr 1 0 0 0, .int .i64 place, .int .i64 i] ⟨.lst lk 0 23 1 (wrows l) :: .box lk1 78 [.lis 0 0 0 l.length] :: rest, []⟩ =
    some (.tup [.int .u32 (match (wordS bks place i).2 with
      | some j => wrd l j
      | none => 0), .int .i64 (wordS bks place i).1], ⟨(.lst lk 0 23 1 (wrows l) :: .box lk1 78 [.lis 0 0 0 l.length] :: rest) ++ ext, []⟩) := by
  obtain ⟨ext, h36⟩ := r36 (lk := lk) (lk1 := lk1) hA hlow place i
  rw [LR_R (fn := f15) rfl rfl rfl]
  simp only [List.append_assoc, List.cons_append, List.nil_append] at h36
  unfold wordV at h36
  have hn := wordS_none (bks := bks) (place := place) (i := i)
  have hs := @wordS_lt l bks place i hA
  generalize wordS bks place i = W at *
  obtain ⟨e, j⟩ := W
  cases j with
  | none =>
    have he : (e != 0) = true := bne_iff_ne.2 (hn rfl)
    simp only at h36
    simp only [f15, RB, pickV, eqbV, notV, negV, convV, faddrV, fldV, idxV, eqaggV, iaddrV, isnilV, nilckV, pnilV, cloV, extrV, slenV, minV, sidxV, abin, cmpInt, params, growLists, fillCells, newAt, rdPtr, wrPtr, AV.cells, asVal, lenOf, boundOf, rowsOf, argIds, freshIn, scalar1, setAll, AV.isData, AV.isYld, Nat.reduceAdd, Nat.reduceMul, Nat.reduceSub, Nat.reduceEqDiff, Nat.reduceLeDiff, Nat.reduceLT, Int.reduceNeg, ↓reduceIte, reduceCtorEq, Int.reduceEq, Int.reduceLT, Int.reduceLE, Int.reduceBEq, Int.reduceBNe, Int.reduceToNat, IntKind.bits, Int.reduceAdd, Int.reduceSub, Int.reduceMul, Int.reduceTDiv, Int.reduceTMod, R7B, take_add, List.append_assoc, List.length_append, Nat.add_assoc, shrink_lit, ball_app, RG, LPB, wrows_len, q2_0, o2_0, q2_1, o2_1, q2_w, o2_w, q4_0, o4_0, q4_1, o4_1, q4_2, o4_2, q4_3, o4_3, q4_w, o4_w, q7_0, q7_1, q7_2, q7_3, q7_4, q7_5, q7_6, q7_w, o7_w, h36, he]
    exact ⟨_, rfl⟩
  | some j =>
    obtain ⟨k1, rfl⟩ := hs rfl
    simp only at h36
    have wj := wrows_get l k1
    simp only [f15, RB, pickV, eqbV, notV, negV, convV, faddrV, fldV, idxV, eqaggV, iaddrV, isnilV, nilckV, pnilV, cloV, extrV, slenV, minV, sidxV, abin, cmpInt, params, growLists, fillCells, newAt, rdPtr, wrPtr, AV.cells, asVal, lenOf, boundOf, rowsOf, argIds, freshIn, scalar1, setAll, AV.isData, AV.isYld, Nat.reduceAdd, Nat.reduceMul, Nat.reduceSub, Nat.reduceEqDiff, Nat.reduceLeDiff, Nat.reduceLT, Int.reduceNeg, ↓reduceIte, reduceCtorEq, Int.reduceEq, Int.reduceLT, Int.reduceLE, Int.reduceBEq, Int.reduceBNe, Int.reduceToNat, IntKind.bits, Int.reduceAdd, Int.reduceSub, Int.reduceMul, Int.reduceTDiv, Int.reduceTMod, R7B, take_add, List.append_assoc, List.length_append, Nat.add_assoc, shrink_lit, ball_app, RG, LPB, wrows_len, q2_0, o2_0, q2_1, o2_1, q2_w, o2_w, q4_0, o4_0, q4_1, o4_1, q4_2, o4_2, q4_3, o4_3, q4_w, o4_w, q7_0, q7_1, q7_2, q7_3, q7_4, q7_5, q7_6, q7_w, o7_w, h36, wj, bne_self_eq_false]
    exact ⟨_, rfl⟩
theorem r12 (place i x : Int) : ∃ ext, LR E [] 12 [.ptr 1 0 0 0, .int .i64 place, .int .i64 i, .int .u32 x] ⟨.lst 0 0 23 1 (wrows l) :: .box lk1 78 [.lis 0 0 0 l.length] :: rest, []⟩ =
    some (.int .i64 (wordS bks place i).1, ⟨(.lst 0 0 23 1 (wrows (match (wordS bks place i).2 with
      | some j => l.set j x
      | none => l)) :: .box lk1 78 [.lis 0 0 0 l.length] :: rest) ++ ext, []⟩) := by
  obtain ⟨ext, h36⟩ := r36 (lk := 0) (lk1 := lk1) hA hlow place i
  rw [LR_R (fn := f12) rfl rfl rfl]
  simp only [List.append_assoc, List.cons_append, List.nil_append] at h36
  unfold wordV at h36
  have hn := wordS_none (bks := bks) (place := place) (i := i)
  have hs := @wordS_lt l bks place i hA
  generalize wordS bks place i = W at *
  obtain ⟨e, j⟩ := W
  cases j with
  | none =>
    have he : (e == 0) = false := by rw [beq_eq_false_iff_ne]; exact hn rfl
    simp only at h36
    simp only [f12, RB, pickV, eqbV, notV, negV, convV, faddrV, fldV, idxV, eqaggV, iaddrV, isnilV, nilckV, pnilV, cloV, extrV, slenV, minV, sidxV, abin, cmpInt, params, growLists, fillCells, newAt, rdPtr, wrPtr, AV.cells, asVal, lenOf, boundOf, rowsOf, argIds, freshIn, scalar1, setAll, AV.isData, AV.isYld, Nat.reduceAdd, Nat.reduceMul, Nat.reduceSub, Nat.reduceEqDiff, Nat.reduceLeDiff, Nat.reduceLT, Int.reduceNeg, ↓reduceIte, reduceCtorEq, Int.reduceEq, Int.reduceLT, Int.reduceLE, Int.reduceBEq, Int.reduceBNe, Int.reduceToNat, IntKind.bits, Int.reduceAdd, Int.reduceSub, Int.reduceMul, Int.reduceTDiv, Int.reduceTMod, R7B, take_add, List.append_assoc, List.length_append, Nat.add_assoc, shrink_lit, ball_app, RG, LPB, wrows_len, q2_0, o2_0, q2_1, o2_1, q2_w, o2_w, q4_0, o4_0, q4_1, o4_1, q4_2, o4_2, q4_3, o4_3, q4_w, o4_w, q7_0, q7_1, q7_2, q7_3, q7_4, q7_5, q7_6, q7_w, o7_w, h36, he]
    exact ⟨_, rfl⟩
  | some j =>
    obtain ⟨k1, rfl⟩ := hs rfl
    simp only at h36
    have wj := wrows_get l k1
    have o1 : ovr [AV.int .u32 (wrd l j)] 0 [AV.int .u32 x] = some [AV.int .u32 x] := rfl
    have ds : dataL [AV.int .u32 x] = true := rfl
    simp only [f12, RB, pickV, eqbV, notV, negV, convV, faddrV, fldV, idxV, eqaggV, iaddrV, isnilV, nilckV, pnilV, cloV, extrV, slenV, minV, sidxV, abin, cmpInt, params, growLists, fillCells, newAt, rdPtr, wrPtr, AV.cells, asVal, lenOf, boundOf, rowsOf, argIds, freshIn, scalar1, setAll, AV.isData, AV.isYld, Nat.reduceAdd, Nat.reduceMul, Nat.reduceSub, Nat.reduceEqDiff, Nat.reduceLeDiff, Nat.reduceLT, Int.reduceNeg, ↓reduceIte, reduceCtorEq, Int.reduceEq, Int.reduceLT, Int.reduceLE, Int.reduceBEq, Int.reduceBNe, Int.reduceToNat, IntKind.bits, Int.reduceAdd, Int.reduceSub, Int.reduceMul, Int.reduceTDiv, Int.reduceTMod, R7B, take_add, List.append_assoc, List.length_append, Nat.add_assoc, shrink_lit, ball_app, RG, LPB, wrows_len, q2_0, o2_0, q2_1, o2_1, q2_w, o2_w, q4_0, o4_0, q4_1, o4_1, q4_2, o4_2, q4_3, o4_3, q4_w, o4_w, q7_0, q7_1, q7_2, q7_3, q7_4, q7_5, q7_6, q7_w, o7_w, h36, wj, beq_self_eq_true, o1, ds, wrows_set]
    exact ⟨_, rfl⟩
theorem r20 (place : Int) : ∃ ext, LR E [] 20 [.ptr 1 0 0 0, .int .i64 place] ⟨.lst lk 0 23 1 (wrows l) :: .box lk1 78 [.lis 0 0 0 l.length] :: rest, []⟩ =
    some (match fnd place (pcs 16 bks) with
      | some x => .tup [.int .i64 (x.2.1 : Nat), .bool true]
      | none => .tup [.int .i64 0, .bool false], ⟨(.lst lk 0 23 1 (wrows l) :: .box lk1 78 [.lis 0 0 0 l.length] :: rest) ++ ext, []⟩) := by
  obtain ⟨ext, h40⟩ := r40 (lk := lk) (lk1 := lk1) hA (rest := rest ++ [Blk.dead]) (by simp only [List.length_append, List.length_singleton]; rw [ball_app, belowAll_mono (by omega) hlow]; rfl) place
  rw [LR_R (fn := f20) rfl rfl rfl]
  have z2 : 0 < rest.length + 3 := by omega
  have o2 : 1 < rest.length + 3 := by omega
  have hl1 : belowAll (rest.length + 3) rest = true := belowAll_mono (by omega) hlow
  simp only [List.append_assoc, List.cons_append, List.nil_append] at h40
  cases hf : fnd place (pcs 16 bks) <;>
  · rw [hf] at h40
    unfold fndV at h40
    simp only at h40
    simp only [f20, RB, pickV, eqbV, notV, negV, convV, faddrV, fldV, idxV, eqaggV, iaddrV, isnilV, nilckV, pnilV, cloV, extrV, slenV, minV, sidxV, abin, cmpInt, params, growLists, fillCells, newAt, rdPtr, wrPtr, AV.cells, asVal, lenOf, boundOf, rowsOf, argIds, freshIn, scalar1, setAll, AV.isData, AV.isYld, Nat.reduceAdd, Nat.reduceMul, Nat.reduceSub, Nat.reduceEqDiff, Nat.reduceLeDiff, Nat.reduceLT, Int.reduceNeg, ↓reduceIte, reduceCtorEq, Int.reduceEq, Int.reduceLT, Int.reduceLE, Int.reduceBEq, Int.reduceBNe, Int.reduceToNat, IntKind.bits, Int.reduceAdd, Int.reduceSub, Int.reduceMul, Int.reduceTDiv, Int.reduceTMod, R7B, take_add, List.append_assoc, List.length_append, Nat.add_assoc, shrink_lit, ball_app, RG, LPB, wrows_len, q2_0, o2_0, q2_1, o2_1, q2_w, o2_w, q4_0, o4_0, q4_1, o4_1, q4_2, o4_2, q4_3, o4_3, q4_w, o4_w, q7_0, q7_1, q7_2, q7_3, q7_4, q7_5, q7_6, q7_w, o7_w, h40, z2, o2, hl1, LPB]
    exact ⟨_, rfl⟩
theorem r41 (place : Int) : ∃ ext, LR E [] 41 [.ptr 1 0 0 0, .int .i64 place] ⟨.lst lk 0 23 1 (wrows l) :: .box lk1 78 [.lis 0 0 0 l.length] :: rest, []⟩ =
    some (.bool ((fnd place (pcs 16 bks)).isSome || place == 0), ⟨(.lst lk 0 23 1 (wrows l) :: .box lk1 78 [.lis 0 0 0 l.length] :: rest) ++ ext, []⟩) := by
  obtain ⟨ext, h40⟩ := r40 (lk := lk) (lk1 := lk1) hA (rest := rest ++ [Blk.dead]) (by simp only [List.length_append, List.length_singleton]; rw [ball_app, belowAll_mono (by omega) hlow]; rfl) place
  rw [LR_R (fn := f41) rfl rfl rfl]
  have z2 : 0 < rest.length + 3 := by omega
  have o2 : 1 < rest.length + 3 := by omega
  have hl1 : belowAll (rest.length + 3) rest = true := belowAll_mono (by omega) hlow
  simp only [List.append_assoc, List.cons_append, List.nil_append] at h40
  cases hf : fnd place (pcs 16 bks) with
  | none =>
    rw [hf] at h40
    unfold fndV at h40
    simp only at h40
    simp only [f41, RB, pickV, eqbV, notV, negV, convV, faddrV, fldV, idxV, eqaggV, iaddrV, isnilV, nilckV, pnilV, cloV, extrV, slenV, minV, sidxV, abin, cmpInt, params, growLists, fillCells, newAt, rdPtr, wrPtr, AV.cells, asVal, lenOf, boundOf, rowsOf, argIds, freshIn, scalar1, setAll, AV.isData, AV.isYld, Nat.reduceAdd, Nat.reduceMul, Nat.reduceSub, Nat.reduceEqDiff, Nat.reduceLeDiff, Nat.reduceLT, Int.reduceNeg, ↓reduceIte, reduceCtorEq, Int.reduceEq, Int.reduceLT, Int.reduceLE, Int.reduceBEq, Int.reduceBNe, Int.reduceToNat, IntKind.bits, Int.reduceAdd, Int.reduceSub, Int.reduceMul, Int.reduceTDiv, Int.reduceTMod, R7B, take_add, List.append_assoc, List.length_append, Nat.add_assoc, shrink_lit, ball_app, RG, LPB, wrows_len, q2_0, o2_0, q2_1, o2_1, q2_w, o2_w, q4_0, o4_0, q4_1, o4_1, q4_2, o4_2, q4_3, o4_3, q4_w, o4_w, q7_0, q7_1, q7_2, q7_3, q7_4, q7_5, q7_6, q7_w, o7_w, h40, z2, o2, hl1, LPB, Option.isSome_none, Bool.false_or]
    exact ⟨_, rfl⟩
  | some x =>
    rw [hf] at h40
    unfold fndV at h40
    simp only at h40
    simp only [f41, RB, pickV, eqbV, notV, negV, convV, faddrV, fldV, idxV, eqaggV, iaddrV, isnilV, nilckV, pnilV, cloV, extrV, slenV, minV, sidxV, abin, cmpInt, params, growLists, fillCells, newAt, rdPtr, wrPtr, AV.cells, asVal, lenOf, boundOf, rowsOf, argIds, freshIn, scalar1, setAll, AV.isData, AV.isYld, Nat.reduceAdd, Nat.reduceMul, Nat.reduceSub, Nat.reduceEqDiff, Nat.reduceLeDiff, Nat.reduceLT, Int.reduceNeg, ↓reduceIte, reduceCtorEq, Int.reduceEq, Int.reduceLT, Int.reduceLE, Int.reduceBEq, Int.reduceBNe, Int.reduceToNat, IntKind.bits, Int.reduceAdd, Int.reduceSub, Int.reduceMul, Int.reduceTDiv, Int.reduceTMod, R7B, take_add, List.append_assoc, List.length_append, Nat.add_assoc, shrink_lit, ball_app, RG, LPB, wrows_len, q2_0, o2_0, q2_1, o2_1, q2_w, o2_w, q4_0, o4_0, q4_1, o4_1, q4_2, o4_2, q4_3, o4_3, q4_w, o4_w, q7_0, q7_1, q7_2, q7_3, q7_4, q7_5, q7_6, q7_w, o7_w, h40, z2, o2, hl1, LPB, Option.isSome_some, Bool.true_or]
    exact ⟨_, rfl⟩
end
/-- A block's words. -/
theorem r35 {l : List Int} {lk lk1 c p : Nat} {rest : List Blk} (hc : c ≤ 5) (hp : p + 2 ^ c ≤ l.length) (hl : l.length ≤ 16384) : ∃ ext, LR E [] 35 [.ptr 1 0 0 0, .agg [.int .i64 (p : Nat), .int .i64 (c : Nat)]] ⟨.lst lk 0 23 1 (wrows l) :: .box lk1 78 [.lis 0 0 0 l.length] :: rest, []⟩ =
    some (.lis 0 0 p (2 ^ c), ⟨(.lst lk 0 23 1 (wrows l) :: .box lk1 78 [.lis 0 0 0 l.length] :: rest) ++ ext, []⟩) := by
  rw [LR_R (fn := f35) rfl rfl rfl]
  have h34 := e34 hc
  generalize 2 ^ c = X at *
  have a1 : IntKind.i64.wrap ((p : Int) + (X : Nat)) = ((p + X : Nat) : Int) := by rw [IntWalk.i64_in _ (by omega)]; omega
  have a2 : (0 : Int) ≤ (p : Int) := by omega
  have a3 : (0 : Int) ≤ ((p + X : Nat) : Int) := by omega
  have a4 : p ≤ p + X ∧ p + X ≤ l.length := ⟨by omega, hp⟩
  simp only [f35, RB, pickV, eqbV, notV, negV, convV, faddrV, fldV, idxV, eqaggV, iaddrV, isnilV, nilckV, pnilV, cloV, extrV, slenV, minV, sidxV, abin, cmpInt, params, growLists, fillCells, newAt, rdPtr, wrPtr, AV.cells, asVal, lenOf, boundOf, rowsOf, argIds, freshIn, scalar1, setAll, AV.isData, AV.isYld, Nat.reduceAdd, Nat.reduceMul, Nat.reduceSub, Nat.reduceEqDiff, Nat.reduceLeDiff, Nat.reduceLT, Int.reduceNeg, ↓reduceIte, reduceCtorEq, Int.reduceEq, Int.reduceLT, Int.reduceLE, Int.reduceBEq, Int.reduceBNe, Int.reduceToNat, IntKind.bits, Int.reduceAdd, Int.reduceSub, Int.reduceMul, Int.reduceTDiv, Int.reduceTMod, R7B, take_add, List.append_assoc, List.length_append, Nat.add_assoc, shrink_lit, ball_app, RG, LPB, wrows_len, q2_0, o2_0, q2_1, o2_1, q2_w, o2_w, q4_0, o4_0, q4_1, o4_1, q4_2, o4_2, q4_3, o4_3, q4_w, o4_w, q7_0, q7_1, q7_2, q7_3, q7_4, q7_5, q7_6, q7_w, o7_w, h34, a1, a2, a3, aslice, lenOf, boundOf, lisFits, if_pos a4, Nat.add_sub_cancel_left]
  exact ⟨_, rfl⟩
end Go.Proofs.Ytncppbkhnafpnaa.F

/- Two words of the head: Root, Fence, Raise, Left. No condition. -/
set_option linter.unusedSimpArgs false
namespace Go.Proofs.Ytncppbkhnafpnaa.D
open Go Go.Proofs.Ytncppbkhnafpnaa.A
def two64 (l : List Int) (i : Nat) : Int := wrd l i * 4294967296 + wrd l (i + 1)
def put64 (l : List Int) (i : Nat) (x : Int) : List Int := (l.set i (x / 4294967296)).set (i + 1) (x % 4294967296)
end Go.Proofs.Ytncppbkhnafpnaa.D
namespace Go.Proofs.Ytncppbkhnafpnaa.F
open Go Go.Proofs.Ytncppbkhnafpnaa.A Go.Proofs.Ytncppbkhnafpnaa.D
theorem LR_prim {E : Env} {ys : List Hd} {hp : Hp} {f : FuncId} {args : List AV} {p : List AV → List Blk → Option (AV × List Blk)} (h1 : E.prim f = some p) (ha : args.any AV.isYld = false) : LR E ys f args hp = (p args hp.bs).map fun r => (r.1, { hp with bs := r.2 }) := by
  rw [LR_eq, h1]; simp [ha]
section
variable {l : List Int} {lk lk1 : Nat} {rest : List Blk} {ys : List Hd} {pend : List (Option AExit)}
theorem r39 (hlo : 64 ≤ l.length) {i : Nat} (hi : i + 2 ≤ 16) : LR E ys 39 [.ptr 1 0 0 0, .int .i64 (i : Nat)] ⟨.lst lk 0 23 1 (wrows l) :: .box lk1 78 [.lis 0 0 0 l.length] :: rest, pend⟩ = some (.ptr 0 0 i 0, ⟨.lst lk 0 23 1 (wrows l) :: .box lk1 78 [.lis 0 0 0 l.length] :: rest, pend⟩) := by
  rw [LR_prim (p := pPair) rfl rfl]
  have h : True ∧ (0 : Int) ≤ (i : Nat) ∧ ((i : Nat) : Int) + 2 ≤ (l.length : Nat) ∧ l.length ≤ (wrows l).length := ⟨trivial, by omega, by omega, by rw [wrows_len]; exact Nat.le_refl _⟩
  unfold pPair
  simp only [List.getElem?_cons_succ, List.getElem?_cons_zero]
  rw [if_pos h]
  simp
theorem r38 (hw : WOk l) {i : Nat} (hi : i + 1 < l.length) : LR E ys 38 [.ptr 0 0 i 0] ⟨.lst lk 0 23 1 (wrows l) :: .box lk1 78 [.lis 0 0 0 l.length] :: rest, pend⟩ = some (.int .u64 (two64 l i), ⟨.lst lk 0 23 1 (wrows l) :: .box lk1 78 [.lis 0 0 0 l.length] :: rest, pend⟩) := by
  rw [LR_prim (p := pTwo) rfl rfl]
  unfold pTwo
  simp only [List.getElem?_cons_zero, wrows_get l (show i < l.length by omega), wrows_get l hi]
  rw [if_pos ⟨trivial, hw i, hw (i + 1)⟩]
  rfl
theorem r42 {i : Nat} (hi : i + 2 ≤ l.length) {x : Int} (hx : 0 ≤ x ∧ x ≤ 18446744073709551615) : LR E ys 42 [.ptr 0 0 i 0, .int .u64 x] ⟨.lst 0 0 23 1 (wrows l) :: .box lk1 78 [.lis 0 0 0 l.length] :: rest, pend⟩ = some (.tup [], ⟨.lst 0 0 23 1 (wrows (put64 l i x)) :: .box lk1 78 [.lis 0 0 0 l.length] :: rest, pend⟩) := by
  rw [LR_prim (p := pPut) rfl rfl]
  unfold pPut
  simp only [List.getElem?_cons_zero]
  rw [if_pos ⟨trivial, by rw [wrows_len]; exact hi, hx⟩, wrows_set, wrows_set]
  rfl
end
theorem lockQ_ar {l : List Int} {lk lk1 n : Nat} {rest : List Blk} : (Blk.lst lk 0 23 1 (wrows l) :: Blk.box lk1 78 [.lis 0 0 0 n] :: rest).map lockQ = .lst 2 0 23 1 (wrows l) :: .box 2 78 [.lis 0 0 0 n] :: rest.map lockQ := rfl
section
variable {l : List Int} {lk lk1 : Nat} {rest : List Blk} {pend : List (Option AExit)} (hw : WOk l) (hlo : 64 ≤ l.length) (hhi : l.length ≤ 16384)
include hw hlo hhi
theorem r24 : LR E [] 24 [.ptr 1 0 0 0] ⟨.lst lk 0 23 1 (wrows l) :: .box lk1 78 [.lis 0 0 0 l.length] :: rest, pend⟩ = some (.int .u64 (two64 l 7), ⟨.lst lk 0 23 1 (wrows l) :: .box lk1 78 [.lis 0 0 0 l.length] :: rest, pend⟩) := by
  rw [LR_R (fn := f24) rfl rfl rfl]
  have h39 : ∀ {lk lk1 rest}, LR E [] 39 [.ptr 1 0 0 0, .int .i64 7] ⟨.lst lk 0 23 1 (wrows l) :: .box lk1 78 [.lis 0 0 0 l.length] :: rest, []⟩ = _ := fun {lk lk1 rest} => r39 (l := l) (lk := lk) (lk1 := lk1) (rest := rest) (ys := []) (pend := []) hlo (i := 7) (by decide)
  have h38 := fun {lk lk1 rest} => r38 (l := l) (lk := lk) (lk1 := lk1) (rest := rest) (ys := []) (pend := []) hw (i := 7) (by omega)
  simp only [f24, RB, pickV, eqbV, notV, negV, convV, faddrV, fldV, idxV, eqaggV, iaddrV, isnilV, nilckV, pnilV, cloV, extrV, slenV, minV, sidxV, abin, cmpInt, params, growLists, fillCells, newAt, rdPtr, wrPtr, AV.cells, asVal, lenOf, boundOf, rowsOf, argIds, freshIn, scalar1, setAll, AV.isData, AV.isYld, Nat.reduceAdd, Nat.reduceMul, Nat.reduceSub, Nat.reduceEqDiff, Nat.reduceLeDiff, Nat.reduceLT, Int.reduceNeg, ↓reduceIte, reduceCtorEq, Int.reduceEq, Int.reduceLT, Int.reduceLE, Int.reduceBEq, Int.reduceBNe, Int.reduceToNat, IntKind.bits, Int.reduceAdd, Int.reduceSub, Int.reduceMul, Int.reduceTDiv, Int.reduceTMod, R7B, take_add, List.append_assoc, List.length_append, Nat.add_assoc, shrink_lit, ball_app, RG, LPB, wrows_len, q2_0, o2_0, q2_1, o2_1, q2_w, o2_w, q4_0, o4_0, q4_1, o4_1, q4_2, o4_2, q4_3, o4_3, q4_w, o4_w, q7_0, q7_1, q7_2, q7_3, q7_4, q7_5, q7_6, q7_w, o7_w, h39, h38, lockQ, List.map_cons, List.map_nil, List.map_append, scalarQ, scalar, ptrQ, beq_self_eq_true, Bool.or_true, Bool.and_self]
theorem r19 (hhi : l.length ≤ 16384) : ∃ ext, LR E [] 19 [.ptr 1 0 0 0] ⟨.lst lk 0 23 1 (wrows l) :: .box lk1 78 [.lis 0 0 0 l.length] :: rest, pend⟩ = some (.agg [.int .u64 (two64 l 1), .int .u64 (two64 l 3), .int .i64 (wrd l 5), .int .i64 (wrd l 6)], ⟨(.lst lk 0 23 1 (wrows l) :: .box lk1 78 [.lis 0 0 0 l.length] :: rest) ++ ext, pend⟩) := by
  rw [LR_R (fn := f19) rfl rfl rfl]
  have h39 : ∀ {lk lk1 rest}, LR E [] 39 [.ptr 1 0 0 0, .int .i64 1] ⟨.lst lk 0 23 1 (wrows l) :: .box lk1 78 [.lis 0 0 0 l.length] :: rest, []⟩ = _ := fun {lk lk1 rest} => r39 (l := l) (lk := lk) (lk1 := lk1) (rest := rest) (ys := []) (pend := []) hlo (i := 1) (by decide)
  have h38 := fun {lk lk1 rest} => r38 (l := l) (lk := lk) (lk1 := lk1) (rest := rest) (ys := []) (pend := []) hw (i := 1) (by omega)
  have g39 : ∀ {lk lk1 rest}, LR E [] 39 [.ptr 1 0 0 0, .int .i64 3] ⟨.lst lk 0 23 1 (wrows l) :: .box lk1 78 [.lis 0 0 0 l.length] :: rest, []⟩ = _ := fun {lk lk1 rest} => r39 (l := l) (lk := lk) (lk1 := lk1) (rest := rest) (ys := []) (pend := []) hlo (i := 3) (by decide)
  have g38 := fun {lk lk1 rest} => r38 (l := l) (lk := lk) (lk1 := lk1) (rest := rest) (ys := []) (pend := []) hw (i := 3) (by omega)
  have w5 := wrows_get l (show 5 < l.length by omega)
  have w6 := wrows_get l (show 6 < l.length by omega)
  have n5 : 5 < l.length := by omega
  have n6 : 6 < l.length := by omega
  have b5 := hw 5
  have b6 := hw 6
  have c5 : IntKind.i64.wrap (wrd l 5) = wrd l 5 := IntWalk.i64_in _ (by omega)
  have c6 : IntKind.i64.wrap (wrd l 6) = wrd l 6 := IntWalk.i64_in _ (by omega)
  simp only [f19, RB, pickV, eqbV, notV, negV, convV, faddrV, fldV, idxV, eqaggV, iaddrV, isnilV, nilckV, pnilV, cloV, extrV, slenV, minV, sidxV, abin, cmpInt, params, growLists, fillCells, newAt, rdPtr, wrPtr, AV.cells, asVal, lenOf, boundOf, rowsOf, argIds, freshIn, scalar1, setAll, AV.isData, AV.isYld, Nat.reduceAdd, Nat.reduceMul, Nat.reduceSub, Nat.reduceEqDiff, Nat.reduceLeDiff, Nat.reduceLT, Int.reduceNeg, ↓reduceIte, reduceCtorEq, Int.reduceEq, Int.reduceLT, Int.reduceLE, Int.reduceBEq, Int.reduceBNe, Int.reduceToNat, IntKind.bits, Int.reduceAdd, Int.reduceSub, Int.reduceMul, Int.reduceTDiv, Int.reduceTMod, R7B, take_add, List.append_assoc, List.length_append, Nat.add_assoc, shrink_lit, ball_app, RG, LPB, wrows_len, q2_0, o2_0, q2_1, o2_1, q2_w, o2_w, q4_0, o4_0, q4_1, o4_1, q4_2, o4_2, q4_3, o4_3, q4_w, o4_w, q7_0, q7_1, q7_2, q7_3, q7_4, q7_5, q7_6, q7_w, o7_w, h39, h38, g39, g38, lockQ, List.map_cons, List.map_nil, List.map_append, scalarQ, scalar, ptrQ, beq_self_eq_true, Bool.or_true, Bool.and_self, w5, w6, n5, n6, c5, c6, lisFits]
  exact ⟨_, rfl⟩
theorem r16 : LR E [] 16 [.ptr 1 0 0 0] ⟨.lst lk 0 23 1 (wrows l) :: .box lk1 78 [.lis 0 0 0 l.length] :: rest, pend⟩ = some (.int .i64 ((l.length : Int) - wrd l 15), ⟨.lst lk 0 23 1 (wrows l) :: .box lk1 78 [.lis 0 0 0 l.length] :: rest, pend⟩) := by
  rw [LR_R (fn := f16) rfl rfl rfl]
  have w5 := wrows_get l (show 15 < l.length by omega)
  have n5 : 15 < l.length := by omega
  have b5 := hw 15
  have c5 : IntKind.i64.wrap (wrd l 15) = wrd l 15 := IntWalk.i64_in _ (by omega)
  have c6 : IntKind.i64.wrap ((l.length : Int) - wrd l 15) = (l.length : Int) - wrd l 15 := IntWalk.i64_in _ (by omega)
  simp only [f16, RB, pickV, eqbV, notV, negV, convV, faddrV, fldV, idxV, eqaggV, iaddrV, isnilV, nilckV, pnilV, cloV, extrV, slenV, minV, sidxV, abin, cmpInt, params, growLists, fillCells, newAt, rdPtr, wrPtr, AV.cells, asVal, lenOf, boundOf, rowsOf, argIds, freshIn, scalar1, setAll, AV.isData, AV.isYld, Nat.reduceAdd, Nat.reduceMul, Nat.reduceSub, Nat.reduceEqDiff, Nat.reduceLeDiff, Nat.reduceLT, Int.reduceNeg, ↓reduceIte, reduceCtorEq, Int.reduceEq, Int.reduceLT, Int.reduceLE, Int.reduceBEq, Int.reduceBNe, Int.reduceToNat, IntKind.bits, Int.reduceAdd, Int.reduceSub, Int.reduceMul, Int.reduceTDiv, Int.reduceTMod, R7B, take_add, List.append_assoc, List.length_append, Nat.add_assoc, shrink_lit, ball_app, RG, LPB, wrows_len, q2_0, o2_0, q2_1, o2_1, q2_w, o2_w, q4_0, o4_0, q4_1, o4_1, q4_2, o4_2, q4_3, o4_3, q4_w, o4_w, q7_0, q7_1, q7_2, q7_3, q7_4, q7_5, q7_6, q7_w, o7_w, w5, n5, c5, c6, lisFits]
theorem r23 (hlow : belowAll (rest.length + 2) rest = true) {x : Int} (hx : 0 ≤ x ∧ x ≤ 18446744073709551615) : LR E [] 23 [.ptr 1 0 0 0, .int .u64 x] ⟨.lst 0 0 23 1 (wrows l) :: .box lk1 78 [.lis 0 0 0 l.length] :: rest, pend⟩ =
    some (.int .i64 (if x < two64 l 7 then 161 else 0), ⟨.lst 0 0 23 1 (wrows (if x < two64 l 7 then l else put64 l 7 x)) :: .box lk1 78 [.lis 0 0 0 l.length] :: rest, pend⟩) := by
  rw [LR_R (fn := f23) rfl rfl rfl]
  have h39 : ∀ {lk lk1 rest}, LR E [] 39 [.ptr 1 0 0 0, .int .i64 7] ⟨.lst lk 0 23 1 (wrows l) :: .box lk1 78 [.lis 0 0 0 l.length] :: rest, []⟩ = _ := fun {lk lk1 rest} => r39 (l := l) (lk := lk) (lk1 := lk1) (rest := rest) (ys := []) (pend := []) hlo (i := 7) (by decide)
  have h38 := fun {lk lk1 rest} => r38 (l := l) (lk := lk) (lk1 := lk1) (rest := rest) (ys := []) (pend := []) hw (i := 7) (by omega)
  have h42 := fun {lk1 rest pend} => r42 (l := l) (lk1 := lk1) (rest := rest) (ys := []) (pend := pend) (i := 7) (by omega) hx
  by_cases h1 : x < two64 l 7
  · simp only [f23, RB, pickV, eqbV, notV, negV, convV, faddrV, fldV, idxV, eqaggV, iaddrV, isnilV, nilckV, pnilV, cloV, extrV, slenV, minV, sidxV, abin, cmpInt, params, growLists, fillCells, newAt, rdPtr, wrPtr, AV.cells, asVal, lenOf, boundOf, rowsOf, argIds, freshIn, scalar1, setAll, AV.isData, AV.isYld, Nat.reduceAdd, Nat.reduceMul, Nat.reduceSub, Nat.reduceEqDiff, Nat.reduceLeDiff, Nat.reduceLT, Int.reduceNeg, ↓reduceIte, reduceCtorEq, Int.reduceEq, Int.reduceLT, Int.reduceLE, Int.reduceBEq, Int.reduceBNe, Int.reduceToNat, IntKind.bits, Int.reduceAdd, Int.reduceSub, Int.reduceMul, Int.reduceTDiv, Int.reduceTMod, R7B, take_add, List.append_assoc, List.length_append, Nat.add_assoc, shrink_lit, ball_app, RG, LPB, wrows_len, q2_0, o2_0, q2_1, o2_1, q2_w, o2_w, q4_0, o4_0, q4_1, o4_1, q4_2, o4_2, q4_3, o4_3, q4_w, o4_w, q7_0, q7_1, q7_2, q7_3, q7_4, q7_5, q7_6, q7_w, o7_w, h39, h38, h42, lockQ, List.map_cons, List.map_nil, List.map_append, scalarQ, scalar, ptrQ, beq_self_eq_true, Bool.or_true, Bool.and_self, h1]
  · simp only [f23, RB, pickV, eqbV, notV, negV, convV, faddrV, fldV, idxV, eqaggV, iaddrV, isnilV, nilckV, pnilV, cloV, extrV, slenV, minV, sidxV, abin, cmpInt, params, growLists, fillCells, newAt, rdPtr, wrPtr, AV.cells, asVal, lenOf, boundOf, rowsOf, argIds, freshIn, scalar1, setAll, AV.isData, AV.isYld, Nat.reduceAdd, Nat.reduceMul, Nat.reduceSub, Nat.reduceEqDiff, Nat.reduceLeDiff, Nat.reduceLT, Int.reduceNeg, ↓reduceIte, reduceCtorEq, Int.reduceEq, Int.reduceLT, Int.reduceLE, Int.reduceBEq, Int.reduceBNe, Int.reduceToNat, IntKind.bits, Int.reduceAdd, Int.reduceSub, Int.reduceMul, Int.reduceTDiv, Int.reduceTMod, R7B, take_add, List.append_assoc, List.length_append, Nat.add_assoc, shrink_lit, ball_app, RG, LPB, wrows_len, q2_0, o2_0, q2_1, o2_1, q2_w, o2_w, q4_0, o4_0, q4_1, o4_1, q4_2, o4_2, q4_3, o4_3, q4_w, o4_w, q7_0, q7_1, q7_2, q7_3, q7_4, q7_5, q7_6, q7_w, o7_w, h39, h38, h42, lockQ, List.map_cons, List.map_nil, List.map_append, scalarQ, scalar, ptrQ, beq_self_eq_true, Bool.or_true, Bool.and_self, h1, hlow, List.take_length, show 0 < rest.length + 2 by omega]
end
end Go.Proofs.Ytncppbkhnafpnaa.F

/- Publish. No condition. -/
set_option linter.unusedSimpArgs false
namespace Go.Proofs.Ytncppbkhnafpnaa.D
open Go Go.Proofs.Ytncppbkhnafpnaa.A
theorem put64_len (l : List Int) (i : Nat) (x : Int) : (put64 l i x).length = l.length := by simp [put64]
def liesB (bks : List Bk) (x : Int) : Bool := (fnd x (pcs 16 bks)).isSome || x == 0
def pubL (l : List Int) (ver ep four six : Int) : List Int := ((put64 (put64 l 1 ver) 3 ep).set 5 (IntKind.u32.wrap four)).set 6 (IntKind.u32.wrap six)
theorem pubL_len (l : List Int) (ver ep four six : Int) : (pubL l ver ep four six).length = l.length := by simp [pubL, put64_len]
def pubS (l : List Int) (bks : List Bk) (ver ep four six : Int) : Int × List Int :=
  if ep < two64 l 7 then (161, l) else if ver = 0 ∨ ver - 1 ≠ two64 l 1 then (162, l) else if (liesB bks four && liesB bks six) = true then (0, pubL l ver ep four six) else (4, l)
end Go.Proofs.Ytncppbkhnafpnaa.D
namespace Go.Proofs.Ytncppbkhnafpnaa.F
open Go Go.Proofs.Ytncppbkhnafpnaa.A Go.Proofs.Ytncppbkhnafpnaa.D
set_option maxHeartbeats 1000000 in
theorem r22 {l : List Int} {bks : List Bk} {lk1 : Nat} {rest : List Blk} (hA : ArOk l bks) (hlow : belowAll (rest.length + 2) rest = true) {ver ep : Int} (four six : Int) (hv : 0 ≤ ver ∧ ver ≤ 18446744073709551615) (he : 0 ≤ ep ∧ ep ≤ 18446744073709551615) :
    ∃ ext, LR E [] 22 [.ptr 1 0 0 0, .agg [.int .u64 ver, .int .u64 ep, .int .i64 four, .int .i64 six]] ⟨.lst 0 0 23 1 (wrows l) :: .box lk1 78 [.lis 0 0 0 l.length] :: rest, []⟩ =
      some (.int .i64 (pubS l bks ver ep four six).1, ⟨(.lst 0 0 23 1 (wrows (pubS l bks ver ep four six).2) :: .box lk1 78 [.lis 0 0 0 l.length] :: rest) ++ ext, []⟩) := by
  have hw := hA.w
  have hlo := hA.lo
  rw [LR_R (fn := f22) rfl rfl rfl]
  have hl1 : belowAll (rest.length + 3) rest = true := belowAll_mono (by omega) hlow
  have hlow3 : belowAll ((rest ++ [Blk.box 0 46 [.int .u64 ver, .int .u64 ep, .int .i64 four, .int .i64 six]]).length + 2) (rest ++ [Blk.box 0 46 [.int .u64 ver, .int .u64 ep, .int .i64 four, .int .i64 six]]) = true := by
    rw [List.length_append, ball_app, belowAll_mono (by omega) hlow]; simp only [LPB, Bool.and_self]
  have h39 : ∀ {lk lk1 rest}, LR E [] 39 [.ptr 1 0 0 0, .int .i64 7] ⟨.lst lk 0 23 1 (wrows l) :: .box lk1 78 [.lis 0 0 0 l.length] :: rest, []⟩ = _ := fun {lk lk1 rest} => r39 (l := l) (lk := lk) (lk1 := lk1) (rest := rest) (ys := []) (pend := []) hlo (i := 7) (by decide)
  have h38 := fun {lk lk1 rest} => r38 (l := l) (lk := lk) (lk1 := lk1) (rest := rest) (ys := []) (pend := []) hw (i := 7) (by omega)
  have g39 : ∀ {lk lk1 rest}, LR E [] 39 [.ptr 1 0 0 0, .int .i64 1] ⟨.lst lk 0 23 1 (wrows l) :: .box lk1 78 [.lis 0 0 0 l.length] :: rest, []⟩ = _ := fun {lk lk1 rest} => r39 (l := l) (lk := lk) (lk1 := lk1) (rest := rest) (ys := []) (pend := []) hlo (i := 1) (by decide)
  have g38 := fun {lk lk1 rest} => r38 (l := l) (lk := lk) (lk1 := lk1) (rest := rest) (ys := []) (pend := []) hw (i := 1) (by omega)
  have z2 : 0 < rest.length + 3 := by omega
  unfold pubS
  by_cases c1 : ep < two64 l 7
  · rw [if_pos c1]
    simp only [f22, RB, pickV, eqbV, notV, negV, convV, faddrV, fldV, idxV, eqaggV, iaddrV, isnilV, nilckV, pnilV, cloV, extrV, slenV, minV, sidxV, abin, cmpInt, params, growLists, fillCells, newAt, rdPtr, wrPtr, AV.cells, asVal, lenOf, boundOf, rowsOf, argIds, freshIn, scalar1, setAll, AV.isData, AV.isYld, Nat.reduceAdd, Nat.reduceMul, Nat.reduceSub, Nat.reduceEqDiff, Nat.reduceLeDiff, Nat.reduceLT, Int.reduceNeg, ↓reduceIte, reduceCtorEq, Int.reduceEq, Int.reduceLT, Int.reduceLE, Int.reduceBEq, Int.reduceBNe, Int.reduceToNat, IntKind.bits, Int.reduceAdd, Int.reduceSub, Int.reduceMul, Int.reduceTDiv, Int.reduceTMod, R7B, take_add, List.append_assoc, List.length_append, Nat.add_assoc, shrink_lit, ball_app, RG, LPB, wrows_len, q2_0, o2_0, q2_1, o2_1, q2_w, o2_w, q4_0, o4_0, q4_1, o4_1, q4_2, o4_2, q4_3, o4_3, q4_w, o4_w, q7_0, q7_1, q7_2, q7_3, q7_4, q7_5, q7_6, q7_w, o7_w, h39, h38, g39, g38, lockQ, List.map_cons, List.map_nil, List.map_append, scalarQ, scalar, ptrQ, beq_self_eq_true, Bool.or_true, Bool.and_self, c1]
    exact ⟨_, rfl⟩
  rw [if_neg c1]
  by_cases c2 : ver = 0
  · rw [if_pos (.inl c2)]
    subst c2
    simp only [f22, RB, pickV, eqbV, notV, negV, convV, faddrV, fldV, idxV, eqaggV, iaddrV, isnilV, nilckV, pnilV, cloV, extrV, slenV, minV, sidxV, abin, cmpInt, params, growLists, fillCells, newAt, rdPtr, wrPtr, AV.cells, asVal, lenOf, boundOf, rowsOf, argIds, freshIn, scalar1, setAll, AV.isData, AV.isYld, Nat.reduceAdd, Nat.reduceMul, Nat.reduceSub, Nat.reduceEqDiff, Nat.reduceLeDiff, Nat.reduceLT, Int.reduceNeg, ↓reduceIte, reduceCtorEq, Int.reduceEq, Int.reduceLT, Int.reduceLE, Int.reduceBEq, Int.reduceBNe, Int.reduceToNat, IntKind.bits, Int.reduceAdd, Int.reduceSub, Int.reduceMul, Int.reduceTDiv, Int.reduceTMod, R7B, take_add, List.append_assoc, List.length_append, Nat.add_assoc, shrink_lit, ball_app, RG, LPB, wrows_len, q2_0, o2_0, q2_1, o2_1, q2_w, o2_w, q4_0, o4_0, q4_1, o4_1, q4_2, o4_2, q4_3, o4_3, q4_w, o4_w, q7_0, q7_1, q7_2, q7_3, q7_4, q7_5, q7_6, q7_w, o7_w, h39, h38, g39, g38, lockQ, List.map_cons, List.map_nil, List.map_append, scalarQ, scalar, ptrQ, beq_self_eq_true, Bool.or_true, Bool.and_self, c1]
    exact ⟨_, rfl⟩
  have d2 : (ver == 0) = false := by rw [beq_eq_false_iff_ne]; exact c2
  have w1 : IntKind.u64.wrap (ver - 1) = ver - 1 := by rw [IntKind.wrap_u64]; omega
  by_cases c3 : ver - 1 ≠ two64 l 1
  · rw [if_pos (.inr c3)]
    have d3 : (ver - 1 != two64 l 1) = true := bne_iff_ne.2 c3
    simp only [f22, RB, pickV, eqbV, notV, negV, convV, faddrV, fldV, idxV, eqaggV, iaddrV, isnilV, nilckV, pnilV, cloV, extrV, slenV, minV, sidxV, abin, cmpInt, params, growLists, fillCells, newAt, rdPtr, wrPtr, AV.cells, asVal, lenOf, boundOf, rowsOf, argIds, freshIn, scalar1, setAll, AV.isData, AV.isYld, Nat.reduceAdd, Nat.reduceMul, Nat.reduceSub, Nat.reduceEqDiff, Nat.reduceLeDiff, Nat.reduceLT, Int.reduceNeg, ↓reduceIte, reduceCtorEq, Int.reduceEq, Int.reduceLT, Int.reduceLE, Int.reduceBEq, Int.reduceBNe, Int.reduceToNat, IntKind.bits, Int.reduceAdd, Int.reduceSub, Int.reduceMul, Int.reduceTDiv, Int.reduceTMod, R7B, take_add, List.append_assoc, List.length_append, Nat.add_assoc, shrink_lit, ball_app, RG, LPB, wrows_len, q2_0, o2_0, q2_1, o2_1, q2_w, o2_w, q4_0, o4_0, q4_1, o4_1, q4_2, o4_2, q4_3, o4_3, q4_w, o4_w, q7_0, q7_1, q7_2, q7_3, q7_4, q7_5, q7_6, q7_w, o7_w, h39, h38, g39, g38, lockQ, List.map_cons, List.map_nil, List.map_append, scalarQ, scalar, ptrQ, beq_self_eq_true, Bool.or_true, Bool.and_self, c1, d2, w1, d3]
    exact ⟨_, rfl⟩
  have c3 : ver - 1 = two64 l 1 := Classical.not_not.1 c3
  rw [if_neg (by omega)]
  obtain ⟨x1, h1⟩ := r41 (lk := 0) (lk1 := lk1) hA hlow3 four
  obtain ⟨x2, h2⟩ := r41 (lk := 0) (lk1 := lk1) hA hlow3 six
  simp only [List.append_assoc, List.cons_append, List.nil_append] at h1 h2
  rw [show ((fnd four (pcs 16 bks)).isSome || four == 0) = liesB bks four from rfl] at h1
  rw [show ((fnd six (pcs 16 bks)).isSome || six == 0) = liesB bks six from rfl] at h2
  have d3 : (ver - 1 != two64 l 1) = false := by rw [c3]; exact bne_self_eq_false _
  cases e1 : liesB bks four with
  | false =>
    rw [e1] at h1
    simp only [Bool.false_and, Bool.false_eq_true, if_false]
    simp only [f22, RB, pickV, eqbV, notV, negV, convV, faddrV, fldV, idxV, eqaggV, iaddrV, isnilV, nilckV, pnilV, cloV, extrV, slenV, minV, sidxV, abin, cmpInt, params, growLists, fillCells, newAt, rdPtr, wrPtr, AV.cells, asVal, lenOf, boundOf, rowsOf, argIds, freshIn, scalar1, setAll, AV.isData, AV.isYld, Nat.reduceAdd, Nat.reduceMul, Nat.reduceSub, Nat.reduceEqDiff, Nat.reduceLeDiff, Nat.reduceLT, Int.reduceNeg, ↓reduceIte, reduceCtorEq, Int.reduceEq, Int.reduceLT, Int.reduceLE, Int.reduceBEq, Int.reduceBNe, Int.reduceToNat, IntKind.bits, Int.reduceAdd, Int.reduceSub, Int.reduceMul, Int.reduceTDiv, Int.reduceTMod, R7B, take_add, List.append_assoc, List.length_append, Nat.add_assoc, shrink_lit, ball_app, RG, LPB, wrows_len, q2_0, o2_0, q2_1, o2_1, q2_w, o2_w, q4_0, o4_0, q4_1, o4_1, q4_2, o4_2, q4_3, o4_3, q4_w, o4_w, q7_0, q7_1, q7_2, q7_3, q7_4, q7_5, q7_6, q7_w, o7_w, h39, h38, g39, g38, h1, h2, hl1, z2, lockQ, List.map_cons, List.map_nil, List.map_append, scalarQ, scalar, ptrQ, beq_self_eq_true, Bool.or_true, Bool.and_self, c1, d2, w1, d3, LPB, List.take_length]
    exact ⟨_, rfl⟩
  | true =>
    rw [e1] at h1
    cases e2 : liesB bks six with
    | false =>
      rw [e2] at h2
      simp only [Bool.and_false, Bool.false_eq_true, if_false]
      simp only [f22, RB, pickV, eqbV, notV, negV, convV, faddrV, fldV, idxV, eqaggV, iaddrV, isnilV, nilckV, pnilV, cloV, extrV, slenV, minV, sidxV, abin, cmpInt, params, growLists, fillCells, newAt, rdPtr, wrPtr, AV.cells, asVal, lenOf, boundOf, rowsOf, argIds, freshIn, scalar1, setAll, AV.isData, AV.isYld, Nat.reduceAdd, Nat.reduceMul, Nat.reduceSub, Nat.reduceEqDiff, Nat.reduceLeDiff, Nat.reduceLT, Int.reduceNeg, ↓reduceIte, reduceCtorEq, Int.reduceEq, Int.reduceLT, Int.reduceLE, Int.reduceBEq, Int.reduceBNe, Int.reduceToNat, IntKind.bits, Int.reduceAdd, Int.reduceSub, Int.reduceMul, Int.reduceTDiv, Int.reduceTMod, R7B, take_add, List.append_assoc, List.length_append, Nat.add_assoc, shrink_lit, ball_app, RG, LPB, wrows_len, q2_0, o2_0, q2_1, o2_1, q2_w, o2_w, q4_0, o4_0, q4_1, o4_1, q4_2, o4_2, q4_3, o4_3, q4_w, o4_w, q7_0, q7_1, q7_2, q7_3, q7_4, q7_5, q7_6, q7_w, o7_w, h39, h38, g39, g38, h1, h2, hl1, z2, lockQ, List.map_cons, List.map_nil, List.map_append, scalarQ, scalar, ptrQ, beq_self_eq_true, Bool.or_true, Bool.and_self, c1, d2, w1, d3, LPB, List.take_length]
      exact ⟨_, rfl⟩
    | true =>
      rw [e2] at h2
      simp only [Bool.and_self, if_true]
      have h42 := fun {lk1 rest pend} => r42 (l := l) (lk1 := lk1) (rest := rest) (ys := []) (pend := pend) (i := 1) (by omega) hv
      have k39 : ∀ {lk lk1 rest}, LR E [] 39 [.ptr 1 0 0 0, .int .i64 3] ⟨.lst lk 0 23 1 (wrows (put64 l 1 ver)) :: .box lk1 78 [.lis 0 0 0 (put64 l 1 ver).length] :: rest, []⟩ = _ := fun {lk lk1 rest} => r39 (l := put64 l 1 ver) (lk := lk) (lk1 := lk1) (rest := rest) (ys := []) (pend := []) (by rw [put64_len]; exact hlo) (i := 3) (by decide)
      have k42 := fun {lk1 rest pend} => r42 (l := put64 l 1 ver) (lk1 := lk1) (rest := rest) (ys := []) (pend := pend) (i := 3) (by rw [put64_len]; omega) he
      rw [put64_len] at k39
      simp only [put64_len] at k42
      have w5 := wrows_get (put64 (put64 l 1 ver) 3 ep) (i := 5) (by simp only [put64_len]; omega)
      have w6 := wrows_get ((put64 (put64 l 1 ver) 3 ep).set 5 (IntKind.u32.wrap four)) (i := 6) (by simp only [put64_len, List.length_set]; omega)
      have n5 : 5 < l.length := by omega
      have n6 : 6 < l.length := by omega
      have zp : (rest.length + 2 == 0) = false := by rw [beq_eq_false_iff_ne]; omega
      have zq : (rest.length + 2 == rest.length + 3) = false := by rw [beq_eq_false_iff_ne]; omega
      have oo : ∀ a b : Int, ovr [AV.int .u32 a] 0 [AV.int .u32 b] = some [AV.int .u32 b] := fun _ _ => rfl
      have ds : ∀ a : Int, dataL [AV.int .u32 a] = true := fun _ => rfl
      simp only [f22, RB, pickV, eqbV, notV, negV, convV, faddrV, fldV, idxV, eqaggV, iaddrV, isnilV, nilckV, pnilV, cloV, extrV, slenV, minV, sidxV, abin, cmpInt, params, growLists, fillCells, newAt, rdPtr, wrPtr, AV.cells, asVal, lenOf, boundOf, rowsOf, argIds, freshIn, scalar1, setAll, AV.isData, AV.isYld, Nat.reduceAdd, Nat.reduceMul, Nat.reduceSub, Nat.reduceEqDiff, Nat.reduceLeDiff, Nat.reduceLT, Int.reduceNeg, ↓reduceIte, reduceCtorEq, Int.reduceEq, Int.reduceLT, Int.reduceLE, Int.reduceBEq, Int.reduceBNe, Int.reduceToNat, IntKind.bits, Int.reduceAdd, Int.reduceSub, Int.reduceMul, Int.reduceTDiv, Int.reduceTMod, R7B, take_add, List.append_assoc, List.length_append, Nat.add_assoc, shrink_lit, ball_app, RG, LPB, wrows_len, q2_0, o2_0, q2_1, o2_1, q2_w, o2_w, q4_0, o4_0, q4_1, o4_1, q4_2, o4_2, q4_3, o4_3, q4_w, o4_w, q7_0, q7_1, q7_2, q7_3, q7_4, q7_5, q7_6, q7_w, o7_w, h39, h38, g39, g38, h1, h2, hl1, z2, h42, k39, k42, lockQ, List.map_cons, List.map_nil, List.map_append, scalarQ, scalar, ptrQ, beq_self_eq_true, Bool.or_true, Bool.and_self, c1, d2, w1, d3, LPB, List.take_length, w5, w6, n5, n6, oo, ds, lisFits, wrows_set, zp, zq, pairOk, AV.ids, List.contains_cons, List.contains_nil, Nat.reduceBEq, List.all_cons, List.all_nil, Bool.or_self, Bool.not_false, Bool.and_self, Bool.or_false]
      exact ⟨_, rfl⟩
end Go.Proofs.Ytncppbkhnafpnaa.F

/- Alloc. No condition. -/
set_option linter.unusedSimpArgs false
namespace Go.Proofs.Ytncppbkhnafpnaa.D
open Go Go.Proofs.Ytncppbkhnafpnaa.A
/-- Words behind a block's taking. -/
def takeL' (l : List Int) (c p : Nat) : List Int := clr (l.set (p - 1) (17 + 2 * (c : Int))) p (2 ^ c)
def allocN (l : List Int) (c : Nat) : Int × Int × List Int :=
  if wrd l (9 + c) ≠ 0 then (wrd l (9 + c), 0, takeL' (l.set (9 + c) (wrd l (wrd l (9 + c)).toNat)) c (wrd l (9 + c)).toNat)
  else if (wrd l 15).toNat + 1 + 2 ^ c ≤ l.length then (wrd l 15 + 1, 0, takeL' (l.set 15 (((wrd l 15).toNat + 1 + 2 ^ c : Nat) : Int)) c ((wrd l 15).toNat + 1))
  else (0, 6, l)
def allocS (l : List Int) (c : Int) : Int × Int × List Int := if 0 ≤ c ∧ c ≤ 5 then allocN l c.toNat else (0, 2, l)
theorem clr_rows' {l : List Int} {i n : Nat} : (wrows l).take i ++ (List.replicate n [AV.int .u32 0] ++ (wrows l).drop (i + n)) = wrows (clr l i n) := by rw [← clr_rows, List.append_assoc]
/-- A list's head is no place, or one of a block. -/
def HdOk (l : List Int) (c : Nat) : Prop := wrd l (9 + c) = 0 ∨ (17 ≤ wrd l (9 + c) ∧ (wrd l (9 + c)).toNat + 2 ^ c ≤ l.length)
end Go.Proofs.Ytncppbkhnafpnaa.D
namespace Go.Proofs.Ytncppbkhnafpnaa.F
open Go Go.Proofs.Ytncppbkhnafpnaa.A Go.Proofs.Ytncppbkhnafpnaa.D
theorem aop_clear {zero : List AV} {x : Opd} {s : Nat} {T : Tm} {bs : List Blk} : aop (.clear zero x) s T bs = (match x.ev T with
    | .lis id gen off len => match bs[id]? with
      | some (.lst 0 g e k rows) => if g = gen ∧ off + len ≤ rows.length ∧ k = zero.length ∧ dataL zero = true then
          some (.tup [], bs.set id (.lst 0 g e k (rows.take off ++ List.replicate len zero ++ rows.drop (off + len)))) else none
      | _ => none
    | _ => none) := rfl
set_option maxHeartbeats 1000000 in
theorem r11n {l : List Int} {bks : List Bk} {lk1 : Nat} {rest : List Blk} (hA : ArOk l bks) (hlow : belowAll (rest.length + 2) rest = true) {c : Nat} (hc : c ≤ 5) (hH : HdOk l c) :
    ∃ ext, LR E [] 11 [.ptr 1 0 0 0, .int .i64 (c : Nat)] ⟨.lst 0 0 23 1 (wrows l) :: .box lk1 78 [.lis 0 0 0 l.length] :: rest, []⟩ =
      some (.tup [.int .i64 (allocN l c).1, .int .i64 (allocN l c).2.1], ⟨(.lst 0 0 23 1 (wrows (allocN l c).2.2) :: .box lk1 78 [.lis 0 0 0 l.length] :: rest) ++ ext, []⟩) := by
  have hw := hA.w
  have hlo := hA.lo
  have hhi := hA.hi
  rw [LR_R (fn := f11) rfl rfl rfl]
  have h33 := e33 (c : Int)
  rw [decide_eq_true (show (0 : Int) ≤ (c : Nat) ∧ ((c : Nat) : Int) ≤ 5 by omega)] at h33
  have h34 := e34 hc
  have hpw := pow_le hc
  have w9 := wrows_get l (show 9 + c < l.length by omega)
  have n9 : 9 + c < l.length := by omega
  have a9 : IntKind.i64.wrap (9 + ((c : Nat) : Int)) = ((9 + c : Nat) : Int) := by rw [IntWalk.i64_in _ (by omega)]; omega
  have b9 : (0 : Int) ≤ ((9 + c : Nat) : Int) := by omega
  have v9 := hw (9 + c)
  have c9 : IntKind.i64.wrap (wrd l (9 + c)) = wrd l (9 + c) := IntWalk.i64_in _ (by omega)
  have oo : ∀ a b : Int, ovr [AV.int .u32 a] 0 [AV.int .u32 b] = some [AV.int .u32 b] := fun _ _ => rfl
  have ds : ∀ a : Int, dataL [AV.int .u32 a] = true := fun _ => rfl
  have s1 : IntKind.u32.wrap ((c : Nat) : Int) = ((c : Nat) : Int) := by rw [IntKind.wrap_u32]; omega
  have s2 : IntKind.u32.wrap (((c : Nat) : Int) * 2 ^ Nat.min 1 32) = 2 * ((c : Nat) : Int) := by rw [IntKind.wrap_u32, show (2 : Int) ^ Nat.min 1 32 = 2 from rfl]; omega
  have s3 : IntKind.u32.wrap (16 + 2 * ((c : Nat) : Int)) = 16 + 2 * ((c : Nat) : Int) := by rw [IntKind.wrap_u32]; omega
  have s4 : IntKind.u32.wrap (16 + 2 * ((c : Nat) : Int) + 1) = 17 + 2 * ((c : Nat) : Int) := by rw [IntKind.wrap_u32]; omega
  unfold allocN
  by_cases h0 : wrd l (9 + c) = 0
  · rw [if_neg (not_not_intro h0)]
    have v15 := hw 15
    have hed := hA.edge
    have w15 := wrows_get l (show 15 < l.length by omega)
    have n15 : 15 < l.length := by omega
    obtain ⟨q, hq⟩ : ∃ q : Nat, wrd l 15 = (q : Int) := ⟨(wrd l 15).toNat, by omega⟩
    rw [h0] at w9 c9
    rw [hq] at w15 hed ⊢
    simp only [Int.toNat_natCast] at hed ⊢
    have c15 : IntKind.i64.wrap ((q : Nat) : Int) = ((q : Nat) : Int) := IntWalk.i64_in _ (by omega)
    have q1 : IntKind.i64.wrap (((q : Nat) : Int) + 1) = ((q + 1 : Nat) : Int) := by rw [IntWalk.i64_in _ (by omega)]; omega
    unfold takeL'
    generalize hX : 2 ^ c = X at *
    have q2 : IntKind.i64.wrap (((q + 1 : Nat) : Int) + (X : Nat)) = ((q + (1 + X) : Nat) : Int) := by rw [IntWalk.i64_in _ (by omega)]; omega
    rw [Nat.add_assoc]
    by_cases hf : q + (1 + X) ≤ l.length
    · rw [if_pos hf]
      have nf : ¬ ((l.length : Nat) : Int) < ((q + (1 + X) : Nat) : Int) := by omega
      have q3 : IntKind.u32.wrap ((q + (1 + X) : Nat) : Int) = ((q + (1 + X) : Nat) : Int) := by rw [IntKind.wrap_u32]; omega
      have q4 : IntKind.i64.wrap (((q + 1 : Nat) : Int) - 1) = ((q : Nat) : Int) := by rw [IntWalk.i64_in _ (by omega)]; omega
      have q5 : (0 : Int) ≤ ((q : Nat) : Int) := by omega
      have nq : q < l.length := by omega
      have wq := wrows_get (l.set 15 ((q + (1 + X) : Nat) : Int)) (i := q) (by simp only [List.length_set]; exact nq)
      have h35 := fun {rest} => r35 (l := (l.set 15 ((q + (1 + X) : Nat) : Int)).set q (17 + 2 * (c : Int))) (lk := 0) (lk1 := lk1) (c := c) (p := q + 1) (rest := rest) hc (by simp only [List.length_set]; rw [hX, Nat.add_assoc]; exact hf) (by simp only [List.length_set]; exact hhi)
      simp only [List.length_set] at h35
      obtain ⟨x35, h35⟩ := h35 (rest := rest ++ [.box 0 58 [.int .i64 ((q + 1 : Nat) : Int), .int .i64 (c : Nat)]])
      simp only [List.append_assoc, List.cons_append, List.nil_append, hX] at h35
      have e1 : ((q : Nat) : Int) + 1 = ((q + 1 : Nat) : Int) := by omega
      rw [e1, Nat.add_sub_cancel]
      have cr := clr_rows' (l := (l.set 15 ((q + (1 + X) : Nat) : Int)).set q (17 + 2 * (c : Int))) (i := q + 1) (n := X)
      rw [Nat.add_assoc] at cr
      simp only [f11, RB, pickV, eqbV, notV, negV, convV, faddrV, fldV, idxV, eqaggV, iaddrV, isnilV, nilckV, pnilV, cloV, extrV, slenV, minV, sidxV, abin, cmpInt, params, growLists, fillCells, newAt, rdPtr, wrPtr, AV.cells, asVal, lenOf, boundOf, rowsOf, argIds, freshIn, scalar1, setAll, AV.isData, AV.isYld, Nat.reduceAdd, Nat.reduceMul, Nat.reduceSub, Nat.reduceEqDiff, Nat.reduceLeDiff, Nat.reduceLT, Int.reduceNeg, ↓reduceIte, reduceCtorEq, Int.reduceEq, Int.reduceLT, Int.reduceLE, Int.reduceBEq, Int.reduceBNe, Int.reduceToNat, IntKind.bits, Int.reduceAdd, Int.reduceSub, Int.reduceMul, Int.reduceTDiv, Int.reduceTMod, R7B, take_add, List.append_assoc, List.length_append, Nat.add_assoc, shrink_lit, ball_app, RG, LPB, wrows_len, q2_0, o2_0, q2_1, o2_1, q2_w, o2_w, q4_0, o4_0, q4_1, o4_1, q4_2, o4_2, q4_3, o4_3, q4_w, o4_w, q7_0, q7_1, q7_2, q7_3, q7_4, q7_5, q7_6, q7_w, o7_w, h33, h34, w9, n9, a9, b9, c9, oo, ds, s1, s2, s3, s4, w15, n15, c15, q1, q2, q3, q4, q5, nf, nq, wq, h35, lisFits, wrows_set, aop_clear, List.length_set, hf, cr, bne_self_eq_false, LPB, pairOk, AV.ids, List.contains_cons, List.contains_nil, Nat.reduceBEq, List.all_cons, List.all_nil, Bool.or_self, Bool.not_false, Bool.and_self, Bool.or_false]
      exact ⟨_, rfl⟩
    · rw [if_neg hf]
      have nf : ((l.length : Nat) : Int) < ((q + (1 + X) : Nat) : Int) := by omega
      simp only [f11, RB, pickV, eqbV, notV, negV, convV, faddrV, fldV, idxV, eqaggV, iaddrV, isnilV, nilckV, pnilV, cloV, extrV, slenV, minV, sidxV, abin, cmpInt, params, growLists, fillCells, newAt, rdPtr, wrPtr, AV.cells, asVal, lenOf, boundOf, rowsOf, argIds, freshIn, scalar1, setAll, AV.isData, AV.isYld, Nat.reduceAdd, Nat.reduceMul, Nat.reduceSub, Nat.reduceEqDiff, Nat.reduceLeDiff, Nat.reduceLT, Int.reduceNeg, ↓reduceIte, reduceCtorEq, Int.reduceEq, Int.reduceLT, Int.reduceLE, Int.reduceBEq, Int.reduceBNe, Int.reduceToNat, IntKind.bits, Int.reduceAdd, Int.reduceSub, Int.reduceMul, Int.reduceTDiv, Int.reduceTMod, R7B, take_add, List.append_assoc, List.length_append, Nat.add_assoc, shrink_lit, ball_app, RG, LPB, wrows_len, q2_0, o2_0, q2_1, o2_1, q2_w, o2_w, q4_0, o4_0, q4_1, o4_1, q4_2, o4_2, q4_3, o4_3, q4_w, o4_w, q7_0, q7_1, q7_2, q7_3, q7_4, q7_5, q7_6, q7_w, o7_w, h33, h34, w9, n9, a9, b9, c9, oo, ds, w15, n15, c15, q1, q2, nf, lisFits, bne_self_eq_false, LPB, pairOk, AV.ids, List.contains_cons, List.contains_nil, Nat.reduceBEq, List.all_cons, List.all_nil, Bool.or_self, Bool.not_false, Bool.and_self, Bool.or_false]
      exact ⟨_, rfl⟩
  · rw [if_pos h0]
    obtain ⟨k1, k2⟩ := hH.resolve_left h0
    have d0 : (wrd l (9 + c) != 0) = true := bne_iff_ne.2 h0
    obtain ⟨p, hp⟩ : ∃ p : Nat, wrd l (9 + c) = (p : Int) := ⟨(wrd l (9 + c)).toNat, by omega⟩
    rw [hp] at k1 k2 d0 c9 w9 ⊢
    simp only [Int.toNat_natCast] at k2 ⊢
    have hpl : p < l.length := by have := pow_pos' c; omega
    have wp := wrows_get l hpl
    have bp : (0 : Int) ≤ ((p : Nat) : Int) := by omega
    have ap : IntKind.i64.wrap (((p : Nat) : Int) - 1) = ((p - 1 : Nat) : Int) := by rw [IntWalk.i64_in _ (by omega)]; omega
    have bp1 : (0 : Int) ≤ ((p - 1 : Nat) : Int) := by omega
    have np1 : p - 1 < l.length := by omega
    have wp1 := wrows_get (l.set (9 + c) (wrd l p)) (i := p - 1) (by simp only [List.length_set]; exact np1)
    have h35 := fun {rest} => r35 (l := (l.set (9 + c) (wrd l p)).set (p - 1) (17 + 2 * (c : Int))) (lk := 0) (lk1 := lk1) (c := c) (p := p) (rest := rest) hc (by simp only [List.length_set]; exact k2) (by simp only [List.length_set]; exact hhi)
    simp only [List.length_set] at h35
    obtain ⟨x35, h35⟩ := h35 (rest := rest ++ [.box 0 58 [.int .i64 (p : Nat), .int .i64 (c : Nat)]])
    simp only [List.append_assoc, List.cons_append, List.nil_append] at h35
    unfold takeL'
    generalize 2 ^ c = X at *
    simp only [f11, RB, pickV, eqbV, notV, negV, convV, faddrV, fldV, idxV, eqaggV, iaddrV, isnilV, nilckV, pnilV, cloV, extrV, slenV, minV, sidxV, abin, cmpInt, params, growLists, fillCells, newAt, rdPtr, wrPtr, AV.cells, asVal, lenOf, boundOf, rowsOf, argIds, freshIn, scalar1, setAll, AV.isData, AV.isYld, Nat.reduceAdd, Nat.reduceMul, Nat.reduceSub, Nat.reduceEqDiff, Nat.reduceLeDiff, Nat.reduceLT, Int.reduceNeg, ↓reduceIte, reduceCtorEq, Int.reduceEq, Int.reduceLT, Int.reduceLE, Int.reduceBEq, Int.reduceBNe, Int.reduceToNat, IntKind.bits, Int.reduceAdd, Int.reduceSub, Int.reduceMul, Int.reduceTDiv, Int.reduceTMod, R7B, take_add, List.append_assoc, List.length_append, Nat.add_assoc, shrink_lit, ball_app, RG, LPB, wrows_len, q2_0, o2_0, q2_1, o2_1, q2_w, o2_w, q4_0, o4_0, q4_1, o4_1, q4_2, o4_2, q4_3, o4_3, q4_w, o4_w, q7_0, q7_1, q7_2, q7_3, q7_4, q7_5, q7_6, q7_w, o7_w, h33, h34, w9, n9, a9, b9, c9, oo, ds, s1, s2, s3, s4, d0, hpl, wp, bp, ap, bp1, np1, wp1, h35, lisFits, wrows_set, aop_clear, List.length_set, k2, clr_rows', LPB, pairOk, AV.ids, List.contains_cons, List.contains_nil, Nat.reduceBEq, List.all_cons, List.all_nil, Bool.or_self, Bool.not_false, Bool.and_self, Bool.or_false]
    exact ⟨_, rfl⟩
theorem r11 {l : List Int} {bks : List Bk} {lk1 : Nat} {rest : List Blk} (hA : ArOk l bks) (hlow : belowAll (rest.length + 2) rest = true) (c : Int) (hH : ∀ c, c ≤ 5 → HdOk l c) :
    ∃ ext, LR E [] 11 [.ptr 1 0 0 0, .int .i64 c] ⟨.lst 0 0 23 1 (wrows l) :: .box lk1 78 [.lis 0 0 0 l.length] :: rest, []⟩ =
      some (.tup [.int .i64 (allocS l c).1, .int .i64 (allocS l c).2.1], ⟨(.lst 0 0 23 1 (wrows (allocS l c).2.2) :: .box lk1 78 [.lis 0 0 0 l.length] :: rest) ++ ext, []⟩) := by
  unfold allocS
  by_cases hc : 0 ≤ c ∧ c ≤ 5
  · rw [if_pos hc]
    obtain ⟨n, rfl⟩ : ∃ n : Nat, c = (n : Int) := ⟨c.toNat, by omega⟩
    rw [Int.toNat_natCast]
    exact r11n hA hlow (by omega) (hH n (by omega))
  · rw [if_neg hc]
    have h33 := e33 c
    rw [decide_eq_false hc] at h33
    rw [LR_R (fn := f11) rfl rfl rfl]
    simp only [f11, RB, pickV, eqbV, notV, negV, convV, faddrV, fldV, idxV, eqaggV, iaddrV, isnilV, nilckV, pnilV, cloV, extrV, slenV, minV, sidxV, abin, cmpInt, params, growLists, fillCells, newAt, rdPtr, wrPtr, AV.cells, asVal, lenOf, boundOf, rowsOf, argIds, freshIn, scalar1, setAll, AV.isData, AV.isYld, Nat.reduceAdd, Nat.reduceMul, Nat.reduceSub, Nat.reduceEqDiff, Nat.reduceLeDiff, Nat.reduceLT, Int.reduceNeg, ↓reduceIte, reduceCtorEq, Int.reduceEq, Int.reduceLT, Int.reduceLE, Int.reduceBEq, Int.reduceBNe, Int.reduceToNat, IntKind.bits, Int.reduceAdd, Int.reduceSub, Int.reduceMul, Int.reduceTDiv, Int.reduceTMod, R7B, take_add, List.append_assoc, List.length_append, Nat.add_assoc, shrink_lit, ball_app, RG, LPB, wrows_len, q2_0, o2_0, q2_1, o2_1, q2_w, o2_w, q4_0, o4_0, q4_1, o4_1, q4_2, o4_2, q4_3, o4_3, q4_w, o4_w, q7_0, q7_1, q7_2, q7_3, q7_4, q7_5, q7_6, q7_w, o7_w, h33]
    exact ⟨[], by rw [List.append_nil]⟩
end Go.Proofs.Ytncppbkhnafpnaa.F

/- Free. No condition. -/
set_option linter.unusedSimpArgs false
namespace Go.Proofs.Ytncppbkhnafpnaa.D
open Go Go.Proofs.Ytncppbkhnafpnaa.A
def giveL (l : List Int) (c p : Nat) : List Int := (((clr l p (2 ^ c)).set p (wrd l (9 + c))).set (p - 1) (16 + 2 * (c : Int))).set (9 + c) (p : Int)
def freeS (l : List Int) (bks : List Bk) (place : Int) : Int × List Int := match fnd place (pcs 16 bks) with
  | none => (4, l)
  | some x => if (x.1 : Int) = wrd l 5 ∨ (x.1 : Int) = wrd l 6 then (2, l) else (0, giveL l x.2.1 x.1)
theorem hdw_off {c : Nat} (h : c ≤ 5) : bits2 .andNot .u32 (hdw (c, true)) 1 = some (16 + 2 * (c : Int)) := by
  rcases (show c = 0 ∨ c = 1 ∨ c = 2 ∨ c = 3 ∨ c = 4 ∨ c = 5 by omega) with rfl | rfl | rfl | rfl | rfl | rfl <;> decide
end Go.Proofs.Ytncppbkhnafpnaa.D
namespace Go.Proofs.Ytncppbkhnafpnaa.F
open Go Go.Proofs.Ytncppbkhnafpnaa.A Go.Proofs.Ytncppbkhnafpnaa.D
set_option maxHeartbeats 1000000 in
theorem r21 {l : List Int} {bks : List Bk} {lk1 : Nat} {rest : List Blk} (hA : ArOk l bks) (hlow : belowAll (rest.length + 2) rest = true) (place : Int) :
    ∃ ext, LR E [] 21 [.ptr 1 0 0 0, .int .i64 place] ⟨.lst 0 0 23 1 (wrows l) :: .box lk1 78 [.lis 0 0 0 l.length] :: rest, []⟩ =
      some (.int .i64 (freeS l bks place).1, ⟨(.lst 0 0 23 1 (wrows (freeS l bks place).2) :: .box lk1 78 [.lis 0 0 0 l.length] :: rest) ++ ext, []⟩) := by
  have hw := hA.w
  have hlo := hA.lo
  have hhi := hA.hi
  obtain ⟨ext, h40⟩ := r40 (lk := 0) (lk1 := lk1) hA (rest := rest ++ [Blk.dead]) (by simp only [List.length_append, List.length_singleton]; rw [ball_app, belowAll_mono (by omega) hlow]; rfl) place
  rw [LR_R (fn := f21) rfl rfl rfl]
  have z2 : 0 < rest.length + 3 := by omega
  have o2 : 1 < rest.length + 3 := by omega
  have hl1 : belowAll (rest.length + 3) rest = true := belowAll_mono (by omega) hlow
  simp only [List.append_assoc, List.cons_append, List.nil_append] at h40
  unfold freeS
  cases hf : fnd place (pcs 16 bks) with
  | none =>
    rw [hf] at h40
    unfold fndV at h40
    simp only at h40
    simp only [f21, RB, pickV, eqbV, notV, negV, convV, faddrV, fldV, idxV, eqaggV, iaddrV, isnilV, nilckV, pnilV, cloV, extrV, slenV, minV, sidxV, abin, cmpInt, params, growLists, fillCells, newAt, rdPtr, wrPtr, AV.cells, asVal, lenOf, boundOf, rowsOf, argIds, freshIn, scalar1, setAll, AV.isData, AV.isYld, Nat.reduceAdd, Nat.reduceMul, Nat.reduceSub, Nat.reduceEqDiff, Nat.reduceLeDiff, Nat.reduceLT, Int.reduceNeg, ↓reduceIte, reduceCtorEq, Int.reduceEq, Int.reduceLT, Int.reduceLE, Int.reduceBEq, Int.reduceBNe, Int.reduceToNat, IntKind.bits, Int.reduceAdd, Int.reduceSub, Int.reduceMul, Int.reduceTDiv, Int.reduceTMod, R7B, take_add, List.append_assoc, List.length_append, Nat.add_assoc, shrink_lit, ball_app, RG, LPB, wrows_len, q2_0, o2_0, q2_1, o2_1, q2_w, o2_w, q4_0, o4_0, q4_1, o4_1, q4_2, o4_2, q4_3, o4_3, q4_w, o4_w, q7_0, q7_1, q7_2, q7_3, q7_4, q7_5, q7_6, q7_w, o7_w, h40, z2, o2, hl1, LPB]
    exact ⟨_, rfl⟩
  | some x =>
    rw [hf] at h40
    unfold fndV at h40
    simp only at h40
    obtain ⟨k1, k2, k3, k4, k5, hm⟩ := fnd_spec hA hf
    obtain ⟨_, _, _, hhd⟩ := pcs_mem hA.chn hm
    obtain ⟨p, c, t⟩ := x
    simp only at k1 k2 k3 k4 k5 hhd h40 ⊢
    subst k1
    subst k2
    have hpw := pow_le k3
    have hpp := pow_pos' c
    have u1 : IntKind.u32.wrap ((p : Nat) : Int) = ((p : Nat) : Int) := by rw [IntKind.wrap_u32]; omega
    have w5 := wrows_get l (show 5 < l.length by omega)
    have w6 := wrows_get l (show 6 < l.length by omega)
    have n5 : 5 < l.length := by omega
    have n6 : 6 < l.length := by omega
    by_cases c5 : ((p : Nat) : Int) = wrd l 5
    · rw [if_pos (.inl c5)]
      have d5 : (((p : Nat) : Int) == wrd l 5) = true := by rw [beq_iff_eq]; exact c5
      simp only [f21, RB, pickV, eqbV, notV, negV, convV, faddrV, fldV, idxV, eqaggV, iaddrV, isnilV, nilckV, pnilV, cloV, extrV, slenV, minV, sidxV, abin, cmpInt, params, growLists, fillCells, newAt, rdPtr, wrPtr, AV.cells, asVal, lenOf, boundOf, rowsOf, argIds, freshIn, scalar1, setAll, AV.isData, AV.isYld, Nat.reduceAdd, Nat.reduceMul, Nat.reduceSub, Nat.reduceEqDiff, Nat.reduceLeDiff, Nat.reduceLT, Int.reduceNeg, ↓reduceIte, reduceCtorEq, Int.reduceEq, Int.reduceLT, Int.reduceLE, Int.reduceBEq, Int.reduceBNe, Int.reduceToNat, IntKind.bits, Int.reduceAdd, Int.reduceSub, Int.reduceMul, Int.reduceTDiv, Int.reduceTMod, R7B, take_add, List.append_assoc, List.length_append, Nat.add_assoc, shrink_lit, ball_app, RG, LPB, wrows_len, q2_0, o2_0, q2_1, o2_1, q2_w, o2_w, q4_0, o4_0, q4_1, o4_1, q4_2, o4_2, q4_3, o4_3, q4_w, o4_w, q7_0, q7_1, q7_2, q7_3, q7_4, q7_5, q7_6, q7_w, o7_w, h40, z2, o2, hl1, LPB, u1, w5, w6, n5, n6, d5, lisFits]
      exact ⟨_, rfl⟩
    have d5 : (((p : Nat) : Int) == wrd l 5) = false := by rw [beq_eq_false_iff_ne]; exact c5
    by_cases c6 : ((p : Nat) : Int) = wrd l 6
    · rw [if_pos (.inr c6)]
      have d6 : (((p : Nat) : Int) == wrd l 6) = true := by rw [beq_iff_eq]; exact c6
      simp only [f21, RB, pickV, eqbV, notV, negV, convV, faddrV, fldV, idxV, eqaggV, iaddrV, isnilV, nilckV, pnilV, cloV, extrV, slenV, minV, sidxV, abin, cmpInt, params, growLists, fillCells, newAt, rdPtr, wrPtr, AV.cells, asVal, lenOf, boundOf, rowsOf, argIds, freshIn, scalar1, setAll, AV.isData, AV.isYld, Nat.reduceAdd, Nat.reduceMul, Nat.reduceSub, Nat.reduceEqDiff, Nat.reduceLeDiff, Nat.reduceLT, Int.reduceNeg, ↓reduceIte, reduceCtorEq, Int.reduceEq, Int.reduceLT, Int.reduceLE, Int.reduceBEq, Int.reduceBNe, Int.reduceToNat, IntKind.bits, Int.reduceAdd, Int.reduceSub, Int.reduceMul, Int.reduceTDiv, Int.reduceTMod, R7B, take_add, List.append_assoc, List.length_append, Nat.add_assoc, shrink_lit, ball_app, RG, LPB, wrows_len, q2_0, o2_0, q2_1, o2_1, q2_w, o2_w, q4_0, o4_0, q4_1, o4_1, q4_2, o4_2, q4_3, o4_3, q4_w, o4_w, q7_0, q7_1, q7_2, q7_3, q7_4, q7_5, q7_6, q7_w, o7_w, h40, z2, o2, hl1, LPB, u1, w5, w6, n5, n6, d5, d6, lisFits]
      exact ⟨_, rfl⟩
    have d6 : (((p : Nat) : Int) == wrd l 6) = false := by rw [beq_eq_false_iff_ne]; exact c6
    rw [if_neg (by omega)]
    have n9 : 9 + c < l.length := by omega
    have a9 : IntKind.i64.wrap (9 + ((c : Nat) : Int)) = ((9 + c : Nat) : Int) := by rw [IntWalk.i64_in _ (by omega)]; omega
    have b9 : (0 : Int) ≤ ((9 + c : Nat) : Int) := by omega
    have oo : ∀ a b : Int, ovr [AV.int .u32 a] 0 [AV.int .u32 b] = some [AV.int .u32 b] := fun _ _ => rfl
    have ds : ∀ a : Int, dataL [AV.int .u32 a] = true := fun _ => rfl
    have bp : (0 : Int) ≤ ((p : Nat) : Int) := by omega
    have ap : IntKind.i64.wrap (((p : Nat) : Int) - 1) = ((p - 1 : Nat) : Int) := by rw [IntWalk.i64_in _ (by omega)]; omega
    have bp1 : (0 : Int) ≤ ((p - 1 : Nat) : Int) := by omega
    have np1 : p - 1 < l.length := by omega
    have npl : p < l.length := by omega
    have cl : (clr l p (2 ^ c)).length = l.length := clr_len k5
    have v9 : wrd (clr l p (2 ^ c)) (9 + c) = wrd l (9 + c) := by rw [wrd_clr k5, if_neg (by omega)]
    have w9 := wrows_get (clr l p (2 ^ c)) (i := 9 + c) (by rw [cl]; exact n9)
    have wp := wrows_get (clr l p (2 ^ c)) (i := p) (by rw [cl]; exact npl)
    have wp1 := wrows_get ((clr l p (2 ^ c)).set p (wrd l (9 + c))) (i := p - 1) (by rw [List.length_set, cl]; exact np1)
    have vp1 : wrd ((clr l p (2 ^ c)).set p (wrd l (9 + c))) (p - 1) = hdw (c, true) := by rw [wrd_ne _ (by omega), wrd_clr k5, if_neg (by omega), hhd]
    have w99 := wrows_get (((clr l p (2 ^ c)).set p (wrd l (9 + c))).set (p - 1) (16 + 2 * (c : Int))) (i := 9 + c) (by simp only [List.length_set, cl]; exact n9)
    rw [v9] at w9
    rw [vp1] at wp1
    have hoff := hdw_off k3
    obtain ⟨x35, h35⟩ := r35 (l := l) (lk := 0) (lk1 := lk1) (c := c) (p := p) (rest := rest ++ [.box 0 58 [.int .i64 (p : Nat), .int .i64 (c : Nat)]]) k3 k5 hhi
    simp only [List.append_assoc, List.cons_append, List.nil_append] at h35
    unfold giveL
    generalize 2 ^ c = X at *
    simp only [f21, RB, pickV, eqbV, notV, negV, convV, faddrV, fldV, idxV, eqaggV, iaddrV, isnilV, nilckV, pnilV, cloV, extrV, slenV, minV, sidxV, abin, cmpInt, params, growLists, fillCells, newAt, rdPtr, wrPtr, AV.cells, asVal, lenOf, boundOf, rowsOf, argIds, freshIn, scalar1, setAll, AV.isData, AV.isYld, Nat.reduceAdd, Nat.reduceMul, Nat.reduceSub, Nat.reduceEqDiff, Nat.reduceLeDiff, Nat.reduceLT, Int.reduceNeg, ↓reduceIte, reduceCtorEq, Int.reduceEq, Int.reduceLT, Int.reduceLE, Int.reduceBEq, Int.reduceBNe, Int.reduceToNat, IntKind.bits, Int.reduceAdd, Int.reduceSub, Int.reduceMul, Int.reduceTDiv, Int.reduceTMod, R7B, take_add, List.append_assoc, List.length_append, Nat.add_assoc, shrink_lit, ball_app, RG, LPB, wrows_len, q2_0, o2_0, q2_1, o2_1, q2_w, o2_w, q4_0, o4_0, q4_1, o4_1, q4_2, o4_2, q4_3, o4_3, q4_w, o4_w, q7_0, q7_1, q7_2, q7_3, q7_4, q7_5, q7_6, q7_w, o7_w, h40, z2, o2, hl1, LPB, u1, w5, w6, n5, n6, d5, d6, n9, a9, b9, oo, ds, bp, ap, bp1, np1, npl, w9, wp, wp1, w99, hoff, h35, k5, lisFits, wrows_set, aop_clear, clr_rows', List.length_set, cl, pairOk, AV.ids, List.contains_cons, List.contains_nil, Nat.reduceBEq, List.all_cons, List.all_nil, Bool.or_self, Bool.not_false, Bool.and_self, Bool.or_false]
    exact ⟨_, rfl⟩
end Go.Proofs.Ytncppbkhnafpnaa.F

/- New; the blocks that are taken, or free; what an op names. No condition. -/
set_option linter.unusedSimpArgs false
namespace Go.Proofs.Ytncppbkhnafpnaa.D
open Go Go.Proofs.Ytncppbkhnafpnaa.A
def newL (n : Nat) : List Int := ((List.replicate n 0).set 0 (n : Int)).set 15 16
theorem newL_len (n : Nat) : (newL n).length = n := by simp [newL]
theorem wrows_rep (n : Nat) : List.replicate n [AV.int .u32 0] = wrows (List.replicate n 0) := by simp [wrows]
def pav2 (x : Nat × Nat) : List AV := [.int .i64 (x.1 : Nat), .int .i64 (x.2 : Nat)]
def prows (l : List (Nat × Nat)) : List (List AV) := l.map pav2
theorem prows_len (l : List (Nat × Nat)) : (prows l).length = l.length := by simp [prows]
theorem prows_sn (l : List (Nat × Nat)) (a b : Nat) : prows (l ++ [(a, b)]) = prows l ++ [[.int .i64 (a : Nat), .int .i64 (b : Nat)]] := by simp [prows, pav2]
theorem prows_all (l : List (Nat × Nat)) : (prows l).take l.length = prows l := by rw [← prows_len, List.take_length]
/-- The blocks that are taken, or those that are free. -/
def pcsOf (t : Bool) (l : List (Nat × Bk)) : List (Nat × Nat) := (l.filter fun x => x.2.2 == t).map fun x => (x.1, x.2.1)
def stepP (t : Bool) (s : List (Nat × Nat)) (x : Nat × Bk) : List (Nat × Nat) × Bool := (if (x.2.2 == t) = true then s ++ [(x.1, x.2.1)] else s, true)
theorem foldU_pcs (t : Bool) : ∀ (l : List (Nat × Bk)) (s : List (Nat × Nat)), foldU (stepP t) l s = s ++ pcsOf t l
  | [], s => by simp [foldU, pcsOf]
  | x :: l, s => by
    unfold foldU
    simp only [stepP, if_true]
    rw [foldU_pcs t l]
    unfold pcsOf
    rw [List.filter_cons]
    cases h : (x.2.2 == t) <;> simp
theorem pcs_len : ∀ (bs : List Bk) (p : Nat), (pcs p bs).length = bs.length
  | [], _ => rfl
  | b :: bs, p => by simp only [pcs, List.length_cons, pcs_len bs]
theorem pcsOf_len (t : Bool) (l : List (Nat × Bk)) : (pcsOf t l).length ≤ l.length := by unfold pcsOf; rw [List.length_map]; exact List.length_filter_le _ _
end Go.Proofs.Ytncppbkhnafpnaa.D
namespace Go.Proofs.Ytncppbkhnafpnaa.F
open Go Go.Proofs.Ytncppbkhnafpnaa.A Go.Proofs.Ytncppbkhnafpnaa.D
theorem aop_mk {e : TypeId} {k bytes : Nat} {zero : List AV} {len cap : Opd} {s : Nat} {T : Tm} {bs : List Blk} : aop (.mk e k bytes zero len cap) s T bs = (match len.ev T, cap.ev T with
    | .int .i64 n, .int .i64 c => if 0 ≤ n ∧ n ≤ c ∧ c * bytes ≤ 140737488355328 ∧ c ≤ 4611686018427387904 ∧ dataL zero = true then (newAt bs s (.lst 0 0 e k (List.replicate n.toNat zero))).map fun bs' => (.lis s 0 0 n.toNat, bs') else none
    | _, _ => none) := rfl
theorem r10 {pend : List (Option AExit)} (n : Int) : LR E [] 10 [.int .i64 n] ⟨[], pend⟩ = some (if 64 ≤ n ∧ n ≤ 16384 then (.tup [.ptr 1 0 0 0, .int .i64 0], ⟨[.lst 0 0 23 1 (wrows (newL n.toNat)), .box 0 78 [.lis 0 0 0 n.toNat]], pend⟩) else (.tup [.nilp, .int .i64 2], ⟨[], pend⟩)) := by
  rw [LR_R (fn := f10) rfl rfl rfl]
  by_cases h1 : n < 64
  · rw [if_neg (by omega)]
    simp only [f10, RB, pickV, eqbV, notV, negV, convV, faddrV, fldV, idxV, eqaggV, iaddrV, isnilV, nilckV, pnilV, cloV, extrV, slenV, minV, sidxV, abin, cmpInt, params, growLists, fillCells, newAt, rdPtr, wrPtr, AV.cells, asVal, lenOf, boundOf, rowsOf, argIds, freshIn, scalar1, setAll, AV.isData, AV.isYld, Nat.reduceAdd, Nat.reduceMul, Nat.reduceSub, Nat.reduceEqDiff, Nat.reduceLeDiff, Nat.reduceLT, Int.reduceNeg, ↓reduceIte, reduceCtorEq, Int.reduceEq, Int.reduceLT, Int.reduceLE, Int.reduceBEq, Int.reduceBNe, Int.reduceToNat, IntKind.bits, Int.reduceAdd, Int.reduceSub, Int.reduceMul, Int.reduceTDiv, Int.reduceTMod, R7B, take_add, List.append_assoc, List.length_append, Nat.add_assoc, shrink_lit, ball_app, RG, LPB, wrows_len, q2_0, o2_0, q2_1, o2_1, q2_w, o2_w, q4_0, o4_0, q4_1, o4_1, q4_2, o4_2, q4_3, o4_3, q4_w, o4_w, q7_0, q7_1, q7_2, q7_3, q7_4, q7_5, q7_6, q7_w, o7_w, h1, show resV .nilp = some .nilp from rfl]
  by_cases h2 : 16384 < n
  · rw [if_neg (by omega)]
    simp only [f10, RB, pickV, eqbV, notV, negV, convV, faddrV, fldV, idxV, eqaggV, iaddrV, isnilV, nilckV, pnilV, cloV, extrV, slenV, minV, sidxV, abin, cmpInt, params, growLists, fillCells, newAt, rdPtr, wrPtr, AV.cells, asVal, lenOf, boundOf, rowsOf, argIds, freshIn, scalar1, setAll, AV.isData, AV.isYld, Nat.reduceAdd, Nat.reduceMul, Nat.reduceSub, Nat.reduceEqDiff, Nat.reduceLeDiff, Nat.reduceLT, Int.reduceNeg, ↓reduceIte, reduceCtorEq, Int.reduceEq, Int.reduceLT, Int.reduceLE, Int.reduceBEq, Int.reduceBNe, Int.reduceToNat, IntKind.bits, Int.reduceAdd, Int.reduceSub, Int.reduceMul, Int.reduceTDiv, Int.reduceTMod, R7B, take_add, List.append_assoc, List.length_append, Nat.add_assoc, shrink_lit, ball_app, RG, LPB, wrows_len, q2_0, o2_0, q2_1, o2_1, q2_w, o2_w, q4_0, o4_0, q4_1, o4_1, q4_2, o4_2, q4_3, o4_3, q4_w, o4_w, q7_0, q7_1, q7_2, q7_3, q7_4, q7_5, q7_6, q7_w, o7_w, h1, h2, show resV .nilp = some .nilp from rfl]
  rw [if_pos (by omega)]
  obtain ⟨k, rfl⟩ : ∃ k : Nat, n = (k : Int) := ⟨n.toNat, by omega⟩
  simp only [Int.toNat_natCast]
  have w0 := wrows_get (List.replicate k 0) (i := 0) (by simp; omega)
  have w15 := wrows_get ((List.replicate k 0).set 0 (k : Int)) (i := 15) (by simp; omega)
  have n0 : 0 < k := by omega
  have n15 : 15 < k := by omega
  have uk : IntKind.u32.wrap ((k : Nat) : Int) = ((k : Nat) : Int) := by rw [IntKind.wrap_u32]; omega
  have oo : ∀ a b : Int, ovr [AV.int .u32 a] 0 [AV.int .u32 b] = some [AV.int .u32 b] := fun _ _ => rfl
  have ds : ∀ a : Int, dataL [AV.int .u32 a] = true := fun _ => rfl
  have m1 : (0 : Int) ≤ ((k : Nat) : Int) := by omega
  have m2 : ((k : Nat) : Int) * 4 ≤ 140737488355328 := by omega
  have m3 : ((k : Nat) : Int) ≤ 4611686018427387904 := by omega
  simp only [f10, RB, pickV, eqbV, notV, negV, convV, faddrV, fldV, idxV, eqaggV, iaddrV, isnilV, nilckV, pnilV, cloV, extrV, slenV, minV, sidxV, abin, cmpInt, params, growLists, fillCells, newAt, rdPtr, wrPtr, AV.cells, asVal, lenOf, boundOf, rowsOf, argIds, freshIn, scalar1, setAll, AV.isData, AV.isYld, Nat.reduceAdd, Nat.reduceMul, Nat.reduceSub, Nat.reduceEqDiff, Nat.reduceLeDiff, Nat.reduceLT, Int.reduceNeg, ↓reduceIte, reduceCtorEq, Int.reduceEq, Int.reduceLT, Int.reduceLE, Int.reduceBEq, Int.reduceBNe, Int.reduceToNat, IntKind.bits, Int.reduceAdd, Int.reduceSub, Int.reduceMul, Int.reduceTDiv, Int.reduceTMod, R7B, take_add, List.append_assoc, List.length_append, Nat.add_assoc, shrink_lit, ball_app, RG, LPB, wrows_len, q2_0, o2_0, q2_1, o2_1, q2_w, o2_w, q4_0, o4_0, q4_1, o4_1, q4_2, o4_2, q4_3, o4_3, q4_w, o4_w, q7_0, q7_1, q7_2, q7_3, q7_4, q7_5, q7_6, q7_w, o7_w, h1, h2, aop_mk, m1, m2, m3, Int.le_refl, wrows_rep, w0, w15, n0, n15, uk, oo, ds, lisFits, wrows_set, pairOk, AV.ids, List.contains_cons, List.contains_nil, Nat.reduceBEq, List.all_cons, List.all_nil, Bool.or_self, Bool.not_false, Bool.and_self, Bool.or_false]
  rfl
theorem r37 {l : List Int} {bks : List Bk} {lk lk1 : Nat} {rest : List Blk} (hA : ArOk l bks) (hlow : belowAll (rest.length + 2) rest = true) (t : Bool) :
    ∃ ext n r, LR E [] 37 [.ptr 1 0 0 0, .bool t] ⟨.lst lk 0 23 1 (wrows l) :: .box lk1 78 [.lis 0 0 0 l.length] :: rest, []⟩ = some (.lis n (pcsOf t (pcs 16 bks)).length 0 (pcsOf t (pcs 16 bks)).length, ⟨(.lst lk 0 23 1 (wrows l) :: .box lk1 78 [.lis 0 0 0 l.length] :: rest) ++ ext, []⟩) ∧
      n = rest.length + 2 + r ∧ ext[r]? = some (.lst 0 (pcsOf t (pcs 16 bks)).length 58 2 (prows (pcsOf t (pcs 16 bks)))) ∧ belowAll (rest.length + 2 + ext.length) ext = true := by
  have hhi := hA.hi
  have hle := hA.chn.le
  have hed := hA.edge
  rw [LR_R (fn := f37) rfl rfl rfl]
  have hl1 : belowAll (rest.length + 7) rest = true := belowAll_mono (by omega) hlow
  simp only [f37, RB, pickV, eqbV, notV, negV, convV, faddrV, fldV, idxV, eqaggV, iaddrV, isnilV, nilckV, pnilV, cloV, extrV, slenV, minV, sidxV, abin, cmpInt, params, growLists, fillCells, newAt, rdPtr, wrPtr, AV.cells, asVal, lenOf, boundOf, rowsOf, argIds, freshIn, scalar1, setAll, AV.isData, AV.isYld, Nat.reduceAdd, Nat.reduceMul, Nat.reduceSub, Nat.reduceEqDiff, Nat.reduceLeDiff, Nat.reduceLT, Int.reduceNeg, ↓reduceIte, reduceCtorEq, Int.reduceEq, Int.reduceLT, Int.reduceLE, Int.reduceBEq, Int.reduceBNe, Int.reduceToNat, IntKind.bits, Int.reduceAdd, Int.reduceSub, Int.reduceMul, Int.reduceTDiv, Int.reduceTMod, R7B, take_add, List.append_assoc, List.length_append, Nat.add_assoc, shrink_lit, ball_app, RG, LPB, wrows_len, q2_0, o2_0, q2_1, o2_1, q2_w, o2_w, q4_0, o4_0, q4_1, o4_1, q4_2, o4_2, q4_3, o4_3, q4_w, o4_w, q7_0, q7_1, q7_2, q7_3, q7_4, q7_5, q7_6, q7_w, o7_w, r68]
  rw [R_range (g := 83) (caps := [.ptr (rest.length + 6) 0 0 0]) (by simp only [RB, pickV, eqbV, notV, negV, convV, faddrV, fldV, idxV, eqaggV, iaddrV, isnilV, nilckV, pnilV, cloV, extrV, slenV, minV, sidxV, abin, cmpInt, params, growLists, fillCells, newAt, rdPtr, wrPtr, AV.cells, asVal, lenOf, boundOf, rowsOf, argIds, freshIn, scalar1, setAll, AV.isData, AV.isYld, Nat.reduceAdd, Nat.reduceMul, Nat.reduceSub, Nat.reduceEqDiff, Nat.reduceLeDiff, Nat.reduceLT, Int.reduceNeg, ↓reduceIte, reduceCtorEq, Int.reduceEq, Int.reduceLT, Int.reduceLE, Int.reduceBEq, Int.reduceBNe, Int.reduceToNat, IntKind.bits, Int.reduceAdd, Int.reduceSub, Int.reduceMul, Int.reduceTDiv, Int.reduceTMod]) rfl]
  simp only [RB, pickV, eqbV, notV, negV, convV, faddrV, fldV, idxV, eqaggV, iaddrV, isnilV, nilckV, pnilV, cloV, extrV, slenV, minV, sidxV, abin, cmpInt, params, growLists, fillCells, newAt, rdPtr, wrPtr, AV.cells, asVal, lenOf, boundOf, rowsOf, argIds, freshIn, scalar1, setAll, AV.isData, AV.isYld, Nat.reduceAdd, Nat.reduceMul, Nat.reduceSub, Nat.reduceEqDiff, Nat.reduceLeDiff, Nat.reduceLT, Int.reduceNeg, ↓reduceIte, reduceCtorEq, Int.reduceEq, Int.reduceLT, Int.reduceLE, Int.reduceBEq, Int.reduceBNe, Int.reduceToNat, IntKind.bits, Int.reduceAdd, Int.reduceSub, Int.reduceMul, Int.reduceTDiv, Int.reduceTMod, R7B, take_add, List.append_assoc, List.length_append, Nat.add_assoc, shrink_lit, ball_app, RG, LPB]
  refine ⟨[.box 0 4 [.bool t], .lst 0 0 58 2 [], .box 0 43 [.lis (rest.length + 5) (pcsOf t (pcs 16 bks)).length 0 (pcsOf t (pcs 16 bks)).length], .lst 0 (pcsOf t (pcs 16 bks)).length 58 2 (prows (pcsOf t (pcs 16 bks))), .box 0 26 [.ptr 1 0 0 0]], rest.length + 5, 3, ?_, by omega, rfl, by simp [LPB]⟩
  refine r83_bind (σ := List (Nat × Nat)) (d := 0) (S := fun s => ⟨.lst lk 0 23 1 (wrows l) :: .box lk1 78 [.lis 0 0 0 l.length] :: (rest ++ [.box 0 4 [.bool t], .lst 0 0 58 2 [], .box 0 43 [.lis (rest.length + 5) s.length 0 s.length], .lst 0 s.length 58 2 (prows s), .box 0 26 [.ptr 1 0 0 0]]), [none]⟩)
    (m := rest.length + 7) (a := rest.length + 6) (step := stepP t) (ok := fun k s => s.length ≤ k) ([] : List (Nat × Nat)) ?h0 hA ?h ?hy ?len ?low ?ba (fun s => ⟨lk, rfl⟩) (fun s => ⟨lk1, 78, rfl⟩) ?hd ?hF
  case hy => exact rfl
  case h0 => exact Nat.le_refl _
  case len =>
    intro s
    simp only [List.length_cons, List.length_append, List.length_nil]
  case low =>
    intro s
    rw [show (Blk.lst lk 0 23 1 (wrows l) :: Blk.box lk1 78 [.lis 0 0 0 l.length] :: (rest ++ [.box 0 4 [.bool t], .lst 0 0 58 2 [], .box 0 43 [.lis (rest.length + 5) s.length 0 s.length], .lst 0 s.length 58 2 (prows s), .box 0 26 [.ptr 1 0 0 0]])) = ([Blk.lst lk 0 23 1 (wrows l), Blk.box lk1 78 [.lis 0 0 0 l.length]] ++ rest) ++ [.box 0 4 [.bool t], .lst 0 0 58 2 [], .box 0 43 [.lis (rest.length + 5) s.length 0 s.length], .lst 0 s.length 58 2 (prows s), .box 0 26 [.ptr 1 0 0 0]] from by simp, ball_app, ball_app, hl1]
    simp [LPB]
  case ba =>
    intro s
    refine ⟨0, 26, ?_⟩
    simp only [RB, pickV, eqbV, notV, negV, convV, faddrV, fldV, idxV, eqaggV, iaddrV, isnilV, nilckV, pnilV, cloV, extrV, slenV, minV, sidxV, abin, cmpInt, params, growLists, fillCells, newAt, rdPtr, wrPtr, AV.cells, asVal, lenOf, boundOf, rowsOf, argIds, freshIn, scalar1, setAll, AV.isData, AV.isYld, Nat.reduceAdd, Nat.reduceMul, Nat.reduceSub, Nat.reduceEqDiff, Nat.reduceLeDiff, Nat.reduceLT, Int.reduceNeg, ↓reduceIte, reduceCtorEq, Int.reduceEq, Int.reduceLT, Int.reduceLE, Int.reduceBEq, Int.reduceBNe, Int.reduceToNat, IntKind.bits, Int.reduceAdd, Int.reduceSub, Int.reduceMul, Int.reduceTDiv, Int.reduceTMod, R7B, take_add, List.append_assoc, List.length_append, Nat.add_assoc, shrink_lit, ball_app, RG, LPB]
  case hd =>
    intro k s p b hk hok
    have z6 : 0 < rest.length + 7 := by omega
    have o6 : 1 < rest.length + 7 := by omega
    have p6 : rest.length + 5 < rest.length + 7 := by omega
    rw [handler_run rfl rfl]
    unfold stepP
    cases hb : (b.2 == t) with
    | true =>
      have f7 : (s.length + 1) * 16 ≤ 140737488355328 := by omega
      have f8 : s.length ≤ 4611686018427387903 := by omega
      have f12 : ∀ x y : AV, headFits 2 [[x, y]] = true := fun _ _ => rfl
      simp only [if_true, List.length_append, List.length_singleton]
      refine ⟨fun _ => by omega, ?_⟩
      simp only [RB, pickV, eqbV, notV, negV, convV, faddrV, fldV, idxV, eqaggV, iaddrV, isnilV, nilckV, pnilV, cloV, extrV, slenV, minV, sidxV, abin, cmpInt, params, growLists, fillCells, newAt, rdPtr, wrPtr, AV.cells, asVal, lenOf, boundOf, rowsOf, argIds, freshIn, scalar1, setAll, AV.isData, AV.isYld, Nat.reduceAdd, Nat.reduceMul, Nat.reduceSub, Nat.reduceEqDiff, Nat.reduceLeDiff, Nat.reduceLT, Int.reduceNeg, ↓reduceIte, reduceCtorEq, Int.reduceEq, Int.reduceLT, Int.reduceLE, Int.reduceBEq, Int.reduceBNe, Int.reduceToNat, IntKind.bits, Int.reduceAdd, Int.reduceSub, Int.reduceMul, Int.reduceTDiv, Int.reduceTMod, R7B, take_add, List.append_assoc, List.length_append, Nat.add_assoc, shrink_lit, ball_app, RG, LPB, wrows_len, q2_0, o2_0, q2_1, o2_1, q2_w, o2_w, q4_0, o4_0, q4_1, o4_1, q4_2, o4_2, q4_3, o4_3, q4_w, o4_w, q7_0, q7_1, q7_2, q7_3, q7_4, q7_5, q7_6, q7_w, o7_w, hb, hl1, z6, o6, p6, LPB, O_buildSlq, quietOk, aop_buildSl, fillRows, asData, aappend, f7, f8, f12, prows_sn, prows_len, prows_all, Nat.le_refl]
      done
    | false =>
      simp only [Bool.false_eq_true, if_false, if_true]
      refine ⟨fun _ => by omega, ?_⟩
      simp only [RB, pickV, eqbV, notV, negV, convV, faddrV, fldV, idxV, eqaggV, iaddrV, isnilV, nilckV, pnilV, cloV, extrV, slenV, minV, sidxV, abin, cmpInt, params, growLists, fillCells, newAt, rdPtr, wrPtr, AV.cells, asVal, lenOf, boundOf, rowsOf, argIds, freshIn, scalar1, setAll, AV.isData, AV.isYld, Nat.reduceAdd, Nat.reduceMul, Nat.reduceSub, Nat.reduceEqDiff, Nat.reduceLeDiff, Nat.reduceLT, Int.reduceNeg, ↓reduceIte, reduceCtorEq, Int.reduceEq, Int.reduceLT, Int.reduceLE, Int.reduceBEq, Int.reduceBNe, Int.reduceToNat, IntKind.bits, Int.reduceAdd, Int.reduceSub, Int.reduceMul, Int.reduceTDiv, Int.reduceTMod, R7B, take_add, List.append_assoc, List.length_append, Nat.add_assoc, shrink_lit, ball_app, RG, LPB, wrows_len, q2_0, o2_0, q2_1, o2_1, q2_w, o2_w, q4_0, o4_0, q4_1, o4_1, q4_2, o4_2, q4_3, o4_3, q4_w, o4_w, q7_0, q7_1, q7_2, q7_3, q7_4, q7_5, q7_6, q7_w, o7_w, hb, hl1, z6, o6, p6, LPB]
      done
  case hF =>
    rw [foldU_pcs, List.nil_append]
    have z6 : 0 < rest.length + 7 := by omega
    have o6 : 1 < rest.length + 7 := by omega
    have p6 : rest.length + 5 < rest.length + 7 := by omega
    simp only [RB, pickV, eqbV, notV, negV, convV, faddrV, fldV, idxV, eqaggV, iaddrV, isnilV, nilckV, pnilV, cloV, extrV, slenV, minV, sidxV, abin, cmpInt, params, growLists, fillCells, newAt, rdPtr, wrPtr, AV.cells, asVal, lenOf, boundOf, rowsOf, argIds, freshIn, scalar1, setAll, AV.isData, AV.isYld, Nat.reduceAdd, Nat.reduceMul, Nat.reduceSub, Nat.reduceEqDiff, Nat.reduceLeDiff, Nat.reduceLT, Int.reduceNeg, ↓reduceIte, reduceCtorEq, Int.reduceEq, Int.reduceLT, Int.reduceLE, Int.reduceBEq, Int.reduceBNe, Int.reduceToNat, IntKind.bits, Int.reduceAdd, Int.reduceSub, Int.reduceMul, Int.reduceTDiv, Int.reduceTMod, R7B, take_add, List.append_assoc, List.length_append, Nat.add_assoc, shrink_lit, ball_app, RG, LPB, wrows_len, q2_0, o2_0, q2_1, o2_1, q2_w, o2_w, q4_0, o4_0, q4_1, o4_1, q4_2, o4_2, q4_3, o4_3, q4_w, o4_w, q7_0, q7_1, q7_2, q7_3, q7_4, q7_5, q7_6, q7_w, o7_w, hl1, z6, o6, p6, LPB]
    done
end Go.Proofs.Ytncppbkhnafpnaa.F
