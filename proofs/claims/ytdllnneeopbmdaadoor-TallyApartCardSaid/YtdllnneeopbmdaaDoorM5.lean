/- Part 5 of the proofs of these statements. No condition. -/
import Derived.Test.YtdllnneeopbmdaaDoorM4
import Derived.Test.YtdllnneeopbmdaaDoorProg
import Derived.KernelRfl
set_option linter.unusedVariables false
set_option linter.unusedSimpArgs false
/- Functions in the evaluator's form, 1. No condition. -/
namespace Go.Proofs.YtdllnneeopbmdaaDoor.F
open Go Go.Proofs.YtdllnneeopbmdaaDoor.A
def G : Nat → Option (List AV)
  | 0 => some [.int .i64 0, .int .i64 0, .int .i64 0, .int .i64 0, .int .i64 32, .int .i64 0, .int .i64 128]
  | _ => none
/-- junctionbox/junctionboxlaw31.TallyPasses -/
def f3 : AFunc :=
⟨3, [.t 6],
  (.seq
    (.region 3 [⟨some 3, .box 27 3 (.t 0) [], none, 0⟩,
      ⟨some 4, .box 30 1 (.t 1) [], none, 1⟩,
      ⟨some 5, .box 35 18 (.t 2) [], none, 2⟩,
      ⟨some 6, .mv (.c (.bool false)), none, 0⟩] false [])
  (.seq
    (.seq
      (.region 0 [⟨some 15, .callV 10 [] false, none, 0⟩,
        ⟨some 16, .not (.t 15), none, 0⟩] false [])
    (.cond (.t 16)
      (.seq
        (.region 0 [⟨some 6, .mv (.c (.bool false)), none, 0⟩] false [])
      .ret)
      .skip))
  (.seq
    (.seq
      (.region 0 [⟨some 17, .faddr 0 (.t 3), none, 0⟩,
        ⟨some 18, .load 1 false (.t 17), none, 0⟩,
        ⟨some 19, .len (.t 18), none, 0⟩,
        ⟨some 20, .bin .gtr (.t 19) (.c (.int .i64 200)), none, 0⟩,
        ⟨some 21, .mv (.t 20), none, 0⟩,
        ⟨some 22, .faddr 0 (.t 4), some (21, false), 0⟩,
        ⟨some 23, .load 1 false (.t 22), some (21, false), 0⟩,
        ⟨some 24, .len (.t 23), some (21, false), 0⟩,
        ⟨some 25, .bin .gtr (.t 24) (.c (.int .i64 200)), some (21, false), 0⟩,
        ⟨some 26, .pick (.t 21) (.c (.bool true)) (.t 25), none, 0⟩] false [])
    (.cond (.t 26)
      (.seq
        (.region 0 [⟨some 6, .mv (.c (.bool true)), none, 0⟩] false [])
      .ret)
      .skip))
  (.seq
    (.region 2 [⟨some 27, .load 3 true (.t 3), none, 0⟩,
      ⟨some 28, .callV 11 [.t 27] false, none, 0⟩,
      ⟨some 7, .alloc 27 [.clip [], .int .u64 0, .int .u64 0] [(0, 60, 20)], none, 0⟩,
      ⟨none, .store 3 (.t 7) (.t 28), none, 0⟩] false [])
  (.seq
    (.region 2 [⟨some 30, .load 3 true (.t 7), none, 0⟩,
      ⟨some 31, .load 1 true (.t 4), none, 0⟩,
      ⟨some 32, .faddr 0 (.t 5), none, 0⟩,
      ⟨some 33, .load 17 true (.t 32), none, 0⟩,
      ⟨some 34, .faddr 17 (.t 5), none, 0⟩,
      ⟨some 35, .load 1 false (.t 34), none, 0⟩,
      ⟨some 36, .callV 12 [.t 30, .t 31, .t 33, .t 35] false, none, 0⟩,
      ⟨some 29, .mv (.t 36), none, 0⟩,
      ⟨some 37, .extr (.t 29) 0, none, 0⟩,
      ⟨some 38, .extr (.t 29) 1, none, 0⟩,
      ⟨some 8, .alloc 27 [.clip [], .int .u64 0, .int .u64 0] [(0, 60, 20)], none, 0⟩,
      ⟨none, .store 3 (.t 8) (.t 37), none, 0⟩,
      ⟨some 9, .mv (.t 38), none, 0⟩] false [])
  (.seq
    (.region 2 [⟨some 40, .load 3 true (.t 3), none, 0⟩,
      ⟨some 41, .load 1 true (.t 4), none, 0⟩,
      ⟨some 42, .faddr 0 (.t 5), none, 0⟩,
      ⟨some 43, .load 17 true (.t 42), none, 0⟩,
      ⟨some 44, .faddr 17 (.t 5), none, 0⟩,
      ⟨some 45, .load 1 false (.t 44), none, 0⟩,
      ⟨some 46, .callV 13 [.t 40, .t 41, .t 43, .t 45] false, none, 0⟩,
      ⟨some 39, .mv (.t 46), none, 0⟩,
      ⟨some 47, .extr (.t 39) 0, none, 0⟩,
      ⟨some 48, .extr (.t 39) 1, none, 0⟩,
      ⟨some 10, .alloc 27 [.clip [], .int .u64 0, .int .u64 0] [(0, 60, 20)], none, 0⟩,
      ⟨none, .store 3 (.t 10) (.t 47), none, 0⟩,
      ⟨some 11, .mv (.t 48), none, 0⟩] false [])
  (.seq
    (.region 2 [⟨some 50, .load 1 true (.t 4), none, 0⟩,
      ⟨some 51, .callV 14 [.t 50] false, none, 0⟩,
      ⟨some 49, .mv (.t 51), none, 0⟩,
      ⟨some 52, .extr (.t 49) 0, none, 0⟩,
      ⟨some 53, .extr (.t 49) 1, none, 0⟩,
      ⟨some 12, .alloc 27 [.clip [], .int .u64 0, .int .u64 0] [(0, 60, 20)], none, 0⟩,
      ⟨none, .store 3 (.t 12) (.t 52), none, 0⟩,
      ⟨some 13, .mv (.t 53), none, 0⟩] false [])
  (.seq
    (.seq
      (.region 0 [⟨some 54, .load 1 true (.t 4), none, 0⟩,
        ⟨some 55, .callV 15 [.t 54] false, none, 0⟩,
        ⟨some 14, .mv (.t 55), none, 0⟩] false [])
    (.seq
      (.region 0 [⟨some 56, .mv (.t 14), none, 0⟩,
        ⟨some 57, .mv (.t 13), none, 0⟩,
        ⟨some 58, .bin .eql (.t 57) (.c (.int .i64 0)), none, 0⟩,
        ⟨some 59, .eqb true (.t 56) (.t 58), none, 0⟩,
        ⟨some 60, .mv (.t 59), none, 0⟩,
        ⟨some 61, .mv (.t 14), some (60, false), 0⟩,
        ⟨some 62, .mv (.t 61), some (60, false), 0⟩,
        ⟨some 63, .load 3 true (.t 12), some (62, true), 0⟩,
        ⟨some 64, .load 1 true (.t 4), some (62, true), 0⟩,
        ⟨some 65, .callV 17 [.t 64] false, some (62, true), 0⟩,
        ⟨some 66, .callV 16 [.t 63, .t 65] false, some (62, true), 0⟩,
        ⟨some 67, .not (.t 66), some (62, true), 0⟩,
        ⟨some 68, .pick (.t 62) (.t 67) (.c (.bool false)), some (60, false), 0⟩,
        ⟨some 69, .pick (.t 60) (.c (.bool true)) (.t 68), none, 0⟩,
        ⟨some 70, .mv (.t 69), none, 0⟩,
        ⟨some 71, .mv (.t 14), some (70, false), 0⟩,
        ⟨some 72, .not (.t 71), some (70, false), 0⟩,
        ⟨some 73, .mv (.t 72), some (70, false), 0⟩,
        ⟨some 74, .mv (.t 13), some (73, true), 0⟩,
        ⟨some 75, .bin .neq (.t 74) (.c (.int .i64 190)), some (73, true), 0⟩,
        ⟨some 76, .mv (.t 75), some (73, true), 0⟩,
        ⟨some 77, .faddr 0 (.t 12), some (76, false), 0⟩,
        ⟨some 78, .load 1 false (.t 77), some (76, false), 0⟩,
        ⟨some 79, .len (.t 78), some (76, false), 0⟩,
        ⟨some 80, .bin .neq (.t 79) (.c (.int .i64 0)), some (76, false), 0⟩,
        ⟨some 81, .pick (.t 76) (.c (.bool true)) (.t 80), some (73, true), 0⟩,
        ⟨some 82, .pick (.t 73) (.t 81) (.c (.bool false)), some (70, false), 0⟩,
        ⟨some 83, .pick (.t 70) (.c (.bool true)) (.t 82), none, 0⟩] true [])
    (.cond (.t 83)
      (.seq
        (.region 0 [⟨some 6, .mv (.c (.bool false)), none, 0⟩] false [])
      .ret)
      .skip)))
  (.seq
    (.region 0 [⟨some 84, .mv (.t 9), none, 0⟩,
      ⟨some 85, .mv (.t 11), none, 0⟩,
      ⟨some 86, .bin .eql (.t 84) (.t 85), none, 0⟩,
      ⟨some 87, .mv (.t 86), none, 0⟩,
      ⟨some 88, .load 3 true (.t 8), some (87, true), 0⟩,
      ⟨some 89, .load 3 true (.t 10), some (87, true), 0⟩,
      ⟨some 90, .callV 16 [.t 88, .t 89] false, some (87, true), 0⟩,
      ⟨some 91, .pick (.t 87) (.t 90) (.c (.bool false)), none, 0⟩,
      ⟨some 92, .mv (.t 91), none, 0⟩,
      ⟨some 93, .load 3 true (.t 7), some (92, true), 0⟩,
      ⟨some 94, .load 3 true (.t 3), some (92, true), 0⟩,
      ⟨some 95, .callV 16 [.t 93, .t 94] false, some (92, true), 0⟩,
      ⟨some 96, .pick (.t 92) (.t 95) (.c (.bool false)), none, 0⟩,
      ⟨some 6, .mv (.t 96), none, 0⟩] false [])
  .ret))))))))),
  false⟩
theorem c3 : cFunc Tryd.prog G f3 Tryd.f3 = some f3 := by kernel_rfl
/-- junctionbox/junctionboxlaw31.TallyMoves -/
def f4 : AFunc :=
⟨2, [.t 4],
  (.seq
    (.region 2 [⟨some 2, .box 27 3 (.t 0) [], none, 0⟩,
      ⟨some 3, .box 47 2 (.t 1) [], none, 1⟩,
      ⟨some 4, .mv (.c (.bool false)), none, 0⟩] false [])
  (.seq
    (.seq
      (.region 0 [⟨some 10, .callV 10 [] false, none, 0⟩,
        ⟨some 11, .not (.t 10), none, 0⟩] false [])
    (.cond (.t 11)
      (.seq
        (.region 0 [⟨some 4, .mv (.c (.bool false)), none, 0⟩] false [])
      .ret)
      .skip))
  (.seq
    (.seq
      (.region 0 [⟨some 12, .faddr 0 (.t 2), none, 0⟩,
        ⟨some 13, .load 1 false (.t 12), none, 0⟩,
        ⟨some 14, .len (.t 13), none, 0⟩,
        ⟨some 15, .bin .gtr (.t 14) (.c (.int .i64 200)), none, 0⟩,
        ⟨some 16, .mv (.t 15), none, 0⟩,
        ⟨some 17, .faddr 0 (.t 3), some (16, false), 0⟩,
        ⟨some 18, .faddr 0 (.t 17), some (16, false), 0⟩,
        ⟨some 19, .load 1 false (.t 18), some (16, false), 0⟩,
        ⟨some 20, .len (.t 19), some (16, false), 0⟩,
        ⟨some 21, .bin .gtr (.t 20) (.c (.int .i64 200)), some (16, false), 0⟩,
        ⟨some 22, .pick (.t 16) (.c (.bool true)) (.t 21), none, 0⟩,
        ⟨some 23, .mv (.t 22), none, 0⟩,
        ⟨some 24, .faddr 1 (.t 3), some (23, false), 0⟩,
        ⟨some 25, .faddr 0 (.t 24), some (23, false), 0⟩,
        ⟨some 26, .load 1 false (.t 25), some (23, false), 0⟩,
        ⟨some 27, .len (.t 26), some (23, false), 0⟩,
        ⟨some 28, .bin .gtr (.t 27) (.c (.int .i64 200)), some (23, false), 0⟩,
        ⟨some 29, .pick (.t 23) (.c (.bool true)) (.t 28), none, 0⟩] false [])
    (.cond (.t 29)
      (.seq
        (.region 0 [⟨some 4, .mv (.c (.bool true)), none, 0⟩] false [])
      .ret)
      .skip))
  (.seq
    (.region 2 [⟨some 30, .load 3 true (.t 2), none, 0⟩,
      ⟨some 31, .callV 11 [.t 30] false, none, 0⟩,
      ⟨some 5, .alloc 27 [.clip [], .int .u64 0, .int .u64 0] [(0, 60, 20)], none, 0⟩,
      ⟨none, .store 3 (.t 5) (.t 31), none, 0⟩] false [])
  (.seq
    (.region 2 [⟨some 33, .load 3 true (.t 5), none, 0⟩,
      ⟨some 34, .faddr 0 (.t 3), none, 0⟩,
      ⟨some 35, .load 1 true (.t 34), none, 0⟩,
      ⟨some 36, .faddr 1 (.t 3), none, 0⟩,
      ⟨some 37, .load 1 true (.t 36), none, 0⟩,
      ⟨some 38, .callV 18 [.t 33, .t 35, .t 37] false, none, 0⟩,
      ⟨some 32, .mv (.t 38), none, 0⟩,
      ⟨some 39, .extr (.t 32) 0, none, 0⟩,
      ⟨some 40, .extr (.t 32) 1, none, 0⟩,
      ⟨some 6, .alloc 27 [.clip [], .int .u64 0, .int .u64 0] [(0, 60, 20)], none, 0⟩,
      ⟨none, .store 3 (.t 6) (.t 39), none, 0⟩,
      ⟨some 7, .mv (.t 40), none, 0⟩] false [])
  (.seq
    (.region 2 [⟨some 42, .load 3 true (.t 2), none, 0⟩,
      ⟨some 43, .faddr 0 (.t 3), none, 0⟩,
      ⟨some 44, .load 1 true (.t 43), none, 0⟩,
      ⟨some 45, .faddr 1 (.t 3), none, 0⟩,
      ⟨some 46, .load 1 true (.t 45), none, 0⟩,
      ⟨some 47, .callV 19 [.t 42, .t 44, .t 46] false, none, 0⟩,
      ⟨some 41, .mv (.t 47), none, 0⟩,
      ⟨some 48, .extr (.t 41) 0, none, 0⟩,
      ⟨some 49, .extr (.t 41) 1, none, 0⟩,
      ⟨some 8, .alloc 27 [.clip [], .int .u64 0, .int .u64 0] [(0, 60, 20)], none, 0⟩,
      ⟨none, .store 3 (.t 8) (.t 48), none, 0⟩,
      ⟨some 9, .mv (.t 49), none, 0⟩] false [])
  (.seq
    (.region 0 [⟨some 50, .mv (.t 7), none, 0⟩,
      ⟨some 51, .mv (.t 9), none, 0⟩,
      ⟨some 52, .bin .eql (.t 50) (.t 51), none, 0⟩,
      ⟨some 53, .mv (.t 52), none, 0⟩,
      ⟨some 54, .load 3 true (.t 6), some (53, true), 0⟩,
      ⟨some 55, .load 3 true (.t 8), some (53, true), 0⟩,
      ⟨some 56, .callV 16 [.t 54, .t 55] false, some (53, true), 0⟩,
      ⟨some 57, .pick (.t 53) (.t 56) (.c (.bool false)), none, 0⟩,
      ⟨some 58, .mv (.t 57), none, 0⟩,
      ⟨some 59, .load 3 true (.t 5), some (58, true), 0⟩,
      ⟨some 60, .load 3 true (.t 2), some (58, true), 0⟩,
      ⟨some 61, .callV 16 [.t 59, .t 60] false, some (58, true), 0⟩,
      ⟨some 62, .pick (.t 58) (.t 61) (.c (.bool false)), none, 0⟩,
      ⟨some 4, .mv (.t 62), none, 0⟩] false [])
  .ret))))))),
  false⟩
theorem c4 : cFunc Tryd.prog G f4 Tryd.f4 = some f4 := by kernel_rfl
/-- junctionbox/junctionboxlaw31.TallyJoins -/
def f5 : AFunc :=
⟨3, [.t 6],
  (.seq
    (.region 3 [⟨some 3, .box 27 3 (.t 0) [], none, 0⟩,
      ⟨some 4, .box 27 3 (.t 1) [], none, 1⟩,
      ⟨some 5, .box 50 4 (.t 2) [], none, 2⟩,
      ⟨some 6, .mv (.c (.bool false)), none, 0⟩] false [])
  (.seq
    (.seq
      (.region 0 [⟨some 23, .callV 10 [] false, none, 0⟩,
        ⟨some 24, .not (.t 23), none, 0⟩] false [])
    (.cond (.t 24)
      (.seq
        (.region 0 [⟨some 6, .mv (.c (.bool false)), none, 0⟩] false [])
      .ret)
      .skip))
  (.seq
    (.seq
      (.region 0 [⟨some 25, .faddr 0 (.t 3), none, 0⟩,
        ⟨some 26, .load 1 false (.t 25), none, 0⟩,
        ⟨some 27, .len (.t 26), none, 0⟩,
        ⟨some 28, .bin .gtr (.t 27) (.c (.int .i64 200)), none, 0⟩,
        ⟨some 29, .mv (.t 28), none, 0⟩,
        ⟨some 30, .faddr 0 (.t 4), some (29, false), 0⟩,
        ⟨some 31, .load 1 false (.t 30), some (29, false), 0⟩,
        ⟨some 32, .len (.t 31), some (29, false), 0⟩,
        ⟨some 33, .bin .gtr (.t 32) (.c (.int .i64 200)), some (29, false), 0⟩,
        ⟨some 34, .pick (.t 29) (.c (.bool true)) (.t 33), none, 0⟩] false [])
    (.cond (.t 34)
      (.seq
        (.region 0 [⟨some 6, .mv (.c (.bool true)), none, 0⟩] false [])
      .ret)
      .skip))
  (.seq
    (.region 1 [⟨some 36, .iaddr 2 (some 2) (.t 5) (.c (.int .i64 0)), none, 0⟩,
      ⟨some 37, .load 2 true (.t 36), none, 0⟩,
      ⟨some 38, .iaddr 2 (some 2) (.t 5) (.c (.int .i64 1)), none, 0⟩,
      ⟨some 39, .load 2 true (.t 38), none, 0⟩,
      ⟨some 40, .callV 20 [.t 37, .t 39] false, none, 0⟩,
      ⟨some 35, .mv (.t 40), none, 0⟩,
      ⟨some 41, .extr (.t 35) 0, none, 0⟩,
      ⟨some 42, .extr (.t 35) 1, none, 0⟩,
      ⟨some 7, .alloc 25 [.int .u64 0, .int .u64 0] [], none, 0⟩,
      ⟨none, .store 2 (.t 7) (.t 41), none, 0⟩,
      ⟨some 8, .mv (.t 42), none, 0⟩] false [])
  (.seq
    (.seq
      (.region 0 [⟨some 43, .iaddr 2 (some 2) (.t 5) (.c (.int .i64 0)), none, 0⟩,
        ⟨some 44, .load 2 true (.t 43), none, 0⟩,
        ⟨some 45, .callV 21 [.t 44] false, none, 0⟩,
        ⟨some 46, .mv (.t 45), none, 0⟩,
        ⟨some 47, .iaddr 2 (some 2) (.t 5) (.c (.int .i64 1)), some (46, true), 0⟩,
        ⟨some 48, .load 2 true (.t 47), some (46, true), 0⟩,
        ⟨some 49, .callV 21 [.t 48] false, some (46, true), 0⟩,
        ⟨some 50, .pick (.t 46) (.t 49) (.c (.bool false)), none, 0⟩,
        ⟨some 9, .mv (.t 50), none, 0⟩] false [])
    (.seq
      (.region 0 [⟨some 51, .mv (.t 9), none, 0⟩,
        ⟨some 52, .mv (.t 8), none, 0⟩,
        ⟨some 53, .bin .eql (.t 52) (.c (.int .i64 0)), none, 0⟩,
        ⟨some 54, .eqb true (.t 51) (.t 53), none, 0⟩,
        ⟨some 55, .mv (.t 54), none, 0⟩,
        ⟨some 56, .mv (.t 9), some (55, false), 0⟩,
        ⟨some 57, .mv (.t 56), some (55, false), 0⟩,
        ⟨some 58, .load 2 true (.t 7), some (57, true), 0⟩,
        ⟨some 59, .iaddr 2 (some 2) (.t 5) (.c (.int .i64 0)), some (57, true), 0⟩,
        ⟨some 60, .load 2 true (.t 59), some (57, true), 0⟩,
        ⟨some 61, .iaddr 2 (some 2) (.t 5) (.c (.int .i64 1)), some (57, true), 0⟩,
        ⟨some 62, .load 2 true (.t 61), some (57, true), 0⟩,
        ⟨some 63, .callV 22 [.t 60, .t 62] false, some (57, true), 0⟩,
        ⟨some 64, .eqagg true [1, 1] (.t 58) (.t 63), some (57, true), 0⟩,
        ⟨some 65, .pick (.t 57) (.t 64) (.c (.bool false)), some (55, false), 0⟩,
        ⟨some 66, .pick (.t 55) (.c (.bool true)) (.t 65), none, 0⟩,
        ⟨some 67, .mv (.t 66), none, 0⟩,
        ⟨some 68, .mv (.t 9), some (67, false), 0⟩,
        ⟨some 69, .not (.t 68), some (67, false), 0⟩,
        ⟨some 70, .mv (.t 69), some (67, false), 0⟩,
        ⟨some 71, .mv (.t 8), some (70, true), 0⟩,
        ⟨some 72, .bin .neq (.t 71) (.c (.int .i64 2)), some (70, true), 0⟩,
        ⟨some 73, .mv (.t 72), some (70, true), 0⟩,
        ⟨some 74, .load 2 true (.t 7), some (73, false), 0⟩,
        ⟨some 75, .build [.int .u64 0, .int .u64 0] [] [], some (73, false), 0⟩,
        ⟨some 76, .eqagg true [1, 1] (.t 74) (.t 75), some (73, false), 0⟩,
        ⟨some 77, .pick (.t 73) (.c (.bool true)) (.t 76), some (70, true), 0⟩,
        ⟨some 78, .pick (.t 70) (.t 77) (.c (.bool false)), some (67, false), 0⟩,
        ⟨some 79, .pick (.t 67) (.c (.bool true)) (.t 78), none, 0⟩] true [])
    (.cond (.t 79)
      (.seq
        (.region 0 [⟨some 6, .mv (.c (.bool false)), none, 0⟩] false [])
      .ret)
      .skip)))
  (.seq
    (.region 1 [⟨some 81, .load 3 true (.t 3), none, 0⟩,
      ⟨some 82, .callV 11 [.t 81] false, none, 0⟩,
      ⟨some 83, .load 3 true (.t 4), none, 0⟩,
      ⟨some 84, .callV 11 [.t 83] false, none, 0⟩,
      ⟨some 85, .callV 23 [.t 82, .t 84] false, none, 0⟩,
      ⟨some 80, .mv (.t 85), none, 0⟩,
      ⟨some 86, .extr (.t 80) 0, none, 0⟩,
      ⟨some 87, .extr (.t 80) 1, none, 0⟩,
      ⟨some 10, .alloc 27 [.clip [], .int .u64 0, .int .u64 0] [], none, 0⟩,
      ⟨none, .store 3 (.t 10) (.t 86), none, 0⟩,
      ⟨some 11, .mv (.t 87), none, 0⟩] true [(.t 3, .c .undef, 0), (.t 81, .c .undef, 0), (.t 4, .c .undef, 0), (.t 83, .c .undef, 0), (.t 82, .c .undef, 0), (.t 84, .c .undef, 0)])
  (.seq
    (.region 1 [⟨some 89, .load 3 true (.t 3), none, 0⟩,
      ⟨some 90, .callV 11 [.t 89] false, none, 0⟩,
      ⟨some 91, .load 3 true (.t 4), none, 0⟩,
      ⟨some 92, .callV 11 [.t 91] false, none, 0⟩,
      ⟨some 93, .callV 24 [.t 90, .t 92] false, none, 0⟩,
      ⟨some 88, .mv (.t 93), none, 0⟩,
      ⟨some 94, .extr (.t 88) 0, none, 0⟩,
      ⟨some 95, .extr (.t 88) 1, none, 0⟩,
      ⟨some 12, .alloc 27 [.clip [], .int .u64 0, .int .u64 0] [], none, 0⟩,
      ⟨none, .store 3 (.t 12) (.t 94), none, 0⟩,
      ⟨some 13, .mv (.t 95), none, 0⟩] true [(.t 3, .c .undef, 0), (.t 89, .c .undef, 0), (.t 4, .c .undef, 0), (.t 91, .c .undef, 0), (.t 90, .c .undef, 0), (.t 92, .c .undef, 0)])
  (.seq
    (.region 0 [⟨some 14, .mv (.c (.int .i64 0)), none, 0⟩] false [])
  (.seq
    (.seq
      (.region 0 [⟨some 96, .load 3 true (.t 3), none, 0⟩,
        ⟨some 97, .callV 25 [.t 96] false, none, 0⟩,
        ⟨some 98, .not (.t 97), none, 0⟩,
        ⟨some 99, .mv (.t 98), none, 0⟩,
        ⟨some 100, .load 3 true (.t 4), some (99, false), 0⟩,
        ⟨some 101, .callV 25 [.t 100] false, some (99, false), 0⟩,
        ⟨some 102, .not (.t 101), some (99, false), 0⟩,
        ⟨some 103, .pick (.t 99) (.c (.bool true)) (.t 102), none, 0⟩] false [])
    (.cond (.t 103)
      (.region 0 [⟨some 14, .mv (.c (.int .i64 410)), none, 0⟩] false [])
      .skip))
  (.seq
    (.region 0 [⟨some 104, .faddr 0 (.t 3), none, 0⟩,
      ⟨some 105, .load 1 false (.t 104), none, 0⟩,
      ⟨some 106, .len (.t 105), none, 0⟩,
      ⟨some 107, .faddr 0 (.t 4), none, 0⟩,
      ⟨some 108, .load 1 false (.t 107), none, 0⟩,
      ⟨some 109, .len (.t 108), none, 0⟩,
      ⟨some 110, .bin .eql (.t 106) (.t 109), none, 0⟩,
      ⟨some 15, .mv (.t 110), none, 0⟩] false [])
  (.seq
    (.seq
      (.region 0 [⟨some 16, .mv (.c (.int .i64 0)), none, 0⟩] false [])
    (.block 0
      (.loop [3, 4, 10, 11, 12, 13, 14, 15, 16]
        (.seq
          (.seq
            (.region 0 [⟨some 111, .mv (.t 16), none, 0⟩,
              ⟨some 112, .faddr 0 (.t 3), none, 0⟩,
              ⟨some 113, .load 1 false (.t 112), none, 0⟩,
              ⟨some 114, .len (.t 113), none, 0⟩,
              ⟨some 115, .bin .lss (.t 111) (.t 114), none, 0⟩,
              ⟨some 116, .mv (.t 115), none, 0⟩,
              ⟨some 117, .mv (.t 15), some (116, true), 0⟩,
              ⟨some 118, .pick (.t 116) (.t 117) (.c (.bool false)), none, 0⟩] false [])
          (.cond (.t 118)
            .skip
            (.exit 0)))
        (.seq
          (.block 1
            (.region 0 [⟨some 121, .faddr 0 (.t 3), none, 0⟩,
              ⟨some 122, .load 1 false (.t 121), none, 0⟩,
              ⟨some 123, .mv (.t 16), none, 0⟩,
              ⟨some 124, .iaddr 20 none (.t 122) (.t 123), none, 0⟩,
              ⟨some 125, .faddr 0 (.t 124), none, 0⟩,
              ⟨some 126, .load 18 true (.t 125), none, 0⟩,
              ⟨some 127, .faddr 0 (.t 4), none, 0⟩,
              ⟨some 128, .load 1 false (.t 127), none, 0⟩,
              ⟨some 129, .mv (.t 16), none, 0⟩,
              ⟨some 130, .iaddr 20 none (.t 128) (.t 129), none, 0⟩,
              ⟨some 131, .faddr 0 (.t 130), none, 0⟩,
              ⟨some 132, .load 18 true (.t 131), none, 0⟩,
              ⟨some 133, .eqagg false [1, 1, 1, 1, 1, 1, 1, 1, 1, 1, 1, 1, 1, 1, 1, 1, 1, 1] (.t 126) (.t 132), none, 0⟩,
              ⟨some 15, .mv (.t 133), none, 0⟩] true []))
        (.region 0 [⟨some 119, .mv (.t 16), none, 0⟩,
          ⟨some 120, .bin .add (.t 119) (.c (.int .i64 1)), none, 0⟩,
          ⟨some 16, .mv (.t 120), none, 0⟩] false []))))))
  (.seq
    (.seq
      (.region 0 [⟨some 134, .mv (.t 14), none, 0⟩,
        ⟨some 135, .bin .eql (.t 134) (.c (.int .i64 0)), none, 0⟩,
        ⟨some 136, .mv (.t 135), none, 0⟩,
        ⟨some 137, .mv (.t 15), some (136, true), 0⟩,
        ⟨some 138, .not (.t 137), some (136, true), 0⟩,
        ⟨some 139, .pick (.t 136) (.t 138) (.c (.bool false)), none, 0⟩] false [])
    (.cond (.t 139)
      (.region 0 [⟨some 14, .mv (.c (.int .i64 411)), none, 0⟩] false [])
      .skip))
  (.seq
    (.seq
      (.region 0 [⟨some 140, .mv (.t 14), none, 0⟩,
        ⟨some 141, .bin .neq (.t 140) (.c (.int .i64 0)), none, 0⟩] false [])
    (.cond (.t 141)
      (.seq
        (.region 0 [⟨some 142, .mv (.t 11), none, 0⟩,
          ⟨some 143, .mv (.t 14), none, 0⟩,
          ⟨some 144, .bin .eql (.t 142) (.t 143), none, 0⟩,
          ⟨some 145, .mv (.t 144), none, 0⟩,
          ⟨some 146, .mv (.t 13), some (145, true), 0⟩,
          ⟨some 147, .mv (.t 14), some (145, true), 0⟩,
          ⟨some 148, .bin .eql (.t 146) (.t 147), some (145, true), 0⟩,
          ⟨some 149, .pick (.t 145) (.t 148) (.c (.bool false)), none, 0⟩,
          ⟨some 150, .mv (.t 149), none, 0⟩,
          ⟨some 151, .faddr 0 (.t 10), some (150, true), 0⟩,
          ⟨some 152, .load 1 false (.t 151), some (150, true), 0⟩,
          ⟨some 153, .len (.t 152), some (150, true), 0⟩,
          ⟨some 154, .bin .eql (.t 153) (.c (.int .i64 0)), some (150, true), 0⟩,
          ⟨some 155, .pick (.t 150) (.t 154) (.c (.bool false)), none, 0⟩,
          ⟨some 156, .mv (.t 155), none, 0⟩,
          ⟨some 157, .faddr 0 (.t 12), some (156, true), 0⟩,
          ⟨some 158, .load 1 false (.t 157), some (156, true), 0⟩,
          ⟨some 159, .len (.t 158), some (156, true), 0⟩,
          ⟨some 160, .bin .eql (.t 159) (.c (.int .i64 0)), some (156, true), 0⟩,
          ⟨some 161, .pick (.t 156) (.t 160) (.c (.bool false)), none, 0⟩,
          ⟨some 162, .mv (.t 161), none, 0⟩,
          ⟨some 163, .faddr 1 (.t 10), some (162, true), 0⟩,
          ⟨some 164, .load 2 true (.t 163), some (162, true), 0⟩,
          ⟨some 165, .build [.int .u64 0, .int .u64 0] [] [], some (162, true), 0⟩,
          ⟨some 166, .eqagg false [1, 1] (.t 164) (.t 165), some (162, true), 0⟩,
          ⟨some 167, .pick (.t 162) (.t 166) (.c (.bool false)), none, 0⟩,
          ⟨some 168, .mv (.t 167), none, 0⟩,
          ⟨some 169, .faddr 1 (.t 12), some (168, true), 0⟩,
          ⟨some 170, .load 2 true (.t 169), some (168, true), 0⟩,
          ⟨some 171, .build [.int .u64 0, .int .u64 0] [] [], some (168, true), 0⟩,
          ⟨some 172, .eqagg false [1, 1] (.t 170) (.t 171), some (168, true), 0⟩,
          ⟨some 173, .pick (.t 168) (.t 172) (.c (.bool false)), none, 0⟩,
          ⟨some 6, .mv (.t 173), none, 0⟩] false [])
      .ret)
      .skip))
  (.seq
    (.region 2 [⟨some 174, .faddr 1 (.t 3), none, 0⟩,
      ⟨some 175, .load 2 true (.t 174), none, 0⟩,
      ⟨some 176, .faddr 1 (.t 4), none, 0⟩,
      ⟨some 177, .load 2 true (.t 176), none, 0⟩,
      ⟨some 178, .callV 22 [.t 175, .t 177] false, none, 0⟩,
      ⟨some 179, .build [.clip [], .int .u64 0, .int .u64 0] [(1, 2, .t 178)] [], none, 0⟩,
      ⟨some 180, .faddr 1 (.t 3), none, 0⟩,
      ⟨some 181, .faddr 0 (.t 180), none, 0⟩,
      ⟨some 182, .load 1 false (.t 181), none, 0⟩,
      ⟨some 183, .faddr 1 (.t 4), none, 0⟩,
      ⟨some 184, .faddr 0 (.t 183), none, 0⟩,
      ⟨some 185, .load 1 false (.t 184), none, 0⟩,
      ⟨some 186, .bin .sub (.t 182) (.t 185), none, 0⟩,
      ⟨some 187, .faddr 1 (.t 3), none, 0⟩,
      ⟨some 188, .faddr 1 (.t 187), none, 0⟩,
      ⟨some 189, .load 1 false (.t 188), none, 0⟩,
      ⟨some 190, .faddr 1 (.t 4), none, 0⟩,
      ⟨some 191, .faddr 1 (.t 190), none, 0⟩,
      ⟨some 192, .load 1 false (.t 191), none, 0⟩,
      ⟨some 193, .bin .sub (.t 189) (.t 192), none, 0⟩,
      ⟨some 194, .build [.int .u64 0, .int .u64 0] [(0, 1, .t 186), (1, 1, .t 193)] [], none, 0⟩,
      ⟨some 195, .build [.clip [], .int .u64 0, .int .u64 0] [(1, 2, .t 194)] [], none, 0⟩,
      ⟨some 17, .alloc 27 [.clip [], .int .u64 0, .int .u64 0] [], none, 0⟩,
      ⟨some 18, .alloc 27 [.clip [], .int .u64 0, .int .u64 0] [], none, 1⟩,
      ⟨none, .store 3 (.t 17) (.t 179), none, 0⟩,
      ⟨none, .store 3 (.t 18) (.t 195), none, 0⟩] true [(.t 174, .c .undef, 0), (.t 176, .c .undef, 0), (.t 175, .c .undef, 0), (.t 177, .c .undef, 0), (.t 181, .c .undef, 0), (.t 184, .c .undef, 0), (.t 188, .c .undef, 0), (.t 191, .c .undef, 0), (.t 174, .c .undef, 1), (.t 176, .c .undef, 1), (.t 175, .c .undef, 1), (.t 177, .c .undef, 1), (.t 181, .c .undef, 1), (.t 184, .c .undef, 1), (.t 188, .c .undef, 1), (.t 191, .c .undef, 1), (.t 181, .t 17, 0), (.t 184, .t 17, 0), (.t 188, .t 17, 0), (.t 191, .t 17, 0)])
  (.seq
    (.region 0 [⟨some 196, .faddr 1 (.t 4), none, 0⟩,
      ⟨some 197, .faddr 0 (.t 196), none, 0⟩,
      ⟨some 198, .load 1 false (.t 197), none, 0⟩,
      ⟨some 199, .faddr 1 (.t 3), none, 0⟩,
      ⟨some 200, .faddr 0 (.t 199), none, 0⟩,
      ⟨some 201, .load 1 false (.t 200), none, 0⟩,
      ⟨some 202, .bin .leq (.t 198) (.t 201), none, 0⟩,
      ⟨some 203, .mv (.t 202), none, 0⟩,
      ⟨some 204, .faddr 1 (.t 4), some (203, true), 0⟩,
      ⟨some 205, .faddr 1 (.t 204), some (203, true), 0⟩,
      ⟨some 206, .load 1 false (.t 205), some (203, true), 0⟩,
      ⟨some 207, .faddr 1 (.t 3), some (203, true), 0⟩,
      ⟨some 208, .faddr 1 (.t 207), some (203, true), 0⟩,
      ⟨some 209, .load 1 false (.t 208), some (203, true), 0⟩,
      ⟨some 210, .bin .leq (.t 206) (.t 209), some (203, true), 0⟩,
      ⟨some 211, .pick (.t 203) (.t 210) (.c (.bool false)), none, 0⟩,
      ⟨some 19, .mv (.t 211), none, 0⟩] false [])
  (.seq
    (.seq
      (.region 0 [⟨some 212, .faddr 0 (.t 3), none, 0⟩,
        ⟨some 213, .load 1 false (.t 212), none, 0⟩,
        ⟨some 214, .len (.t 213), none, 0⟩,
        ⟨some 215, .mv (.c (.int .i64 0)), none, 0⟩] false [])
    (.block 2
      (.loop [4, 10, 11, 12, 13, 17, 18, 19, 213, 214, 215]
        (.seq
          (.region 0 [⟨some 216, .bin .lss (.t 215) (.t 214), none, 0⟩] false [])
        (.seq
          (.cond (.t 216)
            .skip
            (.exit 2))
        (.seq
          (.block 3
            (.seq
              (.region 1 [⟨some 217, .mv (.t 215), none, 0⟩,
                ⟨some 218, .iaddr 20 none (.t 213) (.t 215), none, 0⟩,
                ⟨some 219, .load 20 true (.t 218), none, 0⟩,
                ⟨some 21, .alloc 60 [.int .i64 0, .int .u8 0, .int .u8 0, .int .u8 0, .int .u8 0, .int .u8 0, .int .u8 0, .int .u8 0, .int .u8 0, .int .u8 0, .int .u8 0, .int .u8 0, .int .u8 0, .int .u8 0, .int .u8 0, .int .u8 0, .int .u8 0, .int .i64 0, .int .u64 0, .int .u64 0] [], none, 0⟩,
                ⟨some 20, .mv (.t 217), none, 0⟩,
                ⟨none, .store 20 (.t 21) (.t 219), none, 0⟩] false [])
            (.seq
              (.region 1 [⟨some 220, .faddr 0 (.t 4), none, 0⟩,
                ⟨some 221, .load 1 false (.t 220), none, 0⟩,
                ⟨some 222, .mv (.t 20), none, 0⟩,
                ⟨some 223, .iaddr 20 none (.t 221) (.t 222), none, 0⟩,
                ⟨some 224, .faddr 18 (.t 223), none, 0⟩,
                ⟨some 225, .load 2 true (.t 224), none, 0⟩,
                ⟨some 22, .alloc 25 [.int .u64 0, .int .u64 0] [], none, 0⟩,
                ⟨none, .store 2 (.t 22) (.t 225), none, 0⟩] false [])
            (.seq
              (.region 0 [⟨some 226, .mv (.t 19), none, 0⟩,
                ⟨some 227, .mv (.t 226), none, 0⟩,
                ⟨some 228, .faddr 0 (.t 22), some (227, true), 0⟩,
                ⟨some 229, .load 1 false (.t 228), some (227, true), 0⟩,
                ⟨some 230, .faddr 18 (.t 21), some (227, true), 0⟩,
                ⟨some 231, .faddr 0 (.t 230), some (227, true), 0⟩,
                ⟨some 232, .load 1 false (.t 231), some (227, true), 0⟩,
                ⟨some 233, .bin .leq (.t 229) (.t 232), some (227, true), 0⟩,
                ⟨some 234, .pick (.t 227) (.t 233) (.c (.bool false)), none, 0⟩,
                ⟨some 235, .mv (.t 234), none, 0⟩,
                ⟨some 236, .faddr 1 (.t 22), some (235, true), 0⟩,
                ⟨some 237, .load 1 false (.t 236), some (235, true), 0⟩,
                ⟨some 238, .faddr 18 (.t 21), some (235, true), 0⟩,
                ⟨some 239, .faddr 1 (.t 238), some (235, true), 0⟩,
                ⟨some 240, .load 1 false (.t 239), some (235, true), 0⟩,
                ⟨some 241, .bin .leq (.t 237) (.t 240), some (235, true), 0⟩,
                ⟨some 242, .pick (.t 235) (.t 241) (.c (.bool false)), none, 0⟩,
                ⟨some 19, .mv (.t 242), none, 0⟩] false [])
            (.seq
              (.region 2 [⟨some 243, .faddr 0 (.t 17), none, 0⟩,
                ⟨some 244, .load 1 false (.t 243), none, 0⟩,
                ⟨some 245, .faddr 0 (.t 21), none, 0⟩,
                ⟨some 246, .load 18 true (.t 245), none, 0⟩,
                ⟨some 247, .faddr 18 (.t 21), none, 0⟩,
                ⟨some 248, .load 2 true (.t 247), none, 0⟩,
                ⟨some 249, .load 2 true (.t 22), none, 0⟩,
                ⟨some 250, .callV 22 [.t 248, .t 249] false, none, 0⟩,
                ⟨some 251, .build [.int .i64 0, .int .u8 0, .int .u8 0, .int .u8 0, .int .u8 0, .int .u8 0, .int .u8 0, .int .u8 0, .int .u8 0, .int .u8 0, .int .u8 0, .int .u8 0, .int .u8 0, .int .u8 0, .int .u8 0, .int .u8 0, .int .u8 0, .int .i64 0, .int .u64 0, .int .u64 0] [(0, 18, .t 246), (18, 2, .t 250)] [], none, 0⟩,
                ⟨some 252, .buildSl 60 20 [.int .i64 0, .int .u8 0, .int .u8 0, .int .u8 0, .int .u8 0, .int .u8 0, .int .u8 0, .int .u8 0, .int .u8 0, .int .u8 0, .int .u8 0, .int .u8 0, .int .u8 0, .int .u8 0, .int .u8 0, .int .u8 0, .int .u8 0, .int .i64 0, .int .u64 0, .int .u64 0] 1 [(0, .t 251)] false, none, 0⟩,
                ⟨some 253, .append 60 20 48 (.t 244) (.t 252), none, 1⟩,
                ⟨some 254, .faddr 0 (.t 17), none, 0⟩,
                ⟨none, .store 1 (.t 254) (.t 253), none, 0⟩] true [])
            (.region 2 [⟨some 255, .faddr 0 (.t 18), none, 0⟩,
              ⟨some 256, .load 1 false (.t 255), none, 0⟩,
              ⟨some 257, .faddr 0 (.t 21), none, 0⟩,
              ⟨some 258, .load 18 true (.t 257), none, 0⟩,
              ⟨some 259, .faddr 18 (.t 21), none, 0⟩,
              ⟨some 260, .faddr 0 (.t 259), none, 0⟩,
              ⟨some 261, .load 1 false (.t 260), none, 0⟩,
              ⟨some 262, .faddr 0 (.t 22), none, 0⟩,
              ⟨some 263, .load 1 false (.t 262), none, 0⟩,
              ⟨some 264, .bin .sub (.t 261) (.t 263), none, 0⟩,
              ⟨some 265, .faddr 18 (.t 21), none, 0⟩,
              ⟨some 266, .faddr 1 (.t 265), none, 0⟩,
              ⟨some 267, .load 1 false (.t 266), none, 0⟩,
              ⟨some 268, .faddr 1 (.t 22), none, 0⟩,
              ⟨some 269, .load 1 false (.t 268), none, 0⟩,
              ⟨some 270, .bin .sub (.t 267) (.t 269), none, 0⟩,
              ⟨some 271, .build [.int .u64 0, .int .u64 0] [(0, 1, .t 264), (1, 1, .t 270)] [], none, 0⟩,
              ⟨some 272, .build [.int .i64 0, .int .u8 0, .int .u8 0, .int .u8 0, .int .u8 0, .int .u8 0, .int .u8 0, .int .u8 0, .int .u8 0, .int .u8 0, .int .u8 0, .int .u8 0, .int .u8 0, .int .u8 0, .int .u8 0, .int .u8 0, .int .u8 0, .int .i64 0, .int .u64 0, .int .u64 0] [(0, 18, .t 258), (18, 2, .t 271)] [], none, 0⟩,
              ⟨some 273, .buildSl 60 20 [.int .i64 0, .int .u8 0, .int .u8 0, .int .u8 0, .int .u8 0, .int .u8 0, .int .u8 0, .int .u8 0, .int .u8 0, .int .u8 0, .int .u8 0, .int .u8 0, .int .u8 0, .int .u8 0, .int .u8 0, .int .u8 0, .int .u8 0, .int .i64 0, .int .u64 0, .int .u64 0] 1 [(0, .t 272)] false, none, 0⟩,
              ⟨some 274, .append 60 20 48 (.t 256) (.t 273), none, 1⟩,
              ⟨some 275, .faddr 0 (.t 18), none, 0⟩,
              ⟨none, .store 1 (.t 275) (.t 274), none, 0⟩] false []))))))
        (.region 0 [⟨some 276, .bin .add (.t 215) (.c (.int .i64 1)), none, 0⟩,
          ⟨some 215, .mv (.t 276), none, 0⟩] false [])))))))
  (.seq
    (.seq
      (.region 0 [⟨some 277, .mv (.t 11), none, 0⟩,
        ⟨some 278, .bin .neq (.t 277) (.c (.int .i64 0)), none, 0⟩,
        ⟨some 279, .mv (.t 278), none, 0⟩,
        ⟨some 280, .load 3 true (.t 10), some (279, false), 0⟩,
        ⟨some 281, .load 3 true (.t 17), some (279, false), 0⟩,
        ⟨some 282, .callV 16 [.t 280, .t 281] false, some (279, false), 0⟩,
        ⟨some 283, .not (.t 282), some (279, false), 0⟩,
        ⟨some 284, .pick (.t 279) (.c (.bool true)) (.t 283), none, 0⟩] false [])
    (.cond (.t 284)
      (.seq
        (.region 0 [⟨some 6, .mv (.c (.bool false)), none, 0⟩] false [])
      .ret)
      .skip))
  (.seq
    (.seq
      (.region 0 [⟨some 285, .mv (.t 19), none, 0⟩,
        ⟨some 286, .not (.t 285), none, 0⟩] false [])
    (.cond (.t 286)
      (.seq
        (.region 0 [⟨some 287, .mv (.t 13), none, 0⟩,
          ⟨some 288, .bin .eql (.t 287) (.c (.int .i64 2)), none, 0⟩,
          ⟨some 289, .mv (.t 288), none, 0⟩,
          ⟨some 290, .faddr 0 (.t 12), some (289, true), 0⟩,
          ⟨some 291, .load 1 false (.t 290), some (289, true), 0⟩,
          ⟨some 292, .len (.t 291), some (289, true), 0⟩,
          ⟨some 293, .bin .eql (.t 292) (.c (.int .i64 0)), some (289, true), 0⟩,
          ⟨some 294, .pick (.t 289) (.t 293) (.c (.bool false)), none, 0⟩,
          ⟨some 6, .mv (.t 294), none, 0⟩] false [])
      .ret)
      .skip))
  (.seq
    (.region 0 [⟨some 295, .mv (.t 13), none, 0⟩,
      ⟨some 296, .bin .eql (.t 295) (.c (.int .i64 0)), none, 0⟩,
      ⟨some 297, .mv (.t 296), none, 0⟩,
      ⟨some 298, .load 3 true (.t 12), some (297, true), 0⟩,
      ⟨some 299, .load 3 true (.t 18), some (297, true), 0⟩,
      ⟨some 300, .callV 16 [.t 298, .t 299] false, some (297, true), 0⟩,
      ⟨some 301, .pick (.t 297) (.t 300) (.c (.bool false)), none, 0⟩,
      ⟨some 6, .mv (.t 301), none, 0⟩] false [])
  .ret))))))))))))))))))),
  false⟩
theorem c5 : cFunc Tryd.prog G f5 Tryd.f5 = some f5 := by kernel_rfl
/-- junctionbox/junctionboxlaw31.TallyApart -/
def f6 : AFunc :=
⟨3, [.t 6],
  (.seq
    (.region 1 [⟨some 3, .box 30 1 (.t 0) [], none, 0⟩,
      ⟨some 6, .mv (.c (.bool false)), none, 0⟩] false [])
  (.seq
    (.seq
      (.region 0 [⟨some 20, .callV 10 [] false, none, 0⟩,
        ⟨some 21, .not (.t 20), none, 0⟩] false [])
    (.cond (.t 21)
      (.seq
        (.region 0 [⟨some 6, .mv (.c (.bool false)), none, 0⟩] false [])
      .ret)
      .skip))
  (.seq
    (.seq
      (.region 0 [⟨some 22, .faddr 0 (.t 3), none, 0⟩,
        ⟨some 23, .load 1 false (.t 22), none, 0⟩,
        ⟨some 24, .len (.t 23), none, 0⟩,
        ⟨some 25, .bin .gtr (.t 24) (.c (.int .i64 200)), none, 0⟩] false [])
    (.cond (.t 25)
      (.seq
        (.region 0 [⟨some 6, .mv (.c (.bool true)), none, 0⟩] false [])
      .ret)
      .skip))
  (.seq
    (.region 2 [⟨some 27, .load 1 true (.t 3), none, 0⟩,
      ⟨some 28, .callV 14 [.t 27] false, none, 0⟩,
      ⟨some 26, .mv (.t 28), none, 0⟩,
      ⟨some 29, .extr (.t 26) 0, none, 0⟩,
      ⟨some 30, .extr (.t 26) 1, none, 0⟩,
      ⟨some 7, .alloc 27 [.clip [], .int .u64 0, .int .u64 0] [(0, 60, 20)], none, 0⟩,
      ⟨none, .store 3 (.t 7) (.t 29), none, 0⟩,
      ⟨some 8, .mv (.t 30), none, 0⟩] false [])
  (.seq
    (.seq
      (.region 0 [⟨some 31, .mv (.t 8), none, 0⟩,
        ⟨some 32, .bin .neq (.t 31) (.c (.int .i64 0)), none, 0⟩] false [])
    (.cond (.t 32)
      (.seq
        (.region 0 [⟨some 33, .mv (.t 8), none, 0⟩,
          ⟨some 34, .load 1 true (.t 3), none, 0⟩,
          ⟨some 35, .callV 26 [.t 34] false, none, 0⟩,
          ⟨some 36, .bin .eql (.t 33) (.t 35), none, 0⟩,
          ⟨some 6, .mv (.t 36), none, 0⟩] false [])
      .ret)
      .skip))
  (.seq
    (.region 2 [⟨some 37, .load 3 true (.t 7), none, 0⟩,
      ⟨some 38, .load 3 true (.t 7), none, 0⟩,
      ⟨some 9, .alloc 27 [.clip [], .int .u64 0, .int .u64 0] [], none, 0⟩,
      ⟨some 10, .alloc 27 [.clip [], .int .u64 0, .int .u64 0] [], none, 1⟩,
      ⟨none, .store 3 (.t 9) (.t 37), none, 0⟩,
      ⟨none, .store 3 (.t 10) (.t 38), none, 0⟩] true [(.t 7, .c .undef, 0), (.t 7, .c .undef, 1), (.t 7, .t 9, 0)])
  (.seq
    (.seq
      (.region 3 [⟨some 39, .buildSl 35 18 [.int .i64 0, .int .u8 0, .int .u8 0, .int .u8 0, .int .u8 0, .int .u8 0, .int .u8 0, .int .u8 0, .int .u8 0, .int .u8 0, .int .u8 0, .int .u8 0, .int .u8 0, .int .u8 0, .int .u8 0, .int .u8 0, .int .u8 0, .int .u64 0] 0 [] false, none, 0⟩,
        ⟨some 40, .mv (.t 1), none, 0⟩,
        ⟨some 41, .mv (.t 1), none, 0⟩,
        ⟨some 42, .len (.t 41), none, 0⟩,
        ⟨some 43, .min (.t 42) [.c (.int .i64 20)], none, 0⟩,
        ⟨some 44, .slice 18 (.t 40) none (some (.t 43)) none, none, 0⟩,
        ⟨some 45, .append 35 18 32 (.t 39) (.t 44), none, 1⟩,
        ⟨some 46, .mv (.t 2), none, 0⟩,
        ⟨some 47, .mv (.t 2), none, 0⟩,
        ⟨some 48, .len (.t 47), none, 0⟩,
        ⟨some 49, .min (.t 48) [.c (.int .i64 20)], none, 0⟩,
        ⟨some 50, .slice 18 (.t 46) none (some (.t 49)) none, none, 0⟩,
        ⟨some 51, .append 35 18 32 (.t 45) (.t 50), none, 2⟩,
        ⟨some 52, .len (.t 51), none, 0⟩,
        ⟨some 53, .mv (.c (.int .i64 0)), none, 0⟩] true [(.t 46, .c .undef, 1), (.t 49, .c .undef, 1)])
    (.block 0
      (.loop [1, 3, 7, 9, 10, 51, 52, 53]
        (.seq
          (.region 0 [⟨some 54, .bin .lss (.t 53) (.t 52), none, 0⟩] false [])
        (.seq
          (.cond (.t 54)
            .skip
            (.exit 0))
        (.seq
          (.block 1
            (.seq
              (.region 1 [⟨some 55, .mv (.t 53), none, 0⟩,
                ⟨some 56, .iaddr 18 none (.t 51) (.t 53), none, 0⟩,
                ⟨some 57, .load 18 true (.t 56), none, 0⟩,
                ⟨some 12, .alloc 35 [.int .i64 0, .int .u8 0, .int .u8 0, .int .u8 0, .int .u8 0, .int .u8 0, .int .u8 0, .int .u8 0, .int .u8 0, .int .u8 0, .int .u8 0, .int .u8 0, .int .u8 0, .int .u8 0, .int .u8 0, .int .u8 0, .int .u8 0, .int .u64 0] [], none, 0⟩,
                ⟨some 11, .mv (.t 55), none, 0⟩,
                ⟨none, .store 18 (.t 12) (.t 57), none, 0⟩] false [])
            (.seq
              (.region 0 [⟨some 58, .faddr 17 (.t 12), none, 0⟩,
                ⟨some 59, .load 1 false (.t 58), none, 0⟩,
                ⟨some 60, .bin .rem (.t 59) (.c (.int .u64 1099511627776)), none, 0⟩,
                ⟨some 61, .faddr 17 (.t 12), none, 0⟩,
                ⟨none, .store 1 (.t 61) (.t 60), none, 0⟩] false [])
            (.seq
              (.region 2 [⟨some 63, .load 3 true (.t 10), none, 0⟩,
                ⟨some 64, .load 1 true (.t 3), none, 0⟩,
                ⟨some 65, .faddr 0 (.t 12), none, 0⟩,
                ⟨some 66, .load 17 true (.t 65), none, 0⟩,
                ⟨some 67, .faddr 17 (.t 12), none, 0⟩,
                ⟨some 68, .load 1 false (.t 67), none, 0⟩,
                ⟨some 69, .callV 12 [.t 63, .t 64, .t 66, .t 68] false, none, 0⟩,
                ⟨some 62, .mv (.t 69), none, 0⟩,
                ⟨some 70, .extr (.t 62) 0, none, 0⟩,
                ⟨some 71, .extr (.t 62) 1, none, 0⟩,
                ⟨some 13, .alloc 27 [.clip [], .int .u64 0, .int .u64 0] [(0, 60, 20)], none, 0⟩,
                ⟨none, .store 3 (.t 13) (.t 70), none, 0⟩,
                ⟨some 14, .mv (.t 71), none, 0⟩] false [])
            (.seq
              (.seq
                (.region 0 [⟨some 72, .mv (.t 14), none, 0⟩,
                  ⟨some 73, .bin .neq (.t 72) (.c (.int .i64 0)), none, 0⟩] false [])
              (.cond (.t 73)
                (.exit 1)
                .skip))
            (.seq
              (.region 0 [⟨some 74, .load 3 true (.t 13), none, 0⟩,
                ⟨none, .store 3 (.t 10) (.t 74), none, 0⟩] false [])
            (.seq
              (.seq
                (.region 0 [⟨some 75, .mv (.t 11), none, 0⟩,
                  ⟨some 76, .mv (.t 1), none, 0⟩,
                  ⟨some 77, .len (.t 76), none, 0⟩,
                  ⟨some 78, .min (.t 77) [.c (.int .i64 20)], none, 0⟩,
                  ⟨some 79, .bin .lss (.t 75) (.t 78), none, 0⟩] false [])
              (.cond (.t 79)
                (.region 0 [⟨some 81, .load 3 true (.t 7), none, 0⟩,
                  ⟨some 82, .load 1 true (.t 3), none, 0⟩,
                  ⟨some 83, .faddr 0 (.t 12), none, 0⟩,
                  ⟨some 84, .load 17 true (.t 83), none, 0⟩,
                  ⟨some 85, .faddr 17 (.t 12), none, 0⟩,
                  ⟨some 86, .load 1 false (.t 85), none, 0⟩,
                  ⟨some 87, .callV 12 [.t 81, .t 82, .t 84, .t 86] false, none, 0⟩,
                  ⟨some 80, .mv (.t 87), none, 0⟩,
                  ⟨some 88, .extr (.t 80) 0, none, 0⟩,
                  ⟨some 89, .extr (.t 80) 1, none, 0⟩,
                  ⟨none, .store 3 (.t 7) (.t 88), none, 0⟩,
                  ⟨some 14, .mv (.t 89), none, 0⟩] false [])
                (.region 0 [⟨some 91, .load 3 true (.t 9), none, 0⟩,
                  ⟨some 92, .load 1 true (.t 3), none, 0⟩,
                  ⟨some 93, .faddr 0 (.t 12), none, 0⟩,
                  ⟨some 94, .load 17 true (.t 93), none, 0⟩,
                  ⟨some 95, .faddr 17 (.t 12), none, 0⟩,
                  ⟨some 96, .load 1 false (.t 95), none, 0⟩,
                  ⟨some 97, .callV 12 [.t 91, .t 92, .t 94, .t 96] false, none, 0⟩,
                  ⟨some 90, .mv (.t 97), none, 0⟩,
                  ⟨some 98, .extr (.t 90) 0, none, 0⟩,
                  ⟨some 99, .extr (.t 90) 1, none, 0⟩,
                  ⟨none, .store 3 (.t 9) (.t 98), none, 0⟩,
                  ⟨some 14, .mv (.t 99), none, 0⟩] false [])))
            (.seq
              (.region 0 [⟨some 100, .mv (.t 14), none, 0⟩,
                ⟨some 101, .bin .neq (.t 100) (.c (.int .i64 0)), none, 0⟩] false [])
            (.cond (.t 101)
              (.seq
                (.region 0 [⟨some 6, .mv (.c (.bool false)), none, 0⟩] false [])
              .ret)
              .skip)))))))))
        (.region 0 [⟨some 102, .bin .add (.t 53) (.c (.int .i64 1)), none, 0⟩,
          ⟨some 53, .mv (.t 102), none, 0⟩] false [])))))))
  (.seq
    (.region 2 [⟨some 104, .load 3 true (.t 7), none, 0⟩,
      ⟨some 105, .load 3 true (.t 9), none, 0⟩,
      ⟨some 106, .callV 23 [.t 104, .t 105] false, none, 0⟩,
      ⟨some 103, .mv (.t 106), none, 0⟩,
      ⟨some 107, .extr (.t 103) 0, none, 0⟩,
      ⟨some 108, .extr (.t 103) 1, none, 0⟩,
      ⟨some 15, .alloc 27 [.clip [], .int .u64 0, .int .u64 0] [(0, 60, 20)], none, 0⟩,
      ⟨none, .store 3 (.t 15) (.t 107), none, 0⟩,
      ⟨some 8, .mv (.t 108), none, 0⟩] false [])
  (.seq
    (.region 2 [⟨some 110, .load 3 true (.t 9), none, 0⟩,
      ⟨some 111, .load 3 true (.t 7), none, 0⟩,
      ⟨some 112, .callV 23 [.t 110, .t 111] false, none, 0⟩,
      ⟨some 109, .mv (.t 112), none, 0⟩,
      ⟨some 113, .extr (.t 109) 0, none, 0⟩,
      ⟨some 114, .extr (.t 109) 1, none, 0⟩,
      ⟨some 16, .alloc 27 [.clip [], .int .u64 0, .int .u64 0] [(0, 60, 20)], none, 0⟩,
      ⟨none, .store 3 (.t 16) (.t 113), none, 0⟩,
      ⟨some 17, .mv (.t 114), none, 0⟩] false [])
  (.seq
    (.region 2 [⟨some 116, .load 3 true (.t 15), none, 0⟩,
      ⟨some 117, .load 3 true (.t 7), none, 0⟩,
      ⟨some 118, .callV 24 [.t 116, .t 117] false, none, 0⟩,
      ⟨some 115, .mv (.t 118), none, 0⟩,
      ⟨some 119, .extr (.t 115) 0, none, 0⟩,
      ⟨some 120, .extr (.t 115) 1, none, 0⟩,
      ⟨some 18, .alloc 27 [.clip [], .int .u64 0, .int .u64 0] [(0, 60, 20)], none, 0⟩,
      ⟨none, .store 3 (.t 18) (.t 119), none, 0⟩,
      ⟨some 19, .mv (.t 120), none, 0⟩] false [])
  (.seq
    (.region 0 [⟨some 121, .mv (.t 8), none, 0⟩,
      ⟨some 122, .bin .eql (.t 121) (.c (.int .i64 0)), none, 0⟩,
      ⟨some 123, .mv (.t 122), none, 0⟩,
      ⟨some 124, .mv (.t 17), some (123, true), 0⟩,
      ⟨some 125, .bin .eql (.t 124) (.c (.int .i64 0)), some (123, true), 0⟩,
      ⟨some 126, .pick (.t 123) (.t 125) (.c (.bool false)), none, 0⟩,
      ⟨some 127, .mv (.t 126), none, 0⟩,
      ⟨some 128, .mv (.t 19), some (127, true), 0⟩,
      ⟨some 129, .bin .eql (.t 128) (.c (.int .i64 0)), some (127, true), 0⟩,
      ⟨some 130, .pick (.t 127) (.t 129) (.c (.bool false)), none, 0⟩,
      ⟨some 131, .mv (.t 130), none, 0⟩,
      ⟨some 132, .load 3 true (.t 15), some (131, true), 0⟩,
      ⟨some 133, .load 3 true (.t 10), some (131, true), 0⟩,
      ⟨some 134, .callV 27 [.t 132, .t 133] false, some (131, true), 0⟩,
      ⟨some 135, .pick (.t 131) (.t 134) (.c (.bool false)), none, 0⟩,
      ⟨some 136, .mv (.t 135), none, 0⟩,
      ⟨some 137, .load 3 true (.t 16), some (136, true), 0⟩,
      ⟨some 138, .load 3 true (.t 15), some (136, true), 0⟩,
      ⟨some 139, .callV 27 [.t 137, .t 138] false, some (136, true), 0⟩,
      ⟨some 140, .pick (.t 136) (.t 139) (.c (.bool false)), none, 0⟩,
      ⟨some 141, .mv (.t 140), none, 0⟩,
      ⟨some 142, .load 3 true (.t 18), some (141, true), 0⟩,
      ⟨some 143, .load 3 true (.t 9), some (141, true), 0⟩,
      ⟨some 144, .callV 27 [.t 142, .t 143] false, some (141, true), 0⟩,
      ⟨some 145, .pick (.t 141) (.t 144) (.c (.bool false)), none, 0⟩,
      ⟨some 6, .mv (.t 145), none, 0⟩] false [])
  .ret))))))))))),
  false⟩
theorem c6 : cFunc Tryd.prog G f6 Tryd.f6 = some f6 := by kernel_rfl
/-- junctionbox/junctionboxlaw31.wakes -/
def f10 : AFunc :=
⟨0, [.t 0],
  (.seq
    (.region 0 [⟨some 0, .mv (.c (.bool false)), none, 0⟩] false [])
  (.seq
    (.region 3 [⟨some 7, .build [.int .u8 0, .int .u8 0, .int .u8 0, .int .u8 0, .int .u8 0, .int .u8 0, .int .u8 0, .int .u8 0, .int .u8 0, .int .u8 0, .int .u8 0, .int .u8 0, .int .u8 0, .int .u8 0, .int .u8 0, .int .u8 0] [(0, 1, .c (.int .u8 10))] [], none, 0⟩,
      ⟨some 8, .build [.int .i64 0, .int .u8 0, .int .u8 0, .int .u8 0, .int .u8 0, .int .u8 0, .int .u8 0, .int .u8 0, .int .u8 0, .int .u8 0, .int .u8 0, .int .u8 0, .int .u8 0, .int .u8 0, .int .u8 0, .int .u8 0, .int .u8 0] [(0, 1, .c (.int .i64 4)), (1, 16, .t 7)] [], none, 0⟩,
      ⟨some 9, .build [.int .i64 0, .int .u8 0, .int .u8 0, .int .u8 0, .int .u8 0, .int .u8 0, .int .u8 0, .int .u8 0, .int .u8 0, .int .u8 0, .int .u8 0, .int .u8 0, .int .u8 0, .int .u8 0, .int .u8 0, .int .u8 0, .int .u8 0, .int .i64 0] [(0, 17, .t 8), (17, 1, .c (.int .i64 8))] [], none, 0⟩,
      ⟨some 10, .build [.int .i64 0, .int .u8 0, .int .u8 0, .int .u8 0, .int .u8 0, .int .u8 0, .int .u8 0, .int .u8 0, .int .u8 0, .int .u8 0, .int .u8 0, .int .u8 0, .int .u8 0, .int .u8 0, .int .u8 0, .int .u8 0, .int .u8 0, .int .i64 0, .int .i64 0] [(0, 18, .t 9), (18, 1, .c (.int .i64 1))] [], none, 0⟩,
      ⟨some 11, .buildSl 85 19 [.int .i64 0, .int .u8 0, .int .u8 0, .int .u8 0, .int .u8 0, .int .u8 0, .int .u8 0, .int .u8 0, .int .u8 0, .int .u8 0, .int .u8 0, .int .u8 0, .int .u8 0, .int .u8 0, .int .u8 0, .int .u8 0, .int .u8 0, .int .i64 0, .int .i64 0] 1 [(0, .t 10)] false, none, 0⟩,
      ⟨some 12, .build [.clip []] [(0, 1, .t 11)] [], none, 0⟩,
      ⟨some 1, .alloc 30 [.clip []] [(0, 85, 19)], none, 1⟩,
      ⟨none, .store 1 (.t 1) (.t 12), none, 0⟩] false [])
  (.seq
    (.region 2 [⟨some 14, .load 1 true (.t 1), none, 0⟩,
      ⟨some 15, .callV 14 [.t 14] false, none, 0⟩,
      ⟨some 13, .mv (.t 15), none, 0⟩,
      ⟨some 16, .extr (.t 13) 0, none, 0⟩,
      ⟨some 17, .extr (.t 13) 1, none, 0⟩,
      ⟨some 2, .alloc 27 [.clip [], .int .u64 0, .int .u64 0] [(0, 60, 20)], none, 0⟩,
      ⟨none, .store 3 (.t 2) (.t 16), none, 0⟩,
      ⟨some 3, .mv (.t 17), none, 0⟩] false [])
  (.seq
    (.region 0 [⟨some 19, .load 3 true (.t 2), none, 0⟩,
      ⟨some 20, .load 1 true (.t 1), none, 0⟩,
      ⟨some 21, .build [.int .u8 0, .int .u8 0, .int .u8 0, .int .u8 0, .int .u8 0, .int .u8 0, .int .u8 0, .int .u8 0, .int .u8 0, .int .u8 0, .int .u8 0, .int .u8 0, .int .u8 0, .int .u8 0, .int .u8 0, .int .u8 0] [(0, 1, .c (.int .u8 10)), (1, 1, .c (.int .u8 1))] [], none, 0⟩,
      ⟨some 22, .build [.int .i64 0, .int .u8 0, .int .u8 0, .int .u8 0, .int .u8 0, .int .u8 0, .int .u8 0, .int .u8 0, .int .u8 0, .int .u8 0, .int .u8 0, .int .u8 0, .int .u8 0, .int .u8 0, .int .u8 0, .int .u8 0, .int .u8 0] [(0, 1, .c (.int .i64 4)), (1, 16, .t 21)] [], none, 0⟩,
      ⟨some 23, .callV 12 [.t 19, .t 20, .t 22, .c (.int .u64 5)] false, none, 0⟩,
      ⟨some 18, .mv (.t 23), none, 0⟩,
      ⟨some 24, .extr (.t 18) 0, none, 0⟩,
      ⟨some 25, .extr (.t 18) 1, none, 0⟩,
      ⟨none, .store 3 (.t 2) (.t 24), none, 0⟩,
      ⟨some 4, .mv (.t 25), none, 0⟩] false [])
  (.seq
    (.region 1 [⟨some 27, .load 3 true (.t 2), none, 0⟩,
      ⟨some 28, .callV 30 [.t 27] false, none, 0⟩,
      ⟨some 26, .mv (.t 28), none, 0⟩,
      ⟨some 29, .extr (.t 26) 0, none, 0⟩,
      ⟨some 30, .extr (.t 26) 1, none, 0⟩,
      ⟨some 5, .alloc 25 [.int .u64 0, .int .u64 0] [], none, 0⟩,
      ⟨none, .store 2 (.t 5) (.t 29), none, 0⟩,
      ⟨some 6, .mv (.t 30), none, 0⟩] false [])
  (.seq
    (.region 0 [⟨some 31, .mv (.t 3), none, 0⟩,
      ⟨some 32, .bin .eql (.t 31) (.c (.int .i64 0)), none, 0⟩,
      ⟨some 33, .mv (.t 32), none, 0⟩,
      ⟨some 34, .mv (.t 4), some (33, true), 0⟩,
      ⟨some 35, .bin .eql (.t 34) (.c (.int .i64 0)), some (33, true), 0⟩,
      ⟨some 36, .pick (.t 33) (.t 35) (.c (.bool false)), none, 0⟩,
      ⟨some 37, .mv (.t 36), none, 0⟩,
      ⟨some 38, .mv (.t 6), some (37, true), 0⟩,
      ⟨some 39, .bin .eql (.t 38) (.c (.int .i64 0)), some (37, true), 0⟩,
      ⟨some 40, .pick (.t 37) (.t 39) (.c (.bool false)), none, 0⟩,
      ⟨some 41, .mv (.t 40), none, 0⟩,
      ⟨some 42, .load 2 true (.t 5), some (41, true), 0⟩,
      ⟨some 43, .build [.int .u64 0, .int .u64 0] [(0, 1, .c (.int .u64 1)), (1, 1, .c (.int .u64 5))] [], some (41, true), 0⟩,
      ⟨some 44, .eqagg false [1, 1] (.t 42) (.t 43), some (41, true), 0⟩,
      ⟨some 45, .pick (.t 41) (.t 44) (.c (.bool false)), none, 0⟩,
      ⟨some 0, .mv (.t 45), none, 0⟩] false [])
  .ret)))))),
  false⟩
theorem c10 : cFunc Tryd.prog G f10 Tryd.f10 = some f10 := by kernel_rfl
/-- junctionbox/junctionboxlaw31.copied -/
def f11 : AFunc :=
⟨1, [.cell 2 3 true],
  (.seq
    (.region 3 [⟨some 1, .box 27 3 (.t 0) [], none, 0⟩,
      ⟨some 2, .alloc 27 [.clip [], .int .u64 0, .int .u64 0] [(0, 60, 20)], none, 1⟩] false [])
  (.seq
    (.region 2 [⟨some 3, .buildSl 60 20 [.int .i64 0, .int .u8 0, .int .u8 0, .int .u8 0, .int .u8 0, .int .u8 0, .int .u8 0, .int .u8 0, .int .u8 0, .int .u8 0, .int .u8 0, .int .u8 0, .int .u8 0, .int .u8 0, .int .u8 0, .int .u8 0, .int .u8 0, .int .i64 0, .int .u64 0, .int .u64 0] 0 [] false, none, 0⟩,
      ⟨some 4, .faddr 0 (.t 1), none, 0⟩,
      ⟨some 5, .load 1 false (.t 4), none, 0⟩,
      ⟨some 6, .append 60 20 48 (.t 3) (.t 5), none, 1⟩,
      ⟨some 7, .faddr 0 (.t 1), none, 0⟩,
      ⟨none, .store 1 (.t 7) (.t 6), none, 0⟩] false [])
  (.seq
    (.region 0 [⟨some 8, .load 3 true (.t 1), none, 0⟩,
      ⟨none, .store 3 (.t 2) (.t 8), none, 0⟩] false [])
  .ret))),
  false⟩
theorem c11 : cFunc Tryd.prog G f11 Tryd.f11 = some f11 := by kernel_rfl
/-- junctionbox/tally.Pass -/
def f12 : AFunc :=
⟨4, [.cell 8 3 true, .t 9],
  (.seq
    (.region 5 [⟨some 4, .box 27 3 (.t 0) [], none, 0⟩,
      ⟨some 5, .box 30 1 (.t 1) [], none, 1⟩,
      ⟨some 6, .box 33 17 (.t 2) [], none, 2⟩,
      ⟨some 8, .alloc 27 [.clip [], .int .u64 0, .int .u64 0] [(0, 60, 20)], none, 3⟩,
      ⟨some 9, .mv (.c (.int .i64 0)), none, 0⟩] false [])
  (.seq
    (.seq
      (.region 1 [⟨some 14, .load 3 true (.t 4), none, 0⟩,
        ⟨some 15, .load 1 true (.t 5), none, 0⟩,
        ⟨some 16, .buildSl 30 1 [.clip []] 1 [(0, .t 15)] false, none, 0⟩,
        ⟨some 17, .callV 38 [.t 14, .t 16] false, none, 0⟩,
        ⟨some 10, .mv (.t 17), none, 0⟩] false [])
    (.seq
      (.region 0 [⟨some 18, .mv (.t 10), none, 0⟩,
        ⟨some 19, .bin .neq (.t 18) (.c (.int .i64 0)), none, 0⟩] false [])
    (.cond (.t 19)
      (.seq
        (.region 1 [⟨some 20, .build [.clip [], .int .u64 0, .int .u64 0] [] [(0, 60, 20)], none, 0⟩,
          ⟨some 21, .mv (.t 10), none, 0⟩,
          ⟨none, .store 3 (.t 8) (.t 20), none, 0⟩,
          ⟨some 9, .mv (.t 21), none, 0⟩] false [])
      .ret)
      .skip)))
  (.seq
    (.region 1 [⟨some 23, .load 1 true (.t 5), none, 0⟩,
      ⟨some 24, .load 17 true (.t 6), none, 0⟩,
      ⟨some 25, .callV 39 [.t 23, .t 24] false, none, 0⟩,
      ⟨some 22, .mv (.t 25), none, 0⟩,
      ⟨some 26, .extr (.t 22) 0, none, 0⟩,
      ⟨some 27, .extr (.t 22) 1, none, 0⟩,
      ⟨some 28, .extr (.t 22) 2, none, 0⟩,
      ⟨some 11, .alloc 85 [.int .i64 0, .int .u8 0, .int .u8 0, .int .u8 0, .int .u8 0, .int .u8 0, .int .u8 0, .int .u8 0, .int .u8 0, .int .u8 0, .int .u8 0, .int .u8 0, .int .u8 0, .int .u8 0, .int .u8 0, .int .u8 0, .int .u8 0, .int .i64 0, .int .i64 0] [], none, 0⟩,
      ⟨none, .store 19 (.t 11) (.t 26), none, 0⟩,
      ⟨some 12, .mv (.t 27), none, 0⟩,
      ⟨some 13, .mv (.t 28), none, 0⟩] false [])
  (.seq
    (.block 0
      (.seq
        (.region 0 [⟨some 30, .mv (.t 13), none, 0⟩,
          ⟨some 31, .bin .neq (.t 30) (.c (.int .i64 0)), none, 0⟩,
          ⟨some 29, .mv (.t 31), none, 0⟩] false [])
      (.cond (.t 29)
        (.seq
          (.region 1 [⟨some 32, .build [.clip [], .int .u64 0, .int .u64 0] [] [(0, 60, 20)], none, 0⟩,
            ⟨some 33, .mv (.t 13), none, 0⟩,
            ⟨none, .store 3 (.t 8) (.t 32), none, 0⟩,
            ⟨some 9, .mv (.t 33), none, 0⟩] false [])
        .ret)
        (.seq
          (.region 0 [⟨some 35, .mv (.t 3), none, 0⟩,
            ⟨some 36, .bin .gtr (.t 35) (.c (.int .u64 4611686018427387904)), none, 0⟩,
            ⟨some 34, .mv (.t 36), none, 0⟩] false [])
        (.cond (.t 34)
          (.seq
            (.region 1 [⟨some 37, .build [.clip [], .int .u64 0, .int .u64 0] [] [(0, 60, 20)], none, 0⟩,
              ⟨none, .store 3 (.t 8) (.t 37), none, 0⟩,
              ⟨some 9, .mv (.c (.int .i64 2)), none, 0⟩] false [])
          .ret)
          .skip)))))
  (.seq
    (.region 1 [⟨some 38, .faddr 0 (.t 4), none, 0⟩,
      ⟨some 39, .load 1 false (.t 38), none, 0⟩,
      ⟨some 40, .callV 40 [.t 39] true, none, 0⟩,
      ⟨some 41, .faddr 0 (.t 4), none, 0⟩,
      ⟨none, .store 1 (.t 41) (.t 40), none, 0⟩] false [])
  (.seq
    (.region 0 [⟨some 42, .faddr 0 (.t 11), none, 0⟩,
      ⟨some 43, .load 18 true (.t 42), none, 0⟩,
      ⟨some 44, .mv (.t 12), none, 0⟩,
      ⟨some 45, .mv (.t 3), none, 0⟩,
      ⟨some 46, .build [.int .u64 0, .int .u64 0] [(0, 1, .c (.int .u64 1)), (1, 1, .t 45)] [], none, 0⟩,
      ⟨some 47, .callR (.c (.clo 41 [])) [.t 4, .t 43, .t 44, .t 46] false, none, 0⟩] false [])
  (.seq
    (.region 0 [⟨some 48, .load 3 true (.t 4), none, 0⟩,
      ⟨none, .store 3 (.t 8) (.t 48), none, 0⟩,
      ⟨some 9, .mv (.c (.int .i64 0)), none, 0⟩] false [])
  .ret))))))),
  false⟩
theorem c12 : cFunc Tryd.prog G f12 Tryd.f12 = some f12 := by kernel_rfl
/-- junctionbox/junctionboxref31.Pass -/
def f13 : AFunc :=
⟨4, [.cell 8 3 true, .t 9],
  (.seq
    (.region 5 [⟨some 4, .box 27 3 (.t 0) [], none, 0⟩,
      ⟨some 5, .box 30 1 (.t 1) [], none, 1⟩,
      ⟨some 6, .box 33 17 (.t 2) [], none, 2⟩,
      ⟨some 8, .alloc 27 [.clip [], .int .u64 0, .int .u64 0] [(0, 60, 20)], none, 3⟩,
      ⟨some 9, .mv (.c (.int .i64 0)), none, 0⟩] false [])
  (.seq
    (.seq
      (.region 0 [⟨some 13, .load 3 true (.t 4), none, 0⟩,
        ⟨some 14, .load 1 true (.t 5), none, 0⟩,
        ⟨some 15, .load 1 true (.t 5), none, 0⟩,
        ⟨some 16, .callV 42 [.t 13, .t 14, .t 15] false, none, 0⟩,
        ⟨some 10, .mv (.t 16), none, 0⟩] false [])
    (.seq
      (.region 0 [⟨some 17, .mv (.t 10), none, 0⟩,
        ⟨some 18, .bin .neq (.t 17) (.c (.int .i64 0)), none, 0⟩] false [])
    (.cond (.t 18)
      (.seq
        (.region 1 [⟨some 19, .build [.clip [], .int .u64 0, .int .u64 0] [] [(0, 60, 20)], none, 0⟩,
          ⟨some 20, .mv (.t 10), none, 0⟩,
          ⟨none, .store 3 (.t 8) (.t 19), none, 0⟩,
          ⟨some 9, .mv (.t 20), none, 0⟩] false [])
      .ret)
      .skip)))
  (.seq
    (.seq
      (.region 0 [⟨some 21, .load 17 true (.t 6), none, 0⟩,
        ⟨some 22, .callV 43 [.t 21] false, none, 0⟩,
        ⟨some 23, .not (.t 22), none, 0⟩] false [])
    (.cond (.t 23)
      (.seq
        (.region 1 [⟨some 24, .build [.clip [], .int .u64 0, .int .u64 0] [] [(0, 60, 20)], none, 0⟩,
          ⟨none, .store 3 (.t 8) (.t 24), none, 0⟩,
          ⟨some 9, .mv (.c (.int .i64 150)), none, 0⟩] false [])
      .ret)
      .skip))
  (.seq
    (.seq
      (.region 0 [⟨some 25, .mv (.t 3), none, 0⟩,
        ⟨some 26, .bin .gtr (.t 25) (.c (.int .u64 4611686018427387904)), none, 0⟩] false [])
    (.cond (.t 26)
      (.seq
        (.region 1 [⟨some 27, .build [.clip [], .int .u64 0, .int .u64 0] [] [(0, 60, 20)], none, 0⟩,
          ⟨none, .store 3 (.t 8) (.t 27), none, 0⟩,
          ⟨some 9, .mv (.c (.int .i64 2)), none, 0⟩] false [])
      .ret)
      .skip))
  (.seq
    (.region 0 [⟨some 11, .mv (.c (.int .i64 (-1))), none, 0⟩] false [])
  (.seq
    (.seq
      (.region 0 [⟨some 12, .mv (.c (.int .i64 0)), none, 0⟩] false [])
    (.block 0
      (.loop [3, 4, 5, 6, 8, 11, 12]
        (.seq
          (.seq
            (.region 0 [⟨some 28, .mv (.t 12), none, 0⟩,
              ⟨some 29, .faddr 0 (.t 5), none, 0⟩,
              ⟨some 30, .load 1 false (.t 29), none, 0⟩,
              ⟨some 31, .len (.t 30), none, 0⟩,
              ⟨some 32, .bin .lss (.t 28) (.t 31), none, 0⟩] false [])
          (.cond (.t 32)
            .skip
            (.exit 0)))
        (.seq
          (.block 1
            (.seq
              (.region 0 [⟨some 35, .faddr 0 (.t 5), none, 0⟩,
                ⟨some 36, .load 1 false (.t 35), none, 0⟩,
                ⟨some 37, .mv (.t 12), none, 0⟩,
                ⟨some 38, .iaddr 19 none (.t 36) (.t 37), none, 0⟩,
                ⟨some 39, .faddr 0 (.t 38), none, 0⟩,
                ⟨some 40, .load 18 true (.t 39), none, 0⟩,
                ⟨some 41, .load 17 true (.t 6), none, 0⟩,
                ⟨some 42, .callV 44 [.t 40, .t 41] false, none, 0⟩,
                ⟨some 43, .mv (.t 42), none, 0⟩,
                ⟨some 44, .mv (.t 11), some (43, true), 0⟩,
                ⟨some 45, .bin .lss (.t 44) (.c (.int .i64 0)), some (43, true), 0⟩,
                ⟨some 46, .mv (.t 45), some (43, true), 0⟩,
                ⟨some 47, .faddr 0 (.t 5), some (46, false), 0⟩,
                ⟨some 48, .load 1 false (.t 47), some (46, false), 0⟩,
                ⟨some 49, .mv (.t 12), some (46, false), 0⟩,
                ⟨some 50, .iaddr 19 none (.t 48) (.t 49), some (46, false), 0⟩,
                ⟨some 51, .faddr 0 (.t 50), some (46, false), 0⟩,
                ⟨some 52, .faddr 17 (.t 51), some (46, false), 0⟩,
                ⟨some 53, .load 1 false (.t 52), some (46, false), 0⟩,
                ⟨some 54, .faddr 0 (.t 5), some (46, false), 0⟩,
                ⟨some 55, .load 1 false (.t 54), some (46, false), 0⟩,
                ⟨some 56, .mv (.t 11), some (46, false), 0⟩,
                ⟨some 57, .iaddr 19 none (.t 55) (.t 56), some (46, false), 0⟩,
                ⟨some 58, .faddr 0 (.t 57), some (46, false), 0⟩,
                ⟨some 59, .faddr 17 (.t 58), some (46, false), 0⟩,
                ⟨some 60, .load 1 false (.t 59), some (46, false), 0⟩,
                ⟨some 61, .bin .gtr (.t 53) (.t 60), some (46, false), 0⟩,
                ⟨some 62, .pick (.t 46) (.c (.bool true)) (.t 61), some (43, true), 0⟩,
                ⟨some 63, .pick (.t 43) (.t 62) (.c (.bool false)), none, 0⟩] true [])
            (.cond (.t 63)
              (.region 0 [⟨some 64, .mv (.t 12), none, 0⟩,
                ⟨some 11, .mv (.t 64), none, 0⟩] false [])
              .skip)))
        (.region 0 [⟨some 33, .mv (.t 12), none, 0⟩,
          ⟨some 34, .bin .add (.t 33) (.c (.int .i64 1)), none, 0⟩,
          ⟨some 12, .mv (.t 34), none, 0⟩] false []))))))
  (.seq
    (.region 0 [⟨some 65, .load 3 true (.t 4), none, 0⟩,
      ⟨some 66, .mv (.t 11), none, 0⟩,
      ⟨some 67, .mv (.t 3), none, 0⟩,
      ⟨some 68, .build [.int .u64 0, .int .u64 0] [(0, 1, .c (.int .u64 1)), (1, 1, .t 67)] [], none, 0⟩,
      ⟨some 69, .callV 45 [.t 65, .t 66, .t 68] false, none, 0⟩,
      ⟨none, .store 3 (.t 8) (.t 69), none, 0⟩,
      ⟨some 9, .mv (.c (.int .i64 0)), none, 0⟩] false [])
  .ret))))))),
  false⟩
theorem c13 : cFunc Tryd.prog G f13 Tryd.f13 = some f13 := by kernel_rfl
/-- junctionbox/tally.New -/
def f14 : AFunc :=
⟨1, [.cell 2 3 true, .t 3],
  (.seq
    (.region 3 [⟨some 1, .box 30 1 (.t 0) [], none, 0⟩,
      ⟨some 2, .alloc 27 [.clip [], .int .u64 0, .int .u64 0] [(0, 60, 20)], none, 1⟩,
      ⟨some 3, .mv (.c (.int .i64 0)), none, 0⟩] false [])
  (.seq
    (.seq
      (.region 0 [⟨some 5, .load 1 true (.t 1), none, 0⟩,
        ⟨some 6, .callV 26 [.t 5] false, none, 0⟩,
        ⟨some 4, .mv (.t 6), none, 0⟩] false [])
    (.seq
      (.region 0 [⟨some 7, .mv (.t 4), none, 0⟩,
        ⟨some 8, .bin .neq (.t 7) (.c (.int .i64 0)), none, 0⟩] false [])
    (.cond (.t 8)
      (.seq
        (.region 1 [⟨some 9, .build [.clip [], .int .u64 0, .int .u64 0] [] [(0, 60, 20)], none, 0⟩,
          ⟨some 10, .mv (.t 4), none, 0⟩,
          ⟨none, .store 3 (.t 2) (.t 9), none, 0⟩,
          ⟨some 3, .mv (.t 10), none, 0⟩] false [])
      .ret)
      .skip)))
  (.seq
    (.region 0 [⟨some 11, .load 1 true (.t 1), none, 0⟩,
      ⟨some 12, .callV 46 [.t 11] false, none, 0⟩,
      ⟨none, .store 3 (.t 2) (.t 12), none, 0⟩,
      ⟨some 3, .mv (.c (.int .i64 0)), none, 0⟩] false [])
  .ret))),
  false⟩
theorem c14 : cFunc Tryd.prog G f14 Tryd.f14 = some f14 := by kernel_rfl
/-- junctionbox/junctionboxref09.Right -/
def f15 : AFunc :=
⟨1, [.t 2],
  (.seq
    (.region 1 [⟨some 1, .box 30 1 (.t 0) [], none, 0⟩,
      ⟨some 2, .mv (.c (.bool false)), none, 0⟩] false [])
  (.seq
    (.seq
      (.region 0 [⟨some 5, .faddr 0 (.t 1), none, 0⟩,
        ⟨some 6, .load 1 false (.t 5), none, 0⟩,
        ⟨some 7, .len (.t 6), none, 0⟩,
        ⟨some 8, .bin .gtr (.t 7) (.c (.int .i64 40)), none, 0⟩] false [])
    (.cond (.t 8)
      (.seq
        (.region 0 [⟨some 2, .mv (.c (.bool false)), none, 0⟩] false [])
      .ret)
      .skip))
  (.seq
    (.seq
      (.region 0 [⟨some 3, .mv (.c (.int .i64 0)), none, 0⟩] false [])
    (.block 0
      (.loop [1, 3]
        (.seq
          (.seq
            (.region 0 [⟨some 9, .mv (.t 3), none, 0⟩,
              ⟨some 10, .faddr 0 (.t 1), none, 0⟩,
              ⟨some 11, .load 1 false (.t 10), none, 0⟩,
              ⟨some 12, .len (.t 11), none, 0⟩,
              ⟨some 13, .bin .lss (.t 9) (.t 12), none, 0⟩] false [])
          (.cond (.t 13)
            .skip
            (.exit 0)))
        (.seq
          (.block 1
            (.seq
              (.region 1 [⟨some 16, .faddr 0 (.t 1), none, 0⟩,
                ⟨some 17, .load 1 false (.t 16), none, 0⟩,
                ⟨some 18, .mv (.t 3), none, 0⟩,
                ⟨some 19, .iaddr 19 none (.t 17) (.t 18), none, 0⟩,
                ⟨some 20, .load 19 true (.t 19), none, 0⟩,
                ⟨some 4, .alloc 85 [.int .i64 0, .int .u8 0, .int .u8 0, .int .u8 0, .int .u8 0, .int .u8 0, .int .u8 0, .int .u8 0, .int .u8 0, .int .u8 0, .int .u8 0, .int .u8 0, .int .u8 0, .int .u8 0, .int .u8 0, .int .u8 0, .int .u8 0, .int .i64 0, .int .i64 0] [], none, 0⟩,
                ⟨none, .store 19 (.t 4) (.t 20), none, 0⟩] false [])
            (.seq
              (.region 0 [⟨some 21, .faddr 0 (.t 4), none, 0⟩,
                ⟨some 22, .load 18 true (.t 21), none, 0⟩,
                ⟨some 23, .callV 35 [.t 22] false, none, 0⟩,
                ⟨some 24, .not (.t 23), none, 0⟩,
                ⟨some 25, .mv (.t 24), none, 0⟩,
                ⟨some 26, .faddr 18 (.t 4), some (25, false), 0⟩,
                ⟨some 27, .load 1 false (.t 26), some (25, false), 0⟩,
                ⟨some 28, .bin .lss (.t 27) (.c (.int .i64 1)), some (25, false), 0⟩,
                ⟨some 29, .pick (.t 25) (.c (.bool true)) (.t 28), none, 0⟩,
                ⟨some 30, .mv (.t 29), none, 0⟩,
                ⟨some 31, .faddr 18 (.t 4), some (30, false), 0⟩,
                ⟨some 32, .load 1 false (.t 31), some (30, false), 0⟩,
                ⟨some 33, .bin .gtr (.t 32) (.c (.int .i64 255)), some (30, false), 0⟩,
                ⟨some 34, .pick (.t 30) (.c (.bool true)) (.t 33), none, 0⟩,
                ⟨some 35, .mv (.t 34), none, 0⟩,
                ⟨some 36, .mv (.t 3), some (35, false), 0⟩,
                ⟨some 37, .bin .gtr (.t 36) (.c (.int .i64 0)), some (35, false), 0⟩,
                ⟨some 38, .mv (.t 37), some (35, false), 0⟩,
                ⟨some 39, .faddr 0 (.t 1), some (38, true), 0⟩,
                ⟨some 40, .load 1 false (.t 39), some (38, true), 0⟩,
                ⟨some 41, .mv (.t 3), some (38, true), 0⟩,
                ⟨some 42, .bin .sub (.t 41) (.c (.int .i64 1)), some (38, true), 0⟩,
                ⟨some 43, .iaddr 19 none (.t 40) (.t 42), some (38, true), 0⟩,
                ⟨some 44, .faddr 0 (.t 43), some (38, true), 0⟩,
                ⟨some 45, .load 18 true (.t 44), some (38, true), 0⟩,
                ⟨some 46, .faddr 0 (.t 4), some (38, true), 0⟩,
                ⟨some 47, .load 18 true (.t 46), some (38, true), 0⟩,
                ⟨some 48, .callV 47 [.t 45, .t 47] false, some (38, true), 0⟩,
                ⟨some 49, .bin .geq (.t 48) (.c (.int .i64 0)), some (38, true), 0⟩,
                ⟨some 50, .pick (.t 38) (.t 49) (.c (.bool false)), some (35, false), 0⟩,
                ⟨some 51, .pick (.t 35) (.c (.bool true)) (.t 50), none, 0⟩] true [])
            (.cond (.t 51)
              (.seq
                (.region 0 [⟨some 2, .mv (.c (.bool false)), none, 0⟩] false [])
              .ret)
              .skip))))
        (.region 0 [⟨some 14, .mv (.t 3), none, 0⟩,
          ⟨some 15, .bin .add (.t 14) (.c (.int .i64 1)), none, 0⟩,
          ⟨some 3, .mv (.t 15), none, 0⟩] false []))))))
  (.seq
    (.region 0 [⟨some 2, .mv (.c (.bool true)), none, 0⟩] false [])
  .ret)))),
  false⟩
theorem c15 : cFunc Tryd.prog G f15 Tryd.f15 = some f15 := by kernel_rfl
/-- junctionbox/junctionboxref31.Same -/
def f16 : AFunc :=
⟨2, [.t 4],
  (.seq
    (.region 2 [⟨some 2, .box 27 3 (.t 0) [], none, 0⟩,
      ⟨some 3, .box 27 3 (.t 1) [], none, 1⟩,
      ⟨some 4, .mv (.c (.bool false)), none, 0⟩] false [])
  (.seq
    (.region 0 [⟨some 5, .faddr 1 (.t 2), none, 0⟩,
      ⟨some 6, .load 2 true (.t 5), none, 0⟩,
      ⟨some 7, .faddr 1 (.t 3), none, 0⟩,
      ⟨some 8, .load 2 true (.t 7), none, 0⟩,
      ⟨some 9, .eqagg false [1, 1] (.t 6) (.t 8), none, 0⟩,
      ⟨some 10, .mv (.t 9), none, 0⟩,
      ⟨some 11, .faddr 0 (.t 2), some (10, true), 0⟩,
      ⟨some 12, .load 1 false (.t 11), some (10, true), 0⟩,
      ⟨some 13, .faddr 0 (.t 3), some (10, true), 0⟩,
      ⟨some 14, .load 1 false (.t 13), some (10, true), 0⟩,
      ⟨some 15, .callV 36 [.t 12, .t 14] false, some (10, true), 0⟩,
      ⟨some 16, .pick (.t 10) (.t 15) (.c (.bool false)), none, 0⟩,
      ⟨some 4, .mv (.t 16), none, 0⟩] false [])
  .ret)),
  false⟩
theorem c16 : cFunc Tryd.prog G f16 Tryd.f16 = some f16 := by kernel_rfl
/-- junctionbox/junctionboxref31.Zero -/
def f17 : AFunc :=
⟨1, [.cell 2 3 true],
  (.seq
    (.region 3 [⟨some 1, .box 30 1 (.t 0) [], none, 0⟩,
      ⟨some 2, .alloc 27 [.clip [], .int .u64 0, .int .u64 0] [(0, 60, 20)], none, 1⟩] false [])
  (.seq
    (.region 2 [⟨some 3, .alloc 27 [.clip [], .int .u64 0, .int .u64 0] [(0, 60, 20)], none, 0⟩] false [])
  (.seq
    (.seq
      (.region 0 [⟨some 4, .mv (.c (.int .i64 0)), none, 0⟩] false [])
    (.block 0
      (.loop [1, 2, 3, 4]
        (.seq
          (.seq
            (.region 0 [⟨some 5, .mv (.t 4), none, 0⟩,
              ⟨some 6, .faddr 0 (.t 1), none, 0⟩,
              ⟨some 7, .load 1 false (.t 6), none, 0⟩,
              ⟨some 8, .len (.t 7), none, 0⟩,
              ⟨some 9, .bin .lss (.t 5) (.t 8), none, 0⟩] false [])
          (.cond (.t 9)
            .skip
            (.exit 0)))
        (.seq
          (.block 1
            (.region 2 [⟨some 12, .faddr 0 (.t 3), none, 0⟩,
              ⟨some 13, .load 1 false (.t 12), none, 0⟩,
              ⟨some 14, .faddr 0 (.t 1), none, 0⟩,
              ⟨some 15, .load 1 false (.t 14), none, 0⟩,
              ⟨some 16, .mv (.t 4), none, 0⟩,
              ⟨some 17, .iaddr 19 none (.t 15) (.t 16), none, 0⟩,
              ⟨some 18, .faddr 0 (.t 17), none, 0⟩,
              ⟨some 19, .load 18 true (.t 18), none, 0⟩,
              ⟨some 20, .build [.int .i64 0, .int .u8 0, .int .u8 0, .int .u8 0, .int .u8 0, .int .u8 0, .int .u8 0, .int .u8 0, .int .u8 0, .int .u8 0, .int .u8 0, .int .u8 0, .int .u8 0, .int .u8 0, .int .u8 0, .int .u8 0, .int .u8 0, .int .i64 0, .int .u64 0, .int .u64 0] [(0, 18, .t 19)] [], none, 0⟩,
              ⟨some 21, .buildSl 60 20 [.int .i64 0, .int .u8 0, .int .u8 0, .int .u8 0, .int .u8 0, .int .u8 0, .int .u8 0, .int .u8 0, .int .u8 0, .int .u8 0, .int .u8 0, .int .u8 0, .int .u8 0, .int .u8 0, .int .u8 0, .int .u8 0, .int .u8 0, .int .i64 0, .int .u64 0, .int .u64 0] 1 [(0, .t 20)] false, none, 0⟩,
              ⟨some 22, .append 60 20 48 (.t 13) (.t 21), none, 1⟩,
              ⟨some 23, .faddr 0 (.t 3), none, 0⟩,
              ⟨none, .store 1 (.t 23) (.t 22), none, 0⟩] true []))
        (.region 0 [⟨some 10, .mv (.t 4), none, 0⟩,
          ⟨some 11, .bin .add (.t 10) (.c (.int .i64 1)), none, 0⟩,
          ⟨some 4, .mv (.t 11), none, 0⟩] false []))))))
  (.seq
    (.region 0 [⟨some 24, .load 3 true (.t 3), none, 0⟩,
      ⟨none, .store 3 (.t 2) (.t 24), none, 0⟩] false [])
  .ret)))),
  false⟩
theorem c17 : cFunc Tryd.prog G f17 Tryd.f17 = some f17 := by kernel_rfl
/-- junctionbox/tally.Move -/
def f18 : AFunc :=
⟨3, [.cell 6 3 true, .t 7],
  (.seq
    (.region 5 [⟨some 3, .box 27 3 (.t 0) [], none, 0⟩,
      ⟨some 4, .box 30 1 (.t 1) [], none, 1⟩,
      ⟨some 5, .box 30 1 (.t 2) [], none, 2⟩,
      ⟨some 6, .alloc 27 [.clip [], .int .u64 0, .int .u64 0] [(0, 60, 20)], none, 3⟩,
      ⟨some 7, .mv (.c (.int .i64 0)), none, 0⟩] false [])
  (.seq
    (.seq
      (.region 1 [⟨some 14, .load 3 true (.t 3), none, 0⟩,
        ⟨some 15, .load 1 true (.t 4), none, 0⟩,
        ⟨some 16, .load 1 true (.t 5), none, 0⟩,
        ⟨some 17, .buildSl 30 1 [.clip []] 2 [(0, .t 15), (1, .t 16)] false, none, 0⟩,
        ⟨some 18, .callV 38 [.t 14, .t 17] false, none, 0⟩,
        ⟨some 8, .mv (.t 18), none, 0⟩] false [])
    (.seq
      (.region 0 [⟨some 19, .mv (.t 8), none, 0⟩,
        ⟨some 20, .bin .neq (.t 19) (.c (.int .i64 0)), none, 0⟩] false [])
    (.cond (.t 20)
      (.seq
        (.region 1 [⟨some 21, .build [.clip [], .int .u64 0, .int .u64 0] [] [(0, 60, 20)], none, 0⟩,
          ⟨some 22, .mv (.t 8), none, 0⟩,
          ⟨none, .store 3 (.t 6) (.t 21), none, 0⟩,
          ⟨some 7, .mv (.t 22), none, 0⟩] false [])
      .ret)
      .skip)))
  (.seq
    (.region 3 [⟨some 23, .load 1 true (.t 5), none, 0⟩,
      ⟨some 24, .callV 46 [.t 23] true, none, 0⟩,
      ⟨some 9, .alloc 27 [.clip [], .int .u64 0, .int .u64 0] [(0, 60, 20)], none, 1⟩,
      ⟨none, .store 3 (.t 9) (.t 24), none, 0⟩] false [])
  (.seq
    (.region 0 [⟨some 25, .faddr 1 (.t 3), none, 0⟩,
      ⟨some 26, .load 2 true (.t 25), none, 0⟩,
      ⟨some 27, .faddr 1 (.t 9), none, 0⟩,
      ⟨none, .store 2 (.t 27) (.t 26), none, 0⟩] false [])
  (.seq
    (.seq
      (.region 0 [⟨some 28, .faddr 0 (.t 3), none, 0⟩,
        ⟨some 29, .load 1 false (.t 28), none, 0⟩,
        ⟨some 30, .len (.t 29), none, 0⟩,
        ⟨some 31, .mv (.c (.int .i64 0)), none, 0⟩] false [])
    (.block 0
      (.loop [5, 6, 9, 29, 30, 31]
        (.seq
          (.region 0 [⟨some 32, .bin .lss (.t 31) (.t 30), none, 0⟩] false [])
        (.seq
          (.cond (.t 32)
            .skip
            (.exit 0))
        (.seq
          (.block 1
            (.seq
              (.region 1 [⟨some 33, .iaddr 20 none (.t 29) (.t 31), none, 0⟩,
                ⟨some 34, .load 20 true (.t 33), none, 0⟩,
                ⟨some 11, .alloc 60 [.int .i64 0, .int .u8 0, .int .u8 0, .int .u8 0, .int .u8 0, .int .u8 0, .int .u8 0, .int .u8 0, .int .u8 0, .int .u8 0, .int .u8 0, .int .u8 0, .int .u8 0, .int .u8 0, .int .u8 0, .int .u8 0, .int .u8 0, .int .i64 0, .int .u64 0, .int .u64 0] [], none, 0⟩,
                ⟨none, .store 20 (.t 11) (.t 34), none, 0⟩] false [])
            (.seq
              (.region 1 [⟨some 36, .load 1 true (.t 5), none, 0⟩,
                ⟨some 37, .faddr 0 (.t 11), none, 0⟩,
                ⟨some 38, .load 18 true (.t 37), none, 0⟩,
                ⟨some 39, .callV 48 [.t 36, .t 38] false, none, 0⟩,
                ⟨some 35, .mv (.t 39), none, 0⟩,
                ⟨some 40, .extr (.t 35) 0, none, 0⟩,
                ⟨some 41, .extr (.t 35) 1, none, 0⟩,
                ⟨some 12, .alloc 58 [.int .i64 0, .int .u8 0, .int .u8 0, .int .u8 0, .int .u8 0, .int .u8 0, .int .u8 0, .int .u8 0, .int .u8 0, .int .u8 0, .int .u8 0, .int .u8 0, .int .u8 0, .int .u8 0, .int .u8 0, .int .u8 0, .int .u8 0, .int .i64 0] [], none, 0⟩,
                ⟨none, .store 18 (.t 12) (.t 40), none, 0⟩,
                ⟨some 13, .mv (.t 41), none, 0⟩] false [])
            (.region 0 [⟨some 42, .load 18 true (.t 12), none, 0⟩,
              ⟨some 43, .mv (.t 13), none, 0⟩,
              ⟨some 44, .faddr 18 (.t 11), none, 0⟩,
              ⟨some 45, .load 2 true (.t 44), none, 0⟩,
              ⟨some 46, .callR (.c (.clo 41 [])) [.t 9, .t 42, .t 43, .t 45] false, none, 0⟩] false []))))
        (.region 0 [⟨some 47, .bin .add (.t 31) (.c (.int .i64 1)), none, 0⟩,
          ⟨some 31, .mv (.t 47), none, 0⟩] false [])))))))
  (.seq
    (.region 0 [⟨some 48, .load 3 true (.t 9), none, 0⟩,
      ⟨none, .store 3 (.t 6) (.t 48), none, 0⟩,
      ⟨some 7, .mv (.c (.int .i64 0)), none, 0⟩] false [])
  .ret)))))),
  false⟩
theorem c18 : cFunc Tryd.prog G f18 Tryd.f18 = some f18 := by kernel_rfl
/-- junctionbox/junctionboxref31.Move -/
def f19 : AFunc :=
⟨3, [.cell 6 3 true, .t 7],
  (.seq
    (.region 5 [⟨some 3, .box 27 3 (.t 0) [], none, 0⟩,
      ⟨some 4, .box 30 1 (.t 1) [], none, 1⟩,
      ⟨some 5, .box 30 1 (.t 2) [], none, 2⟩,
      ⟨some 6, .alloc 27 [.clip [], .int .u64 0, .int .u64 0] [(0, 60, 20)], none, 3⟩,
      ⟨some 7, .mv (.c (.int .i64 0)), none, 0⟩] false [])
  (.seq
    (.seq
      (.region 0 [⟨some 11, .load 3 true (.t 3), none, 0⟩,
        ⟨some 12, .load 1 true (.t 4), none, 0⟩,
        ⟨some 13, .load 1 true (.t 5), none, 0⟩,
        ⟨some 14, .callV 42 [.t 11, .t 12, .t 13] false, none, 0⟩,
        ⟨some 8, .mv (.t 14), none, 0⟩] false [])
    (.seq
      (.region 0 [⟨some 15, .mv (.t 8), none, 0⟩,
        ⟨some 16, .bin .neq (.t 15) (.c (.int .i64 0)), none, 0⟩] false [])
    (.cond (.t 16)
      (.seq
        (.region 1 [⟨some 17, .build [.clip [], .int .u64 0, .int .u64 0] [] [(0, 60, 20)], none, 0⟩,
          ⟨some 18, .mv (.t 8), none, 0⟩,
          ⟨none, .store 3 (.t 6) (.t 17), none, 0⟩,
          ⟨some 7, .mv (.t 18), none, 0⟩] false [])
      .ret)
      .skip)))
  (.seq
    (.region 2 [⟨some 19, .load 1 true (.t 5), none, 0⟩,
      ⟨some 20, .callV 17 [.t 19] false, none, 0⟩,
      ⟨some 9, .alloc 27 [.clip [], .int .u64 0, .int .u64 0] [(0, 60, 20)], none, 0⟩,
      ⟨none, .store 3 (.t 9) (.t 20), none, 0⟩] false [])
  (.seq
    (.region 0 [⟨some 21, .faddr 1 (.t 3), none, 0⟩,
      ⟨some 22, .load 2 true (.t 21), none, 0⟩,
      ⟨some 23, .faddr 1 (.t 9), none, 0⟩,
      ⟨none, .store 2 (.t 23) (.t 22), none, 0⟩] false [])
  (.seq
    (.seq
      (.region 0 [⟨some 10, .mv (.c (.int .i64 0)), none, 0⟩] false [])
    (.block 0
      (.loop [3, 5, 6, 9, 10]
        (.seq
          (.seq
            (.region 0 [⟨some 24, .mv (.t 10), none, 0⟩,
              ⟨some 25, .faddr 0 (.t 3), none, 0⟩,
              ⟨some 26, .load 1 false (.t 25), none, 0⟩,
              ⟨some 27, .len (.t 26), none, 0⟩,
              ⟨some 28, .bin .lss (.t 24) (.t 27), none, 0⟩] false [])
          (.cond (.t 28)
            .skip
            (.exit 0)))
        (.seq
          (.block 1
            (.region 0 [⟨some 31, .load 3 true (.t 9), none, 0⟩,
              ⟨some 32, .load 1 true (.t 5), none, 0⟩,
              ⟨some 33, .faddr 0 (.t 3), none, 0⟩,
              ⟨some 34, .load 1 false (.t 33), none, 0⟩,
              ⟨some 35, .mv (.t 10), none, 0⟩,
              ⟨some 36, .iaddr 20 none (.t 34) (.t 35), none, 0⟩,
              ⟨some 37, .faddr 0 (.t 36), none, 0⟩,
              ⟨some 38, .load 18 true (.t 37), none, 0⟩,
              ⟨some 39, .callV 49 [.t 32, .t 38] false, none, 0⟩,
              ⟨some 40, .faddr 0 (.t 3), none, 0⟩,
              ⟨some 41, .load 1 false (.t 40), none, 0⟩,
              ⟨some 42, .mv (.t 10), none, 0⟩,
              ⟨some 43, .iaddr 20 none (.t 41) (.t 42), none, 0⟩,
              ⟨some 44, .faddr 18 (.t 43), none, 0⟩,
              ⟨some 45, .load 2 true (.t 44), none, 0⟩,
              ⟨some 46, .callV 45 [.t 31, .t 39, .t 45] false, none, 0⟩,
              ⟨none, .store 3 (.t 9) (.t 46), none, 0⟩] true []))
        (.region 0 [⟨some 29, .mv (.t 10), none, 0⟩,
          ⟨some 30, .bin .add (.t 29) (.c (.int .i64 1)), none, 0⟩,
          ⟨some 10, .mv (.t 30), none, 0⟩] false []))))))
  (.seq
    (.region 0 [⟨some 47, .load 3 true (.t 9), none, 0⟩,
      ⟨none, .store 3 (.t 6) (.t 47), none, 0⟩,
      ⟨some 7, .mv (.c (.int .i64 0)), none, 0⟩] false [])
  .ret)))))),
  false⟩
theorem c19 : cFunc Tryd.prog G f19 Tryd.f19 = some f19 := by kernel_rfl
/-- junctionbox/tally.Plus -/
def f20 : AFunc :=
⟨2, [.cell 4 2 true, .t 5],
  (.seq
    (.region 3 [⟨some 2, .box 25 2 (.t 0) [], none, 0⟩,
      ⟨some 3, .box 25 2 (.t 1) [], none, 1⟩,
      ⟨some 4, .alloc 25 [.int .u64 0, .int .u64 0] [], none, 2⟩,
      ⟨some 5, .mv (.c (.int .i64 0)), none, 0⟩] false [])
  (.seq
    (.seq
      (.region 0 [⟨some 6, .load 2 true (.t 2), none, 0⟩,
        ⟨some 7, .callV 50 [.t 6] false, none, 0⟩,
        ⟨some 8, .not (.t 7), none, 0⟩,
        ⟨some 9, .mv (.t 8), none, 0⟩,
        ⟨some 10, .load 2 true (.t 3), some (9, false), 0⟩,
        ⟨some 11, .callV 50 [.t 10] false, some (9, false), 0⟩,
        ⟨some 12, .not (.t 11), some (9, false), 0⟩,
        ⟨some 13, .pick (.t 9) (.c (.bool true)) (.t 12), none, 0⟩] false [])
    (.cond (.t 13)
      (.seq
        (.region 0 [⟨some 14, .build [.int .u64 0, .int .u64 0] [] [], none, 0⟩,
          ⟨none, .store 2 (.t 4) (.t 14), none, 0⟩,
          ⟨some 5, .mv (.c (.int .i64 2)), none, 0⟩] false [])
      .ret)
      .skip))
  (.seq
    (.region 0 [⟨some 15, .load 2 true (.t 2), none, 0⟩,
      ⟨some 16, .load 2 true (.t 3), none, 0⟩,
      ⟨some 17, .callV 51 [.t 15, .t 16] false, none, 0⟩,
      ⟨none, .store 2 (.t 4) (.t 17), none, 0⟩,
      ⟨some 5, .mv (.c (.int .i64 0)), none, 0⟩] false [])
  .ret))),
  false⟩
theorem c20 : cFunc Tryd.prog G f20 Tryd.f20 = some f20 := by kernel_rfl
/-- junctionbox/junctionboxref31.RightCount -/
def f21 : AFunc :=
⟨1, [.t 2],
  (.seq
    (.region 1 [⟨some 1, .box 25 2 (.t 0) [], none, 0⟩,
      ⟨some 2, .mv (.c (.bool false)), none, 0⟩] false [])
  (.seq
    (.region 0 [⟨some 3, .faddr 0 (.t 1), none, 0⟩,
      ⟨some 4, .load 1 false (.t 3), none, 0⟩,
      ⟨some 5, .bin .leq (.t 4) (.c (.int .u64 4611686018427387904)), none, 0⟩,
      ⟨some 6, .mv (.t 5), none, 0⟩,
      ⟨some 7, .faddr 1 (.t 1), some (6, true), 0⟩,
      ⟨some 8, .load 1 false (.t 7), some (6, true), 0⟩,
      ⟨some 9, .bin .leq (.t 8) (.c (.int .u64 4611686018427387904)), some (6, true), 0⟩,
      ⟨some 10, .pick (.t 6) (.t 9) (.c (.bool false)), none, 0⟩,
      ⟨some 2, .mv (.t 10), none, 0⟩] false [])
  .ret)),
  false⟩
theorem c21 : cFunc Tryd.prog G f21 Tryd.f21 = some f21 := by kernel_rfl
/-- junctionbox/junctionboxref31.Plus -/
def f22 : AFunc :=
⟨2, [.cell 4 2 true],
  (.seq
    (.region 3 [⟨some 2, .box 25 2 (.t 0) [], none, 0⟩,
      ⟨some 3, .box 25 2 (.t 1) [], none, 1⟩,
      ⟨some 4, .alloc 25 [.int .u64 0, .int .u64 0] [], none, 2⟩] false [])
  (.seq
    (.region 0 [⟨some 5, .faddr 0 (.t 2), none, 0⟩,
      ⟨some 6, .load 1 false (.t 5), none, 0⟩,
      ⟨some 7, .faddr 0 (.t 3), none, 0⟩,
      ⟨some 8, .load 1 false (.t 7), none, 0⟩,
      ⟨some 9, .callV 52 [.t 6, .t 8] false, none, 0⟩,
      ⟨some 10, .faddr 1 (.t 2), none, 0⟩,
      ⟨some 11, .load 1 false (.t 10), none, 0⟩,
      ⟨some 12, .faddr 1 (.t 3), none, 0⟩,
      ⟨some 13, .load 1 false (.t 12), none, 0⟩,
      ⟨some 14, .callV 52 [.t 11, .t 13] false, none, 0⟩,
      ⟨some 15, .build [.int .u64 0, .int .u64 0] [(0, 1, .t 9), (1, 1, .t 14)] [], none, 0⟩,
      ⟨none, .store 2 (.t 4) (.t 15), none, 0⟩] true [])
  .ret)),
  false⟩
theorem c22 : cFunc Tryd.prog G f22 Tryd.f22 = some f22 := by kernel_rfl
/-- junctionbox/tally.Join -/
def f23 : AFunc :=
⟨2, [.cell 4 3 true, .t 5],
  (.seq
    (.region 4 [⟨some 2, .box 27 3 (.t 0) [], none, 0⟩,
      ⟨some 3, .box 27 3 (.t 1) [], none, 1⟩,
      ⟨some 4, .alloc 27 [.clip [], .int .u64 0, .int .u64 0] [(0, 60, 20)], none, 2⟩,
      ⟨some 5, .mv (.c (.int .i64 0)), none, 0⟩] false [])
  (.seq
    (.region 0 [⟨some 6, .load 3 true (.t 2), none, 0⟩,
      ⟨some 7, .load 3 true (.t 3), none, 0⟩,
      ⟨some 8, .callR (.c (.clo 53 [])) [.t 6, .t 7, .c (.clo 51 [])] true, none, 0⟩,
      ⟨some 9, .extr (.t 8) 0, none, 0⟩,
      ⟨some 10, .extr (.t 8) 1, none, 0⟩,
      ⟨none, .store 3 (.t 4) (.t 9), none, 0⟩,
      ⟨some 5, .mv (.t 10), none, 0⟩] false [])
  .ret)),
  false⟩
theorem c23 : cFunc Tryd.prog G f23 Tryd.f23 = some f23 := by kernel_rfl
/-- junctionbox/tally.Since -/
def f24 : AFunc :=
⟨2, [.cell 4 3 true, .t 5],
  (.seq
    (.region 4 [⟨some 2, .box 27 3 (.t 0) [], none, 0⟩,
      ⟨some 3, .box 27 3 (.t 1) [], none, 1⟩,
      ⟨some 4, .alloc 27 [.clip [], .int .u64 0, .int .u64 0] [(0, 60, 20)], none, 2⟩,
      ⟨some 5, .mv (.c (.int .i64 0)), none, 0⟩] false [])
  (.seq
    (.region 1 [⟨some 6, .alloc 4 [.bool false] [], none, 0⟩,
      ⟨none, .store 1 (.t 6) (.c (.bool true)), none, 0⟩] false [])
  (.seq
    (.region 2 [⟨some 10, .load 3 true (.t 3), none, 0⟩,
      ⟨some 11, .load 3 true (.t 2), none, 0⟩,
      ⟨some 12, .clo 54 [.t 6], none, 0⟩,
      ⟨some 13, .callR (.c (.clo 53 [])) [.t 10, .t 11, .t 12] true, none, 0⟩,
      ⟨some 9, .mv (.t 13), none, 0⟩,
      ⟨some 14, .extr (.t 9) 0, none, 0⟩,
      ⟨some 15, .extr (.t 9) 1, none, 0⟩,
      ⟨some 7, .alloc 27 [.clip [], .int .u64 0, .int .u64 0] [(0, 60, 20)], none, 0⟩,
      ⟨none, .store 3 (.t 7) (.t 14), none, 0⟩,
      ⟨some 8, .mv (.t 15), none, 0⟩] false [])
  (.seq
    (.block 0
      (.seq
        (.region 0 [⟨some 17, .mv (.t 8), none, 0⟩,
          ⟨some 18, .bin .neq (.t 17) (.c (.int .i64 0)), none, 0⟩,
          ⟨some 16, .mv (.t 18), none, 0⟩] false [])
      (.cond (.t 16)
        (.seq
          (.region 1 [⟨some 19, .build [.clip [], .int .u64 0, .int .u64 0] [] [(0, 60, 20)], none, 0⟩,
            ⟨some 20, .mv (.t 8), none, 0⟩,
            ⟨none, .store 3 (.t 4) (.t 19), none, 0⟩,
            ⟨some 5, .mv (.t 20), none, 0⟩] false [])
        .ret)
        (.seq
          (.region 0 [⟨some 22, .load 1 false (.t 6), none, 0⟩,
            ⟨some 23, .not (.t 22), none, 0⟩,
            ⟨some 21, .mv (.t 23), none, 0⟩] false [])
        (.cond (.t 21)
          (.seq
            (.region 1 [⟨some 24, .build [.clip [], .int .u64 0, .int .u64 0] [] [(0, 60, 20)], none, 0⟩,
              ⟨none, .store 3 (.t 4) (.t 24), none, 0⟩,
              ⟨some 5, .mv (.c (.int .i64 2)), none, 0⟩] false [])
          .ret)
          .skip)))))
  (.seq
    (.region 0 [⟨some 25, .load 3 true (.t 2), none, 0⟩,
      ⟨some 26, .load 3 true (.t 3), none, 0⟩,
      ⟨some 27, .callR (.c (.clo 53 [])) [.t 25, .t 26, .c (.clo 56 [])] true, none, 0⟩,
      ⟨some 28, .extr (.t 27) 0, none, 0⟩,
      ⟨some 29, .extr (.t 27) 1, none, 0⟩,
      ⟨none, .store 3 (.t 4) (.t 28), none, 0⟩,
      ⟨some 5, .mv (.t 29), none, 0⟩] false [])
  .ret))))),
  false⟩
theorem c24 : cFunc Tryd.prog G f24 Tryd.f24 = some f24 := by kernel_rfl
/-- junctionbox/junctionboxref31.Right -/
def f25 : AFunc :=
⟨1, [.t 2],
  (.seq
    (.region 1 [⟨some 1, .box 27 3 (.t 0) [], none, 0⟩,
      ⟨some 2, .mv (.c (.bool false)), none, 0⟩] false [])
  (.seq
    (.seq
      (.region 0 [⟨some 5, .faddr 0 (.t 1), none, 0⟩,
        ⟨some 6, .load 1 false (.t 5), none, 0⟩,
        ⟨some 7, .len (.t 6), none, 0⟩,
        ⟨some 8, .bin .gtr (.t 7) (.c (.int .i64 40)), none, 0⟩,
        ⟨some 9, .mv (.t 8), none, 0⟩,
        ⟨some 10, .faddr 1 (.t 1), some (9, false), 0⟩,
        ⟨some 11, .load 2 true (.t 10), some (9, false), 0⟩,
        ⟨some 12, .callV 21 [.t 11] false, some (9, false), 0⟩,
        ⟨some 13, .not (.t 12), some (9, false), 0⟩,
        ⟨some 14, .pick (.t 9) (.c (.bool true)) (.t 13), none, 0⟩] false [])
    (.cond (.t 14)
      (.seq
        (.region 0 [⟨some 2, .mv (.c (.bool false)), none, 0⟩] false [])
      .ret)
      .skip))
  (.seq
    (.seq
      (.region 0 [⟨some 3, .mv (.c (.int .i64 0)), none, 0⟩] false [])
    (.block 0
      (.loop [1, 3]
        (.seq
          (.seq
            (.region 0 [⟨some 15, .mv (.t 3), none, 0⟩,
              ⟨some 16, .faddr 0 (.t 1), none, 0⟩,
              ⟨some 17, .load 1 false (.t 16), none, 0⟩,
              ⟨some 18, .len (.t 17), none, 0⟩,
              ⟨some 19, .bin .lss (.t 15) (.t 18), none, 0⟩] false [])
          (.cond (.t 19)
            .skip
            (.exit 0)))
        (.seq
          (.block 1
            (.seq
              (.region 1 [⟨some 22, .faddr 0 (.t 1), none, 0⟩,
                ⟨some 23, .load 1 false (.t 22), none, 0⟩,
                ⟨some 24, .mv (.t 3), none, 0⟩,
                ⟨some 25, .iaddr 20 none (.t 23) (.t 24), none, 0⟩,
                ⟨some 26, .load 20 true (.t 25), none, 0⟩,
                ⟨some 4, .alloc 60 [.int .i64 0, .int .u8 0, .int .u8 0, .int .u8 0, .int .u8 0, .int .u8 0, .int .u8 0, .int .u8 0, .int .u8 0, .int .u8 0, .int .u8 0, .int .u8 0, .int .u8 0, .int .u8 0, .int .u8 0, .int .u8 0, .int .u8 0, .int .i64 0, .int .u64 0, .int .u64 0] [], none, 0⟩,
                ⟨none, .store 20 (.t 4) (.t 26), none, 0⟩] false [])
            (.seq
              (.region 0 [⟨some 27, .faddr 0 (.t 4), none, 0⟩,
                ⟨some 28, .load 18 true (.t 27), none, 0⟩,
                ⟨some 29, .callV 35 [.t 28] false, none, 0⟩,
                ⟨some 30, .not (.t 29), none, 0⟩,
                ⟨some 31, .mv (.t 30), none, 0⟩,
                ⟨some 32, .faddr 18 (.t 4), some (31, false), 0⟩,
                ⟨some 33, .load 2 true (.t 32), some (31, false), 0⟩,
                ⟨some 34, .callV 21 [.t 33] false, some (31, false), 0⟩,
                ⟨some 35, .not (.t 34), some (31, false), 0⟩,
                ⟨some 36, .pick (.t 31) (.c (.bool true)) (.t 35), none, 0⟩,
                ⟨some 37, .mv (.t 36), none, 0⟩,
                ⟨some 38, .mv (.t 3), some (37, false), 0⟩,
                ⟨some 39, .bin .gtr (.t 38) (.c (.int .i64 0)), some (37, false), 0⟩,
                ⟨some 40, .mv (.t 39), some (37, false), 0⟩,
                ⟨some 41, .faddr 0 (.t 1), some (40, true), 0⟩,
                ⟨some 42, .load 1 false (.t 41), some (40, true), 0⟩,
                ⟨some 43, .mv (.t 3), some (40, true), 0⟩,
                ⟨some 44, .bin .sub (.t 43) (.c (.int .i64 1)), some (40, true), 0⟩,
                ⟨some 45, .iaddr 20 none (.t 42) (.t 44), some (40, true), 0⟩,
                ⟨some 46, .faddr 0 (.t 45), some (40, true), 0⟩,
                ⟨some 47, .load 18 true (.t 46), some (40, true), 0⟩,
                ⟨some 48, .faddr 0 (.t 4), some (40, true), 0⟩,
                ⟨some 49, .load 18 true (.t 48), some (40, true), 0⟩,
                ⟨some 50, .callV 47 [.t 47, .t 49] false, some (40, true), 0⟩,
                ⟨some 51, .bin .neq (.t 50) (.c (.int .i64 (-1))), some (40, true), 0⟩,
                ⟨some 52, .pick (.t 40) (.t 51) (.c (.bool false)), some (37, false), 0⟩,
                ⟨some 53, .pick (.t 37) (.c (.bool true)) (.t 52), none, 0⟩] true [])
            (.cond (.t 53)
              (.seq
                (.region 0 [⟨some 2, .mv (.c (.bool false)), none, 0⟩] false [])
              .ret)
              .skip))))
        (.region 0 [⟨some 20, .mv (.t 3), none, 0⟩,
          ⟨some 21, .bin .add (.t 20) (.c (.int .i64 1)), none, 0⟩,
          ⟨some 3, .mv (.t 21), none, 0⟩] false []))))))
  (.seq
    (.region 0 [⟨some 2, .mv (.c (.bool true)), none, 0⟩] false [])
  .ret)))),
  false⟩
theorem c25 : cFunc Tryd.prog G f25 Tryd.f25 = some f25 := by kernel_rfl
/-- junctionbox/table.Check -/
def f26 : AFunc :=
⟨1, [.t 2],
  (.seq
    (.region 1 [⟨some 1, .box 30 1 (.t 0) [], none, 0⟩,
      ⟨some 2, .mv (.c (.int .i64 0)), none, 0⟩] false [])
  (.seq
    (.seq
      (.region 0 [⟨some 5, .faddr 0 (.t 1), none, 0⟩,
        ⟨some 6, .load 1 false (.t 5), none, 0⟩,
        ⟨some 7, .len (.t 6), none, 0⟩,
        ⟨some 8, .mv (.c (.int .i64 0)), none, 0⟩] false [])
    (.block 0
      (.loop [1, 6, 7, 8]
        (.seq
          (.region 0 [⟨some 9, .bin .lss (.t 8) (.t 7), none, 0⟩] false [])
        (.seq
          (.cond (.t 9)
            .skip
            (.exit 0))
        (.seq
          (.block 1
            (.seq
              (.region 1 [⟨some 10, .mv (.t 8), none, 0⟩,
                ⟨some 11, .iaddr 19 none (.t 6) (.t 8), none, 0⟩,
                ⟨some 12, .load 19 true (.t 11), none, 0⟩,
                ⟨some 4, .alloc 85 [.int .i64 0, .int .u8 0, .int .u8 0, .int .u8 0, .int .u8 0, .int .u8 0, .int .u8 0, .int .u8 0, .int .u8 0, .int .u8 0, .int .u8 0, .int .u8 0, .int .u8 0, .int .u8 0, .int .u8 0, .int .u8 0, .int .u8 0, .int .i64 0, .int .i64 0] [], none, 0⟩,
                ⟨some 3, .mv (.t 10), none, 0⟩,
                ⟨none, .store 19 (.t 4) (.t 12), none, 0⟩] false [])
            (.seq
              (.region 0 [⟨some 13, .mv (.t 3), none, 0⟩,
                ⟨some 14, .bin .eql (.t 13) (.c (.int .i64 40)), none, 0⟩,
                ⟨some 15, .mv (.t 14), none, 0⟩,
                ⟨some 16, .faddr 0 (.t 4), some (15, false), 0⟩,
                ⟨some 17, .load 18 true (.t 16), some (15, false), 0⟩,
                ⟨some 18, .callV 57 [.t 17] false, some (15, false), 0⟩,
                ⟨some 19, .bin .neq (.t 18) (.c (.int .i64 0)), some (15, false), 0⟩,
                ⟨some 20, .pick (.t 15) (.c (.bool true)) (.t 19), none, 0⟩,
                ⟨some 21, .mv (.t 20), none, 0⟩,
                ⟨some 22, .faddr 18 (.t 4), some (21, false), 0⟩,
                ⟨some 23, .load 1 false (.t 22), some (21, false), 0⟩,
                ⟨some 24, .callV 58 [.t 23] false, some (21, false), 0⟩,
                ⟨some 25, .not (.t 24), some (21, false), 0⟩,
                ⟨some 26, .pick (.t 21) (.c (.bool true)) (.t 25), none, 0⟩,
                ⟨some 27, .mv (.t 26), none, 0⟩,
                ⟨some 28, .mv (.t 3), some (27, false), 0⟩,
                ⟨some 29, .bin .gtr (.t 28) (.c (.int .i64 0)), some (27, false), 0⟩,
                ⟨some 30, .mv (.t 29), some (27, false), 0⟩,
                ⟨some 31, .faddr 0 (.t 1), some (30, true), 0⟩,
                ⟨some 32, .load 1 false (.t 31), some (30, true), 0⟩,
                ⟨some 33, .mv (.t 3), some (30, true), 0⟩,
                ⟨some 34, .bin .sub (.t 33) (.c (.int .i64 1)), some (30, true), 0⟩,
                ⟨some 35, .iaddr 19 none (.t 32) (.t 34), some (30, true), 0⟩,
                ⟨some 36, .load 19 true (.t 35), some (30, true), 0⟩,
                ⟨some 37, .faddr 0 (.t 4), some (30, true), 0⟩,
                ⟨some 38, .load 18 true (.t 37), some (30, true), 0⟩,
                ⟨some 39, .callV 59 [.t 36, .t 38] false, some (30, true), 0⟩,
                ⟨some 40, .bin .geq (.t 39) (.c (.int .i64 0)), some (30, true), 0⟩,
                ⟨some 41, .pick (.t 30) (.t 40) (.c (.bool false)), some (27, false), 0⟩,
                ⟨some 42, .pick (.t 27) (.c (.bool true)) (.t 41), none, 0⟩] true [])
            (.cond (.t 42)
              (.seq
                (.region 0 [⟨some 2, .mv (.c (.int .i64 190)), none, 0⟩] false [])
              .ret)
              .skip))))
        (.region 0 [⟨some 43, .bin .add (.t 8) (.c (.int .i64 1)), none, 0⟩,
          ⟨some 8, .mv (.t 43), none, 0⟩] false [])))))))
  (.seq
    (.region 0 [⟨some 2, .mv (.c (.int .i64 0)), none, 0⟩] false [])
  .ret))),
  false⟩
theorem c26 : cFunc Tryd.prog G f26 Tryd.f26 = some f26 := by kernel_rfl
/-- junctionbox/tally.Same -/
def f27 : AFunc :=
⟨2, [.t 4],
  (.seq
    (.region 2 [⟨some 2, .box 27 3 (.t 0) [], none, 0⟩,
      ⟨some 3, .box 27 3 (.t 1) [], none, 1⟩,
      ⟨some 4, .mv (.c (.bool false)), none, 0⟩] false [])
  (.seq
    (.region 0 [⟨some 5, .faddr 1 (.t 2), none, 0⟩,
      ⟨some 6, .load 2 true (.t 5), none, 0⟩,
      ⟨some 7, .faddr 1 (.t 3), none, 0⟩,
      ⟨some 8, .load 2 true (.t 7), none, 0⟩,
      ⟨some 9, .eqagg false [1, 1] (.t 6) (.t 8), none, 0⟩,
      ⟨some 10, .mv (.t 9), none, 0⟩,
      ⟨some 11, .faddr 0 (.t 2), some (10, true), 0⟩,
      ⟨some 12, .load 1 false (.t 11), some (10, true), 0⟩,
      ⟨some 13, .faddr 0 (.t 3), some (10, true), 0⟩,
      ⟨some 14, .load 1 false (.t 13), some (10, true), 0⟩,
      ⟨some 15, .callV 60 [.t 12, .t 14] false, some (10, true), 0⟩,
      ⟨some 16, .pick (.t 10) (.t 15) (.c (.bool false)), none, 0⟩,
      ⟨some 4, .mv (.t 16), none, 0⟩] false [])
  .ret)),
  false⟩
theorem c27 : cFunc Tryd.prog G f27 Tryd.f27 = some f27 := by kernel_rfl
/-- junctionbox/tally.Total -/
def f30 : AFunc :=
⟨1, [.cell 2 2 true, .t 3],
  (.seq
    (.region 2 [⟨some 1, .box 27 3 (.t 0) [], none, 0⟩,
      ⟨some 2, .alloc 25 [.int .u64 0, .int .u64 0] [], none, 1⟩,
      ⟨some 3, .mv (.c (.int .i64 0)), none, 0⟩] false [])
  (.seq
    (.seq
      (.region 0 [⟨some 8, .load 3 true (.t 1), none, 0⟩,
        ⟨some 9, .callV 31 [.t 8] false, none, 0⟩,
        ⟨some 4, .mv (.t 9), none, 0⟩] false [])
    (.seq
      (.region 0 [⟨some 10, .mv (.t 4), none, 0⟩,
        ⟨some 11, .bin .neq (.t 10) (.c (.int .i64 0)), none, 0⟩] false [])
    (.cond (.t 11)
      (.seq
        (.region 0 [⟨some 12, .build [.int .u64 0, .int .u64 0] [] [], none, 0⟩,
          ⟨some 13, .mv (.t 4), none, 0⟩,
          ⟨none, .store 2 (.t 2) (.t 12), none, 0⟩,
          ⟨some 3, .mv (.t 13), none, 0⟩] false [])
      .ret)
      .skip)))
  (.seq
    (.region 1 [⟨some 14, .faddr 1 (.t 1), none, 0⟩,
      ⟨some 15, .load 2 true (.t 14), none, 0⟩,
      ⟨some 5, .alloc 100 [.int .u64 0, .int .u64 0] [], none, 0⟩,
      ⟨none, .store 2 (.t 5) (.t 15), none, 0⟩] false [])
  (.seq
    (.seq
      (.region 0 [⟨some 16, .load 3 true (.t 1), none, 0⟩,
        ⟨some 17, .callR (.c (.clo 65 [])) [.t 16] true, none, 0⟩] false [])
    (.block 0
      (.range (.t 17) [18, 19]
        (.region 1 [⟨some 7, .alloc 100 [.int .u64 0, .int .u64 0] [], none, 0⟩,
          ⟨none, .store 2 (.t 7) (.t 19), none, 0⟩] false [])
        (.block 1
          (.region 0 [⟨some 20, .load 2 true (.t 5), none, 0⟩,
            ⟨some 21, .load 2 true (.t 7), none, 0⟩,
            ⟨some 22, .callV 51 [.t 20, .t 21] false, none, 0⟩,
            ⟨none, .store 2 (.t 5) (.t 22), none, 0⟩] false [])))))
  (.seq
    (.region 0 [⟨some 23, .load 2 true (.t 5), none, 0⟩,
      ⟨none, .store 2 (.t 2) (.t 23), none, 0⟩,
      ⟨some 3, .mv (.c (.int .i64 0)), none, 0⟩] false [])
  .ret))))),
  false⟩
theorem c30 : cFunc Tryd.prog G f30 Tryd.f30 = some f30 := by kernel_rfl
/-- junctionbox/tally.Check -/
def f31 : AFunc :=
⟨1, [.t 2],
  (.seq
    (.region 1 [⟨some 1, .box 27 3 (.t 0) [], none, 0⟩,
      ⟨some 2, .mv (.c (.int .i64 0)), none, 0⟩] false [])
  (.seq
    (.seq
      (.region 0 [⟨some 5, .faddr 0 (.t 1), none, 0⟩,
        ⟨some 6, .load 1 false (.t 5), none, 0⟩,
        ⟨some 7, .len (.t 6), none, 0⟩,
        ⟨some 8, .bin .gtr (.t 7) (.c (.int .i64 40)), none, 0⟩,
        ⟨some 9, .mv (.t 8), none, 0⟩,
        ⟨some 10, .faddr 1 (.t 1), some (9, false), 0⟩,
        ⟨some 11, .load 2 true (.t 10), some (9, false), 0⟩,
        ⟨some 12, .callV 50 [.t 11] false, some (9, false), 0⟩,
        ⟨some 13, .not (.t 12), some (9, false), 0⟩,
        ⟨some 14, .pick (.t 9) (.c (.bool true)) (.t 13), none, 0⟩] false [])
    (.cond (.t 14)
      (.seq
        (.region 0 [⟨some 2, .mv (.c (.int .i64 410)), none, 0⟩] false [])
      .ret)
      .skip))
  (.seq
    (.seq
      (.region 0 [⟨some 15, .faddr 0 (.t 1), none, 0⟩,
        ⟨some 16, .load 1 false (.t 15), none, 0⟩,
        ⟨some 17, .len (.t 16), none, 0⟩,
        ⟨some 18, .mv (.c (.int .i64 0)), none, 0⟩] false [])
    (.block 0
      (.loop [1, 16, 17, 18]
        (.seq
          (.region 0 [⟨some 19, .bin .lss (.t 18) (.t 17), none, 0⟩] false [])
        (.seq
          (.cond (.t 19)
            .skip
            (.exit 0))
        (.seq
          (.block 1
            (.seq
              (.region 1 [⟨some 20, .mv (.t 18), none, 0⟩,
                ⟨some 21, .iaddr 20 none (.t 16) (.t 18), none, 0⟩,
                ⟨some 22, .load 20 true (.t 21), none, 0⟩,
                ⟨some 4, .alloc 60 [.int .i64 0, .int .u8 0, .int .u8 0, .int .u8 0, .int .u8 0, .int .u8 0, .int .u8 0, .int .u8 0, .int .u8 0, .int .u8 0, .int .u8 0, .int .u8 0, .int .u8 0, .int .u8 0, .int .u8 0, .int .u8 0, .int .u8 0, .int .i64 0, .int .u64 0, .int .u64 0] [], none, 0⟩,
                ⟨some 3, .mv (.t 20), none, 0⟩,
                ⟨none, .store 20 (.t 4) (.t 22), none, 0⟩] false [])
            (.seq
              (.region 0 [⟨some 23, .faddr 0 (.t 4), none, 0⟩,
                ⟨some 24, .load 18 true (.t 23), none, 0⟩,
                ⟨some 25, .callV 57 [.t 24] false, none, 0⟩,
                ⟨some 26, .bin .neq (.t 25) (.c (.int .i64 0)), none, 0⟩,
                ⟨some 27, .mv (.t 26), none, 0⟩,
                ⟨some 28, .faddr 18 (.t 4), some (27, false), 0⟩,
                ⟨some 29, .load 2 true (.t 28), some (27, false), 0⟩,
                ⟨some 30, .callV 50 [.t 29] false, some (27, false), 0⟩,
                ⟨some 31, .not (.t 30), some (27, false), 0⟩,
                ⟨some 32, .pick (.t 27) (.c (.bool true)) (.t 31), none, 0⟩,
                ⟨some 33, .mv (.t 32), none, 0⟩,
                ⟨some 34, .mv (.t 3), some (33, false), 0⟩,
                ⟨some 35, .bin .gtr (.t 34) (.c (.int .i64 0)), some (33, false), 0⟩,
                ⟨some 36, .mv (.t 35), some (33, false), 0⟩,
                ⟨some 37, .faddr 0 (.t 1), some (36, true), 0⟩,
                ⟨some 38, .load 1 false (.t 37), some (36, true), 0⟩,
                ⟨some 39, .mv (.t 3), some (36, true), 0⟩,
                ⟨some 40, .bin .sub (.t 39) (.c (.int .i64 1)), some (36, true), 0⟩,
                ⟨some 41, .iaddr 20 none (.t 38) (.t 40), some (36, true), 0⟩,
                ⟨some 42, .faddr 0 (.t 41), some (36, true), 0⟩,
                ⟨some 43, .load 18 true (.t 42), some (36, true), 0⟩,
                ⟨some 44, .faddr 0 (.t 4), some (36, true), 0⟩,
                ⟨some 45, .load 18 true (.t 44), some (36, true), 0⟩,
                ⟨some 46, .callV 66 [.t 43, .t 45] false, some (36, true), 0⟩,
                ⟨some 47, .bin .geq (.t 46) (.c (.int .i64 0)), some (36, true), 0⟩,
                ⟨some 48, .pick (.t 36) (.t 47) (.c (.bool false)), some (33, false), 0⟩,
                ⟨some 49, .pick (.t 33) (.c (.bool true)) (.t 48), none, 0⟩] true [])
            (.cond (.t 49)
              (.seq
                (.region 0 [⟨some 2, .mv (.c (.int .i64 410)), none, 0⟩] false [])
              .ret)
              .skip))))
        (.region 0 [⟨some 50, .bin .add (.t 18) (.c (.int .i64 1)), none, 0⟩,
          ⟨some 18, .mv (.t 50), none, 0⟩] false [])))))))
  (.seq
    (.region 0 [⟨some 2, .mv (.c (.int .i64 0)), none, 0⟩] false [])
  .ret)))),
  false⟩
theorem c31 : cFunc Tryd.prog G f31 Tryd.f31 = some f31 := by kernel_rfl
/-- junctionbox/junctionboxref05.Holds -/
def f34 : AFunc :=
⟨2, [.t 4],
  (.seq
    (.region 2 [⟨some 2, .box 58 18 (.t 0) [], none, 0⟩,
      ⟨some 3, .box 58 18 (.t 1) [], none, 1⟩,
      ⟨some 4, .mv (.c (.bool false)), none, 0⟩] false [])
  (.seq
    (.region 0 [⟨some 5, .load 18 true (.t 3), none, 0⟩,
      ⟨some 6, .callV 35 [.t 5] false, none, 0⟩,
      ⟨some 7, .mv (.t 6), none, 0⟩,
      ⟨some 8, .faddr 17 (.t 2), some (7, true), 0⟩,
      ⟨some 9, .load 1 false (.t 8), some (7, true), 0⟩,
      ⟨some 10, .faddr 17 (.t 3), some (7, true), 0⟩,
      ⟨some 11, .load 1 false (.t 10), some (7, true), 0⟩,
      ⟨some 12, .bin .leq (.t 9) (.t 11), some (7, true), 0⟩,
      ⟨some 13, .pick (.t 7) (.t 12) (.c (.bool false)), none, 0⟩,
      ⟨some 14, .mv (.t 13), none, 0⟩,
      ⟨some 15, .load 18 true (.t 2), some (14, true), 0⟩,
      ⟨some 16, .faddr 0 (.t 3), some (14, true), 0⟩,
      ⟨some 17, .load 17 true (.t 16), some (14, true), 0⟩,
      ⟨some 18, .callV 44 [.t 15, .t 17] false, some (14, true), 0⟩,
      ⟨some 19, .pick (.t 14) (.t 18) (.c (.bool false)), none, 0⟩,
      ⟨some 4, .mv (.t 19), none, 0⟩] false [])
  .ret)),
  false⟩
theorem c34 : cFunc Tryd.prog G f34 Tryd.f34 = some f34 := by kernel_rfl
end Go.Proofs.YtdllnneeopbmdaaDoor.F
