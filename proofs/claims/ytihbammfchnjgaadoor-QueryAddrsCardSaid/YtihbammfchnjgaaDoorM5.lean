/- Part 5 of the proofs of these statements. No condition. -/
import Derived.Test.YtihbammfchnjgaaDoorM4
import Derived.Test.YtihbammfchnjgaaDoorProg
import Derived.KernelRfl
set_option linter.unusedVariables false
set_option linter.unusedSimpArgs false
/- Functions in the evaluator's form, 1. No condition. -/
namespace Go.Proofs.YtihbammfchnjgaaDoor.F
open Go Go.Proofs.YtihbammfchnjgaaDoor.A
def G : Nat → Option (List AV)
  | 0 => some [.int .i64 0, .int .i64 0, .int .i64 0, .int .i64 0, .int .i64 32, .int .i64 0, .int .i64 128]
  | _ => none
/-- junctionbox/junctionboxlaw28.QueryPages -/
def f3 : AFunc :=
⟨2, [.t 4],
  (.seq
    (.region 1 [⟨some 2, .box 24 1 (.t 0) [], none, 0⟩,
      ⟨some 4, .mv (.c (.bool false)), none, 0⟩] false [])
  (.seq
    (.seq
      (.region 0 [⟨some 15, .callV 11 [] false, none, 0⟩,
        ⟨some 16, .not (.t 15), none, 0⟩] false [])
    (.cond (.t 16)
      (.seq
        (.region 0 [⟨some 4, .mv (.c (.bool false)), none, 0⟩] false [])
      .ret)
      .skip))
  (.seq
    (.region 2 [⟨some 17, .load 1 true (.t 2), none, 0⟩,
      ⟨some 18, .callV 12 [.t 17] false, none, 0⟩,
      ⟨some 19, .load 1 true (.t 2), none, 0⟩,
      ⟨some 20, .callV 12 [.t 19] false, none, 0⟩,
      ⟨some 5, .alloc 24 [.clip []] [], none, 0⟩,
      ⟨some 6, .alloc 24 [.clip []] [], none, 1⟩,
      ⟨none, .store 1 (.t 5) (.t 18), none, 0⟩,
      ⟨none, .store 1 (.t 6) (.t 20), none, 0⟩] true [(.t 2, .c .undef, 0), (.t 17, .c .undef, 0), (.t 19, .c .undef, 0), (.t 2, .c .undef, 1), (.t 17, .c .undef, 1), (.t 19, .c .undef, 1)])
  (.seq
    (.seq
      (.region 0 [⟨some 21, .mv (.t 1), none, 0⟩,
        ⟨some 22, .len (.t 21), none, 0⟩,
        ⟨some 23, .mv (.c (.int .i64 0)), none, 0⟩] false [])
    (.block 0
      (.loop [5, 6, 21, 22, 23]
        (.seq
          (.region 0 [⟨some 24, .bin .lss (.t 23) (.t 22), none, 0⟩] false [])
        (.seq
          (.cond (.t 24)
            .skip
            (.exit 0))
        (.seq
          (.block 1
            (.seq
              (.region 1 [⟨some 25, .mv (.t 23), none, 0⟩,
                ⟨some 26, .iaddr 39 none (.t 21) (.t 23), none, 0⟩,
                ⟨some 27, .load 39 true (.t 26), none, 0⟩,
                ⟨some 8, .alloc 36 [.int .i64 0, .int .u8 0, .int .u8 0, .int .u8 0, .int .u8 0, .int .u8 0, .int .u8 0, .int .u8 0, .int .u8 0, .int .u8 0, .int .u8 0, .int .u8 0, .int .u8 0, .int .u8 0, .int .u8 0, .int .u8 0, .int .u8 0, .int .i64 0, .bool false, .bool false, .int .i64 0, .int .u8 0, .int .u8 0, .int .u8 0, .int .u8 0, .int .u8 0, .int .u8 0, .int .u8 0, .int .u8 0, .int .u8 0, .int .u8 0, .int .u8 0, .int .u8 0, .int .u8 0, .int .u8 0, .int .u8 0, .int .u8 0, .int .i64 0, .int .i64 0] [], none, 0⟩,
                ⟨some 7, .mv (.t 25), none, 0⟩,
                ⟨none, .store 39 (.t 8) (.t 27), none, 0⟩] false [])
            (.seq
              (.seq
                (.region 0 [⟨some 28, .mv (.t 7), none, 0⟩,
                  ⟨some 29, .bin .eql (.t 28) (.c (.int .i64 12)), none, 0⟩] false [])
              (.cond (.t 29)
                (.exit 0)
                .skip))
            (.seq
              (.region 2 [⟨some 31, .load 1 true (.t 5), none, 0⟩,
                ⟨some 32, .faddr 0 (.t 8), none, 0⟩,
                ⟨some 33, .load 18 true (.t 32), none, 0⟩,
                ⟨some 34, .faddr 18 (.t 8), none, 0⟩,
                ⟨some 35, .load 20 true (.t 34), none, 0⟩,
                ⟨some 36, .faddr 38 (.t 8), none, 0⟩,
                ⟨some 37, .load 1 false (.t 36), none, 0⟩,
                ⟨some 38, .callV 13 [.t 31, .t 33, .t 35, .t 37] true, none, 0⟩,
                ⟨some 30, .mv (.t 38), none, 0⟩,
                ⟨some 39, .extr (.t 30) 0, none, 0⟩,
                ⟨some 40, .extr (.t 30) 1, none, 0⟩,
                ⟨some 41, .extr (.t 30) 2, none, 0⟩,
                ⟨some 10, .alloc 34 [.bool false, .bool false, .int .i64 0, .int .u8 0, .int .u8 0, .int .u8 0, .int .u8 0, .int .u8 0, .int .u8 0, .int .u8 0, .int .u8 0, .int .u8 0, .int .u8 0, .int .u8 0, .int .u8 0, .int .u8 0, .int .u8 0, .int .u8 0, .int .u8 0, .int .i64 0] [], none, 1⟩,
                ⟨some 9, .mv (.t 39), none, 0⟩,
                ⟨none, .store 20 (.t 10) (.t 40), none, 0⟩,
                ⟨some 11, .mv (.t 41), none, 0⟩] false [])
            (.seq
              (.region 0 [⟨some 42, .load 1 true (.t 6), none, 0⟩,
                ⟨some 43, .faddr 0 (.t 8), none, 0⟩,
                ⟨some 44, .load 18 true (.t 43), none, 0⟩,
                ⟨some 45, .callV 14 [.t 42, .t 44] false, none, 0⟩,
                ⟨some 12, .mv (.t 45), none, 0⟩] false [])
            (.seq
              (.seq
                (.region 0 [⟨some 46, .mv (.t 12), none, 0⟩,
                  ⟨some 47, .bin .eql (.t 46) (.c (.int .i64 0)), none, 0⟩,
                  ⟨some 48, .mv (.t 47), none, 0⟩,
                  ⟨some 49, .faddr 18 (.t 8), some (48, true), 0⟩,
                  ⟨some 50, .load 20 true (.t 49), some (48, true), 0⟩,
                  ⟨some 51, .callV 15 [.t 50] false, some (48, true), 0⟩,
                  ⟨some 52, .not (.t 51), some (48, true), 0⟩,
                  ⟨some 53, .mv (.t 52), some (48, true), 0⟩,
                  ⟨some 54, .faddr 38 (.t 8), some (53, false), 0⟩,
                  ⟨some 55, .load 1 false (.t 54), some (53, false), 0⟩,
                  ⟨some 56, .bin .lss (.t 55) (.c (.int .i64 1)), some (53, false), 0⟩,
                  ⟨some 57, .pick (.t 53) (.c (.bool true)) (.t 56), some (48, true), 0⟩,
                  ⟨some 58, .mv (.t 57), some (48, true), 0⟩,
                  ⟨some 59, .faddr 38 (.t 8), some (58, false), 0⟩,
                  ⟨some 60, .load 1 false (.t 59), some (58, false), 0⟩,
                  ⟨some 61, .bin .gtr (.t 60) (.c (.int .i64 16)), some (58, false), 0⟩,
                  ⟨some 62, .pick (.t 58) (.c (.bool true)) (.t 61), some (48, true), 0⟩,
                  ⟨some 63, .pick (.t 48) (.t 62) (.c (.bool false)), none, 0⟩] false [])
              (.cond (.t 63)
                (.region 0 [⟨some 12, .mv (.c (.int .i64 2)), none, 0⟩] false [])
                .skip))
            (.seq
              (.seq
                (.region 0 [⟨some 64, .mv (.t 11), none, 0⟩,
                  ⟨some 65, .mv (.t 12), none, 0⟩,
                  ⟨some 66, .bin .neq (.t 64) (.t 65), none, 0⟩] false [])
              (.cond (.t 66)
                (.seq
                  (.region 0 [⟨some 4, .mv (.c (.bool false)), none, 0⟩] false [])
                .ret)
                .skip))
            (.seq
              (.seq
                (.region 0 [⟨some 67, .mv (.t 12), none, 0⟩,
                  ⟨some 68, .bin .neq (.t 67) (.c (.int .i64 0)), none, 0⟩] false [])
              (.cond (.t 68)
                (.seq
                  (.seq
                    (.region 0 [⟨some 69, .mv (.t 9), none, 0⟩,
                      ⟨some 70, .len (.t 69), none, 0⟩,
                      ⟨some 71, .bin .neq (.t 70) (.c (.int .i64 0)), none, 0⟩,
                      ⟨some 72, .mv (.t 71), none, 0⟩,
                      ⟨some 73, .load 20 true (.t 10), some (72, false), 0⟩,
                      ⟨some 74, .build [.bool false, .bool false, .int .i64 0, .int .u8 0, .int .u8 0, .int .u8 0, .int .u8 0, .int .u8 0, .int .u8 0, .int .u8 0, .int .u8 0, .int .u8 0, .int .u8 0, .int .u8 0, .int .u8 0, .int .u8 0, .int .u8 0, .int .u8 0, .int .u8 0, .int .i64 0] [] [], some (72, false), 0⟩,
                      ⟨some 75, .eqagg true [0, 0, 1, 1, 1, 1, 1, 1, 1, 1, 1, 1, 1, 1, 1, 1, 1, 1, 1, 1] (.t 73) (.t 74), some (72, false), 0⟩,
                      ⟨some 76, .pick (.t 72) (.c (.bool true)) (.t 75), none, 0⟩] false [])
                  (.cond (.t 76)
                    (.seq
                      (.region 0 [⟨some 4, .mv (.c (.bool false)), none, 0⟩] false [])
                    .ret)
                    .skip))
                (.exit 1))
                .skip))
            (.seq
              (.region 1 [⟨some 78, .load 1 true (.t 6), none, 0⟩,
                ⟨some 79, .faddr 0 (.t 8), none, 0⟩,
                ⟨some 80, .load 18 true (.t 79), none, 0⟩,
                ⟨some 81, .faddr 18 (.t 8), none, 0⟩,
                ⟨some 82, .load 20 true (.t 81), none, 0⟩,
                ⟨some 83, .faddr 38 (.t 8), none, 0⟩,
                ⟨some 84, .load 1 false (.t 83), none, 0⟩,
                ⟨some 85, .callV 16 [.t 78, .t 80, .t 82, .t 84] false, none, 0⟩,
                ⟨some 77, .mv (.t 85), none, 0⟩,
                ⟨some 86, .extr (.t 77) 0, none, 0⟩,
                ⟨some 87, .extr (.t 77) 1, none, 0⟩,
                ⟨some 14, .alloc 34 [.bool false, .bool false, .int .i64 0, .int .u8 0, .int .u8 0, .int .u8 0, .int .u8 0, .int .u8 0, .int .u8 0, .int .u8 0, .int .u8 0, .int .u8 0, .int .u8 0, .int .u8 0, .int .u8 0, .int .u8 0, .int .u8 0, .int .u8 0, .int .u8 0, .int .i64 0] [], none, 0⟩,
                ⟨some 13, .mv (.t 86), none, 0⟩,
                ⟨none, .store 20 (.t 14) (.t 87), none, 0⟩] false [])
            (.seq
              (.seq
                (.region 0 [⟨some 88, .mv (.t 9), none, 0⟩,
                  ⟨some 89, .mv (.t 13), none, 0⟩,
                  ⟨some 90, .callV 17 [.t 88, .t 89] false, none, 0⟩,
                  ⟨some 91, .not (.t 90), none, 0⟩,
                  ⟨some 92, .mv (.t 91), none, 0⟩,
                  ⟨some 93, .load 20 true (.t 10), some (92, false), 0⟩,
                  ⟨some 94, .load 20 true (.t 14), some (92, false), 0⟩,
                  ⟨some 95, .eqagg true [0, 0, 1, 1, 1, 1, 1, 1, 1, 1, 1, 1, 1, 1, 1, 1, 1, 1, 1, 1] (.t 93) (.t 94), some (92, false), 0⟩,
                  ⟨some 96, .pick (.t 92) (.c (.bool true)) (.t 95), none, 0⟩] false [])
              (.cond (.t 96)
                (.seq
                  (.region 0 [⟨some 4, .mv (.c (.bool false)), none, 0⟩] false [])
                .ret)
                .skip))
            (.seq
              (.region 0 [⟨some 97, .mv (.t 9), none, 0⟩,
                ⟨some 98, .buildRf 22 1 [.clip []] 1 [(0, .t 97)], none, 0⟩,
                ⟨some 99, .callR (.c (.clo 18 [])) [.t 98] false, none, 0⟩] false [])
            (.seq
              (.region 0 [⟨some 100, .load 1 true (.t 5), none, 0⟩,
                ⟨some 101, .load 1 true (.t 6), none, 0⟩,
                ⟨some 102, .callV 19 [.t 100, .t 101] false, none, 0⟩,
                ⟨some 103, .not (.t 102), none, 0⟩] false [])
            (.cond (.t 103)
              (.seq
                (.region 0 [⟨some 4, .mv (.c (.bool false)), none, 0⟩] false [])
              .ret)
              .skip)))))))))))))
        (.region 0 [⟨some 104, .bin .add (.t 23) (.c (.int .i64 1)), none, 0⟩,
          ⟨some 23, .mv (.t 104), none, 0⟩] false [])))))))
  (.seq
    (.region 0 [⟨some 4, .mv (.c (.bool true)), none, 0⟩] false [])
  .ret))))),
  false⟩
theorem c3 : cFunc Tryd.prog G f3 Tryd.f3 = some f3 := by kernel_rfl
/-- junctionbox/junctionboxlaw28.QueryFree -/
def f4 : AFunc :=
⟨3, [.t 6],
  (.seq
    (.region 2 [⟨some 3, .box 24 1 (.t 0) [], none, 0⟩,
      ⟨some 4, .box 32 18 (.t 1) [], none, 1⟩,
      ⟨some 6, .mv (.c (.bool false)), none, 0⟩] false [])
  (.seq
    (.seq
      (.region 0 [⟨some 16, .callV 11 [] false, none, 0⟩,
        ⟨some 17, .not (.t 16), none, 0⟩] false [])
    (.cond (.t 17)
      (.seq
        (.region 0 [⟨some 6, .mv (.c (.bool false)), none, 0⟩] false [])
      .ret)
      .skip))
  (.seq
    (.region 2 [⟨some 18, .load 1 true (.t 3), none, 0⟩,
      ⟨some 19, .callV 12 [.t 18] false, none, 0⟩,
      ⟨some 7, .alloc 24 [.clip []] [(0, 59, 19)], none, 0⟩,
      ⟨none, .store 1 (.t 7) (.t 19), none, 0⟩] false [])
  (.seq
    (.seq
      (.region 0 [⟨some 20, .mv (.t 2), none, 0⟩,
        ⟨some 21, .len (.t 20), none, 0⟩,
        ⟨some 22, .mv (.c (.int .i64 0)), none, 0⟩] false [])
    (.block 0
      (.loop [4, 7, 20, 21, 22]
        (.seq
          (.region 0 [⟨some 23, .bin .lss (.t 22) (.t 21), none, 0⟩] false [])
        (.seq
          (.cond (.t 23)
            .skip
            (.exit 0))
        (.seq
          (.block 1
            (.seq
              (.region 0 [⟨some 24, .mv (.t 22), none, 0⟩,
                ⟨some 25, .iaddr 1 none (.t 20) (.t 22), none, 0⟩,
                ⟨some 26, .load 1 false (.t 25), none, 0⟩,
                ⟨some 8, .mv (.t 24), none, 0⟩,
                ⟨some 9, .mv (.t 26), none, 0⟩] false [])
            (.seq
              (.seq
                (.region 0 [⟨some 27, .mv (.t 8), none, 0⟩,
                  ⟨some 28, .bin .eql (.t 27) (.c (.int .i64 8)), none, 0⟩] false [])
              (.cond (.t 28)
                (.exit 0)
                .skip))
            (.seq
              (.region 1 [⟨some 30, .load 1 true (.t 7), none, 0⟩,
                ⟨some 31, .load 18 true (.t 4), none, 0⟩,
                ⟨some 32, .mv (.t 9), none, 0⟩,
                ⟨some 33, .callV 20 [.t 30, .t 31, .t 32] false, none, 0⟩,
                ⟨some 29, .mv (.t 33), none, 0⟩,
                ⟨some 34, .extr (.t 29) 0, none, 0⟩,
                ⟨some 35, .extr (.t 29) 1, none, 0⟩,
                ⟨some 36, .extr (.t 29) 2, none, 0⟩,
                ⟨some 10, .alloc 32 [.int .i64 0, .int .u8 0, .int .u8 0, .int .u8 0, .int .u8 0, .int .u8 0, .int .u8 0, .int .u8 0, .int .u8 0, .int .u8 0, .int .u8 0, .int .u8 0, .int .u8 0, .int .u8 0, .int .u8 0, .int .u8 0, .int .u8 0, .int .i64 0] [], none, 0⟩,
                ⟨none, .store 18 (.t 10) (.t 34), none, 0⟩,
                ⟨some 11, .mv (.t 35), none, 0⟩,
                ⟨some 12, .mv (.t 36), none, 0⟩] false [])
            (.seq
              (.region 0 [⟨some 37, .load 1 true (.t 7), none, 0⟩,
                ⟨some 38, .load 18 true (.t 4), none, 0⟩,
                ⟨some 39, .callV 14 [.t 37, .t 38] false, none, 0⟩,
                ⟨some 13, .mv (.t 39), none, 0⟩] false [])
            (.seq
              (.seq
                (.region 0 [⟨some 40, .mv (.t 13), none, 0⟩,
                  ⟨some 41, .bin .eql (.t 40) (.c (.int .i64 0)), none, 0⟩,
                  ⟨some 42, .mv (.t 41), none, 0⟩,
                  ⟨some 43, .mv (.t 9), some (42, true), 0⟩,
                  ⟨some 44, .faddr 17 (.t 4), some (42, true), 0⟩,
                  ⟨some 45, .load 1 false (.t 44), some (42, true), 0⟩,
                  ⟨some 46, .bin .lss (.t 43) (.t 45), some (42, true), 0⟩,
                  ⟨some 47, .mv (.t 46), some (42, true), 0⟩,
                  ⟨some 48, .mv (.t 9), some (47, false), 0⟩,
                  ⟨some 49, .faddr 0 (.t 4), some (47, false), 0⟩,
                  ⟨some 50, .faddr 0 (.t 49), some (47, false), 0⟩,
                  ⟨some 51, .load 1 false (.t 50), some (47, false), 0⟩,
                  ⟨some 52, .callV 21 [.t 51] false, some (47, false), 0⟩,
                  ⟨some 53, .bin .gtr (.t 48) (.t 52), some (47, false), 0⟩,
                  ⟨some 54, .pick (.t 47) (.c (.bool true)) (.t 53), some (42, true), 0⟩,
                  ⟨some 55, .pick (.t 42) (.t 54) (.c (.bool false)), none, 0⟩] false [])
              (.cond (.t 55)
                (.region 0 [⟨some 13, .mv (.c (.int .i64 2)), none, 0⟩] false [])
                .skip))
            (.seq
              (.seq
                (.region 0 [⟨some 56, .mv (.t 12), none, 0⟩,
                  ⟨some 57, .mv (.t 13), none, 0⟩,
                  ⟨some 58, .bin .neq (.t 56) (.t 57), none, 0⟩] false [])
              (.cond (.t 58)
                (.seq
                  (.region 0 [⟨some 6, .mv (.c (.bool false)), none, 0⟩] false [])
                .ret)
                .skip))
            (.seq
              (.seq
                (.region 0 [⟨some 59, .mv (.t 13), none, 0⟩,
                  ⟨some 60, .bin .neq (.t 59) (.c (.int .i64 0)), none, 0⟩] false [])
              (.cond (.t 60)
                (.seq
                  (.seq
                    (.region 0 [⟨some 61, .mv (.t 11), none, 0⟩,
                      ⟨some 62, .mv (.t 61), none, 0⟩,
                      ⟨some 63, .load 18 true (.t 10), some (62, false), 0⟩,
                      ⟨some 64, .build [.int .i64 0, .int .u8 0, .int .u8 0, .int .u8 0, .int .u8 0, .int .u8 0, .int .u8 0, .int .u8 0, .int .u8 0, .int .u8 0, .int .u8 0, .int .u8 0, .int .u8 0, .int .u8 0, .int .u8 0, .int .u8 0, .int .u8 0, .int .i64 0] [] [], some (62, false), 0⟩,
                      ⟨some 65, .eqagg true [1, 1, 1, 1, 1, 1, 1, 1, 1, 1, 1, 1, 1, 1, 1, 1, 1, 1] (.t 63) (.t 64), some (62, false), 0⟩,
                      ⟨some 66, .pick (.t 62) (.c (.bool true)) (.t 65), none, 0⟩] false [])
                  (.cond (.t 66)
                    (.seq
                      (.region 0 [⟨some 6, .mv (.c (.bool false)), none, 0⟩] false [])
                    .ret)
                    .skip))
                (.exit 1))
                .skip))
            (.seq
              (.region 1 [⟨some 68, .load 1 true (.t 7), none, 0⟩,
                ⟨some 69, .load 18 true (.t 4), none, 0⟩,
                ⟨some 70, .mv (.t 9), none, 0⟩,
                ⟨some 71, .callV 22 [.t 68, .t 69, .t 70] false, none, 0⟩,
                ⟨some 67, .mv (.t 71), none, 0⟩,
                ⟨some 72, .extr (.t 67) 0, none, 0⟩,
                ⟨some 73, .extr (.t 67) 1, none, 0⟩,
                ⟨some 14, .alloc 32 [.int .i64 0, .int .u8 0, .int .u8 0, .int .u8 0, .int .u8 0, .int .u8 0, .int .u8 0, .int .u8 0, .int .u8 0, .int .u8 0, .int .u8 0, .int .u8 0, .int .u8 0, .int .u8 0, .int .u8 0, .int .u8 0, .int .u8 0, .int .i64 0] [], none, 0⟩,
                ⟨none, .store 18 (.t 14) (.t 72), none, 0⟩,
                ⟨some 15, .mv (.t 73), none, 0⟩] false [])
            (.seq
              (.region 0 [⟨some 74, .load 18 true (.t 10), none, 0⟩,
                ⟨some 75, .load 18 true (.t 14), none, 0⟩,
                ⟨some 76, .eqagg true [1, 1, 1, 1, 1, 1, 1, 1, 1, 1, 1, 1, 1, 1, 1, 1, 1, 1] (.t 74) (.t 75), none, 0⟩,
                ⟨some 77, .mv (.t 76), none, 0⟩,
                ⟨some 78, .mv (.t 11), some (77, false), 0⟩,
                ⟨some 79, .mv (.t 15), some (77, false), 0⟩,
                ⟨some 80, .eqb true (.t 78) (.t 79), some (77, false), 0⟩,
                ⟨some 81, .pick (.t 77) (.c (.bool true)) (.t 80), none, 0⟩] false [])
            (.cond (.t 81)
              (.seq
                (.region 0 [⟨some 6, .mv (.c (.bool false)), none, 0⟩] false [])
              .ret)
              .skip)))))))))))
        (.region 0 [⟨some 82, .bin .add (.t 22) (.c (.int .i64 1)), none, 0⟩,
          ⟨some 22, .mv (.t 82), none, 0⟩] false [])))))))
  (.seq
    (.region 0 [⟨some 6, .mv (.c (.bool true)), none, 0⟩] false [])
  .ret))))),
  false⟩
theorem c4 : cFunc Tryd.prog G f4 Tryd.f4 = some f4 := by kernel_rfl
/-- junctionbox/junctionboxlaw28.QueryWhole -/
def f5 : AFunc :=
⟨3, [.t 6],
  (.seq
    (.region 2 [⟨some 3, .box 24 1 (.t 0) [], none, 0⟩,
      ⟨some 4, .box 32 18 (.t 1) [], none, 1⟩,
      ⟨some 6, .mv (.c (.bool false)), none, 0⟩] false [])
  (.seq
    (.seq
      (.region 0 [⟨some 17, .callV 11 [] false, none, 0⟩,
        ⟨some 18, .not (.t 17), none, 0⟩] false [])
    (.cond (.t 18)
      (.seq
        (.region 0 [⟨some 6, .mv (.c (.bool false)), none, 0⟩] false [])
      .ret)
      .skip))
  (.seq
    (.region 2 [⟨some 19, .load 1 true (.t 3), none, 0⟩,
      ⟨some 20, .callV 12 [.t 19] false, none, 0⟩,
      ⟨some 7, .alloc 24 [.clip []] [(0, 59, 19)], none, 0⟩,
      ⟨none, .store 1 (.t 7) (.t 20), none, 0⟩] false [])
  (.seq
    (.region 1 [⟨some 22, .load 1 true (.t 7), none, 0⟩,
      ⟨some 23, .load 18 true (.t 4), none, 0⟩,
      ⟨some 24, .callV 23 [.t 22, .t 23] true, none, 0⟩,
      ⟨some 21, .mv (.t 24), none, 0⟩,
      ⟨some 25, .extr (.t 21) 0, none, 0⟩,
      ⟨some 26, .extr (.t 21) 1, none, 0⟩,
      ⟨some 8, .mv (.t 25), none, 0⟩,
      ⟨some 9, .mv (.t 26), none, 0⟩] false [])
  (.seq
    (.seq
      (.region 0 [⟨some 27, .mv (.t 9), none, 0⟩,
        ⟨some 28, .bin .neq (.t 27) (.c (.int .i64 0)), none, 0⟩] false [])
    (.cond (.t 28)
      (.seq
        (.region 0 [⟨some 6, .mv (.c (.bool true)), none, 0⟩] false [])
      .ret)
      .skip))
  (.seq
    (.region 1 [⟨some 10, .newl 59 19, none, 0⟩] false [])
  (.seq
    (.region 1 [⟨some 11, .alloc 34 [.bool false, .bool false, .int .i64 0, .int .u8 0, .int .u8 0, .int .u8 0, .int .u8 0, .int .u8 0, .int .u8 0, .int .u8 0, .int .u8 0, .int .u8 0, .int .u8 0, .int .u8 0, .int .u8 0, .int .u8 0, .int .u8 0, .int .u8 0, .int .u8 0, .int .i64 0] [], none, 0⟩] false [])
  (.seq
    (.seq
      (.region 0 [⟨some 29, .mv (.c (.int .i64 0)), none, 0⟩] false [])
    (.block 0
      (.loop [2, 4, 7, 8, 10, 11, 29]
        (.seq
          (.region 0 [⟨some 30, .bin .lss (.t 29) (.c (.int .i64 42)), none, 0⟩] false [])
        (.seq
          (.cond (.t 30)
            .skip
            (.exit 0))
        (.seq
          (.block 1
            (.seq
              (.region 0 [⟨some 31, .mv (.t 29), none, 0⟩,
                ⟨some 12, .mv (.t 31), none, 0⟩] false [])
            (.seq
              (.region 0 [⟨some 13, .mv (.c (.int .i64 1)), none, 0⟩] false [])
            (.seq
              (.seq
                (.region 0 [⟨some 32, .mv (.t 2), none, 0⟩,
                  ⟨some 33, .len (.t 32), none, 0⟩,
                  ⟨some 34, .bin .gtr (.t 33) (.c (.int .i64 0)), none, 0⟩] false [])
              (.cond (.t 34)
                (.region 0 [⟨some 35, .mv (.t 2), none, 0⟩,
                  ⟨some 36, .mv (.t 12), none, 0⟩,
                  ⟨some 37, .mv (.t 2), none, 0⟩,
                  ⟨some 38, .len (.t 37), none, 0⟩,
                  ⟨some 39, .bin .rem (.t 36) (.t 38), none, 0⟩,
                  ⟨some 40, .iaddr 1 none (.t 35) (.t 39), none, 0⟩,
                  ⟨some 41, .load 1 false (.t 40), none, 0⟩,
                  ⟨some 42, .conv .u64 (.t 41), none, 0⟩,
                  ⟨some 43, .bin .rem (.t 42) (.c (.int .u64 16)), none, 0⟩,
                  ⟨some 44, .conv .i64 (.t 43), none, 0⟩,
                  ⟨some 45, .bin .add (.c (.int .i64 1)) (.t 44), none, 0⟩,
                  ⟨some 13, .mv (.t 45), none, 0⟩] false [])
                .skip))
            (.seq
              (.region 2 [⟨some 47, .load 1 true (.t 7), none, 0⟩,
                ⟨some 48, .load 18 true (.t 4), none, 0⟩,
                ⟨some 49, .load 20 true (.t 11), none, 0⟩,
                ⟨some 50, .mv (.t 13), none, 0⟩,
                ⟨some 51, .callV 13 [.t 47, .t 48, .t 49, .t 50] true, none, 0⟩,
                ⟨some 46, .mv (.t 51), none, 0⟩,
                ⟨some 52, .extr (.t 46) 0, none, 0⟩,
                ⟨some 53, .extr (.t 46) 1, none, 0⟩,
                ⟨some 54, .extr (.t 46) 2, none, 0⟩,
                ⟨some 15, .alloc 34 [.bool false, .bool false, .int .i64 0, .int .u8 0, .int .u8 0, .int .u8 0, .int .u8 0, .int .u8 0, .int .u8 0, .int .u8 0, .int .u8 0, .int .u8 0, .int .u8 0, .int .u8 0, .int .u8 0, .int .u8 0, .int .u8 0, .int .u8 0, .int .u8 0, .int .i64 0] [], none, 1⟩,
                ⟨some 14, .mv (.t 52), none, 0⟩,
                ⟨none, .store 20 (.t 15) (.t 53), none, 0⟩,
                ⟨some 16, .mv (.t 54), none, 0⟩] false [])
            (.seq
              (.seq
                (.region 0 [⟨some 55, .mv (.t 16), none, 0⟩,
                  ⟨some 56, .bin .neq (.t 55) (.c (.int .i64 0)), none, 0⟩,
                  ⟨some 57, .mv (.t 56), none, 0⟩,
                  ⟨some 58, .mv (.t 14), some (57, false), 0⟩,
                  ⟨some 59, .len (.t 58), some (57, false), 0⟩,
                  ⟨some 60, .mv (.t 13), some (57, false), 0⟩,
                  ⟨some 61, .bin .gtr (.t 59) (.t 60), some (57, false), 0⟩,
                  ⟨some 62, .pick (.t 57) (.c (.bool true)) (.t 61), none, 0⟩,
                  ⟨some 63, .mv (.t 62), none, 0⟩,
                  ⟨some 64, .faddr 1 (.t 15), some (63, false), 0⟩,
                  ⟨some 65, .load 1 false (.t 64), some (63, false), 0⟩,
                  ⟨some 66, .not (.t 65), some (63, false), 0⟩,
                  ⟨some 67, .mv (.t 66), some (63, false), 0⟩,
                  ⟨some 68, .mv (.t 14), some (67, true), 0⟩,
                  ⟨some 69, .len (.t 68), some (67, true), 0⟩,
                  ⟨some 70, .mv (.t 13), some (67, true), 0⟩,
                  ⟨some 71, .bin .lss (.t 69) (.t 70), some (67, true), 0⟩,
                  ⟨some 72, .pick (.t 67) (.t 71) (.c (.bool false)), some (63, false), 0⟩,
                  ⟨some 73, .pick (.t 63) (.c (.bool true)) (.t 72), none, 0⟩] false [])
              (.cond (.t 73)
                (.seq
                  (.region 0 [⟨some 6, .mv (.c (.bool false)), none, 0⟩] false [])
                .ret)
                .skip))
            (.seq
              (.region 1 [⟨some 74, .mv (.t 10), none, 0⟩,
                ⟨some 75, .mv (.t 14), none, 0⟩,
                ⟨some 76, .append 59 19 40 (.t 74) (.t 75), none, 0⟩,
                ⟨some 77, .load 20 true (.t 15), none, 0⟩,
                ⟨some 10, .mv (.t 76), none, 0⟩,
                ⟨none, .store 20 (.t 11) (.t 77), none, 0⟩] true [(.t 15, .t 74, 0)])
            (.seq
              (.region 0 [⟨some 78, .faddr 1 (.t 11), none, 0⟩,
                ⟨some 79, .load 1 false (.t 78), none, 0⟩] false [])
            (.cond (.t 79)
              (.exit 0)
              .skip)))))))))
        (.region 0 [⟨some 80, .bin .add (.t 29) (.c (.int .i64 1)), none, 0⟩,
          ⟨some 29, .mv (.t 80), none, 0⟩] false [])))))))
  (.seq
    (.region 0 [⟨some 81, .faddr 1 (.t 11), none, 0⟩,
      ⟨some 82, .load 1 false (.t 81), none, 0⟩,
      ⟨some 83, .mv (.t 82), none, 0⟩,
      ⟨some 84, .mv (.t 10), some (83, true), 0⟩,
      ⟨some 85, .mv (.t 8), some (83, true), 0⟩,
      ⟨some 86, .callV 24 [.t 84, .t 85] false, some (83, true), 0⟩,
      ⟨some 87, .pick (.t 83) (.t 86) (.c (.bool false)), none, 0⟩,
      ⟨some 6, .mv (.t 87), none, 0⟩] false [])
  .ret))))))))),
  false⟩
theorem c5 : cFunc Tryd.prog G f5 Tryd.f5 = some f5 := by kernel_rfl
/-- junctionbox/junctionboxlaw28.QueryRows -/
def f6 : AFunc :=
⟨2, [.t 4],
  (.seq
    (.region 1 [⟨some 2, .box 24 1 (.t 0) [], none, 0⟩,
      ⟨some 4, .mv (.c (.bool false)), none, 0⟩] false [])
  (.seq
    (.seq
      (.region 0 [⟨some 19, .callV 11 [] false, none, 0⟩,
        ⟨some 20, .not (.t 19), none, 0⟩] false [])
    (.cond (.t 20)
      (.seq
        (.region 0 [⟨some 4, .mv (.c (.bool false)), none, 0⟩] false [])
      .ret)
      .skip))
  (.seq
    (.region 2 [⟨some 21, .load 1 true (.t 2), none, 0⟩,
      ⟨some 22, .callV 12 [.t 21] false, none, 0⟩,
      ⟨some 23, .load 1 true (.t 2), none, 0⟩,
      ⟨some 24, .callV 12 [.t 23] false, none, 0⟩,
      ⟨some 5, .alloc 24 [.clip []] [], none, 0⟩,
      ⟨some 6, .alloc 24 [.clip []] [], none, 1⟩,
      ⟨none, .store 1 (.t 5) (.t 22), none, 0⟩,
      ⟨none, .store 1 (.t 6) (.t 24), none, 0⟩] true [(.t 2, .c .undef, 0), (.t 21, .c .undef, 0), (.t 23, .c .undef, 0), (.t 2, .c .undef, 1), (.t 21, .c .undef, 1), (.t 23, .c .undef, 1)])
  (.seq
    (.seq
      (.region 0 [⟨some 25, .mv (.t 1), none, 0⟩,
        ⟨some 26, .len (.t 25), none, 0⟩,
        ⟨some 27, .mv (.c (.int .i64 0)), none, 0⟩] false [])
    (.block 0
      (.loop [5, 6, 25, 26, 27]
        (.seq
          (.region 0 [⟨some 28, .bin .lss (.t 27) (.t 26), none, 0⟩] false [])
        (.seq
          (.cond (.t 28)
            .skip
            (.exit 0))
        (.seq
          (.block 1
            (.seq
              (.region 1 [⟨some 29, .mv (.t 27), none, 0⟩,
                ⟨some 30, .iaddr 18 none (.t 25) (.t 27), none, 0⟩,
                ⟨some 31, .load 18 true (.t 30), none, 0⟩,
                ⟨some 8, .alloc 32 [.int .i64 0, .int .u8 0, .int .u8 0, .int .u8 0, .int .u8 0, .int .u8 0, .int .u8 0, .int .u8 0, .int .u8 0, .int .u8 0, .int .u8 0, .int .u8 0, .int .u8 0, .int .u8 0, .int .u8 0, .int .u8 0, .int .u8 0, .int .i64 0] [], none, 0⟩,
                ⟨some 7, .mv (.t 29), none, 0⟩,
                ⟨none, .store 18 (.t 8) (.t 31), none, 0⟩] false [])
            (.seq
              (.seq
                (.region 0 [⟨some 32, .mv (.t 7), none, 0⟩,
                  ⟨some 33, .bin .eql (.t 32) (.c (.int .i64 10)), none, 0⟩] false [])
              (.cond (.t 33)
                (.exit 0)
                .skip))
            (.seq
              (.region 1 [⟨some 35, .load 1 true (.t 5), none, 0⟩,
                ⟨some 36, .load 18 true (.t 8), none, 0⟩,
                ⟨some 37, .callV 25 [.t 35, .t 36] true, none, 0⟩,
                ⟨some 34, .mv (.t 37), none, 0⟩,
                ⟨some 38, .extr (.t 34) 0, none, 0⟩,
                ⟨some 39, .extr (.t 34) 1, none, 0⟩,
                ⟨some 9, .mv (.t 38), none, 0⟩,
                ⟨some 10, .mv (.t 39), none, 0⟩] false [])
            (.seq
              (.region 1 [⟨some 41, .load 1 true (.t 5), none, 0⟩,
                ⟨some 42, .load 18 true (.t 8), none, 0⟩,
                ⟨some 43, .callV 23 [.t 41, .t 42] true, none, 0⟩,
                ⟨some 40, .mv (.t 43), none, 0⟩,
                ⟨some 44, .extr (.t 40) 0, none, 0⟩,
                ⟨some 45, .extr (.t 40) 1, none, 0⟩,
                ⟨some 11, .mv (.t 44), none, 0⟩,
                ⟨some 12, .mv (.t 45), none, 0⟩] false [])
            (.seq
              (.region 1 [⟨some 47, .load 1 true (.t 5), none, 0⟩,
                ⟨some 48, .load 18 true (.t 8), none, 0⟩,
                ⟨some 49, .callV 26 [.t 47, .t 48] false, none, 0⟩,
                ⟨some 46, .mv (.t 49), none, 0⟩,
                ⟨some 50, .extr (.t 46) 0, none, 0⟩,
                ⟨some 51, .extr (.t 46) 1, none, 0⟩,
                ⟨some 52, .extr (.t 46) 2, none, 0⟩,
                ⟨some 13, .alloc 59 [.int .i64 0, .int .u8 0, .int .u8 0, .int .u8 0, .int .u8 0, .int .u8 0, .int .u8 0, .int .u8 0, .int .u8 0, .int .u8 0, .int .u8 0, .int .u8 0, .int .u8 0, .int .u8 0, .int .u8 0, .int .u8 0, .int .u8 0, .int .i64 0, .int .i64 0] [], none, 0⟩,
                ⟨none, .store 19 (.t 13) (.t 50), none, 0⟩,
                ⟨some 14, .mv (.t 51), none, 0⟩,
                ⟨some 15, .mv (.t 52), none, 0⟩] false [])
            (.seq
              (.region 0 [⟨some 53, .load 1 true (.t 6), none, 0⟩,
                ⟨some 54, .load 18 true (.t 8), none, 0⟩,
                ⟨some 55, .callV 14 [.t 53, .t 54] false, none, 0⟩,
                ⟨some 16, .mv (.t 55), none, 0⟩] false [])
            (.seq
              (.seq
                (.region 0 [⟨some 56, .mv (.t 10), none, 0⟩,
                  ⟨some 57, .mv (.t 16), none, 0⟩,
                  ⟨some 58, .bin .neq (.t 56) (.t 57), none, 0⟩,
                  ⟨some 59, .mv (.t 58), none, 0⟩,
                  ⟨some 60, .mv (.t 12), some (59, false), 0⟩,
                  ⟨some 61, .mv (.t 16), some (59, false), 0⟩,
                  ⟨some 62, .bin .neq (.t 60) (.t 61), some (59, false), 0⟩,
                  ⟨some 63, .pick (.t 59) (.c (.bool true)) (.t 62), none, 0⟩,
                  ⟨some 64, .mv (.t 63), none, 0⟩,
                  ⟨some 65, .mv (.t 15), some (64, false), 0⟩,
                  ⟨some 66, .mv (.t 16), some (64, false), 0⟩,
                  ⟨some 67, .bin .neq (.t 65) (.t 66), some (64, false), 0⟩,
                  ⟨some 68, .pick (.t 64) (.c (.bool true)) (.t 67), none, 0⟩] false [])
              (.cond (.t 68)
                (.seq
                  (.region 0 [⟨some 4, .mv (.c (.bool false)), none, 0⟩] false [])
                .ret)
                .skip))
            (.seq
              (.seq
                (.region 0 [⟨some 69, .mv (.t 16), none, 0⟩,
                  ⟨some 70, .bin .neq (.t 69) (.c (.int .i64 0)), none, 0⟩] false [])
              (.cond (.t 70)
                (.seq
                  (.seq
                    (.region 0 [⟨some 71, .mv (.t 9), none, 0⟩,
                      ⟨some 72, .len (.t 71), none, 0⟩,
                      ⟨some 73, .mv (.t 11), none, 0⟩,
                      ⟨some 74, .len (.t 73), none, 0⟩,
                      ⟨some 75, .bin .add (.t 72) (.t 74), none, 0⟩,
                      ⟨some 76, .bin .neq (.t 75) (.c (.int .i64 0)), none, 0⟩,
                      ⟨some 77, .mv (.t 76), none, 0⟩,
                      ⟨some 78, .mv (.t 14), some (77, false), 0⟩,
                      ⟨some 79, .pick (.t 77) (.c (.bool true)) (.t 78), none, 0⟩,
                      ⟨some 80, .mv (.t 79), none, 0⟩,
                      ⟨some 81, .load 19 true (.t 13), some (80, false), 0⟩,
                      ⟨some 82, .build [.int .i64 0, .int .u8 0, .int .u8 0, .int .u8 0, .int .u8 0, .int .u8 0, .int .u8 0, .int .u8 0, .int .u8 0, .int .u8 0, .int .u8 0, .int .u8 0, .int .u8 0, .int .u8 0, .int .u8 0, .int .u8 0, .int .u8 0, .int .i64 0, .int .i64 0] [] [], some (80, false), 0⟩,
                      ⟨some 83, .eqagg true [1, 1, 1, 1, 1, 1, 1, 1, 1, 1, 1, 1, 1, 1, 1, 1, 1, 1, 1] (.t 81) (.t 82), some (80, false), 0⟩,
                      ⟨some 84, .pick (.t 80) (.c (.bool true)) (.t 83), none, 0⟩] false [])
                  (.cond (.t 84)
                    (.seq
                      (.region 0 [⟨some 4, .mv (.c (.bool false)), none, 0⟩] false [])
                    .ret)
                    .skip))
                (.exit 1))
                .skip))
            (.seq
              (.region 1 [⟨some 86, .load 1 true (.t 6), none, 0⟩,
                ⟨some 87, .load 18 true (.t 8), none, 0⟩,
                ⟨some 88, .callV 27 [.t 86, .t 87] false, none, 0⟩,
                ⟨some 85, .mv (.t 88), none, 0⟩,
                ⟨some 89, .extr (.t 85) 0, none, 0⟩,
                ⟨some 90, .extr (.t 85) 1, none, 0⟩,
                ⟨some 17, .alloc 59 [.int .i64 0, .int .u8 0, .int .u8 0, .int .u8 0, .int .u8 0, .int .u8 0, .int .u8 0, .int .u8 0, .int .u8 0, .int .u8 0, .int .u8 0, .int .u8 0, .int .u8 0, .int .u8 0, .int .u8 0, .int .u8 0, .int .u8 0, .int .i64 0, .int .i64 0] [], none, 0⟩,
                ⟨none, .store 19 (.t 17) (.t 89), none, 0⟩,
                ⟨some 18, .mv (.t 90), none, 0⟩] false [])
            (.seq
              (.seq
                (.region 0 [⟨some 91, .mv (.t 9), none, 0⟩,
                  ⟨some 92, .load 1 true (.t 6), none, 0⟩,
                  ⟨some 93, .load 18 true (.t 8), none, 0⟩,
                  ⟨some 94, .callV 28 [.t 92, .t 93] false, none, 0⟩,
                  ⟨some 95, .callV 17 [.t 91, .t 94] false, none, 0⟩,
                  ⟨some 96, .not (.t 95), none, 0⟩,
                  ⟨some 97, .mv (.t 96), none, 0⟩,
                  ⟨some 98, .mv (.t 11), some (97, false), 0⟩,
                  ⟨some 99, .load 1 true (.t 6), some (97, false), 0⟩,
                  ⟨some 100, .load 18 true (.t 8), some (97, false), 0⟩,
                  ⟨some 101, .callV 29 [.t 99, .t 100] false, some (97, false), 0⟩,
                  ⟨some 102, .callV 17 [.t 98, .t 101] false, some (97, false), 0⟩,
                  ⟨some 103, .not (.t 102), some (97, false), 0⟩,
                  ⟨some 104, .pick (.t 97) (.c (.bool true)) (.t 103), none, 0⟩,
                  ⟨some 105, .mv (.t 104), none, 0⟩,
                  ⟨some 106, .load 19 true (.t 13), some (105, false), 0⟩,
                  ⟨some 107, .load 19 true (.t 17), some (105, false), 0⟩,
                  ⟨some 108, .eqagg true [1, 1, 1, 1, 1, 1, 1, 1, 1, 1, 1, 1, 1, 1, 1, 1, 1, 1, 1] (.t 106) (.t 107), some (105, false), 0⟩,
                  ⟨some 109, .pick (.t 105) (.c (.bool true)) (.t 108), none, 0⟩,
                  ⟨some 110, .mv (.t 109), none, 0⟩,
                  ⟨some 111, .mv (.t 14), some (110, false), 0⟩,
                  ⟨some 112, .mv (.t 18), some (110, false), 0⟩,
                  ⟨some 113, .eqb true (.t 111) (.t 112), some (110, false), 0⟩,
                  ⟨some 114, .pick (.t 110) (.c (.bool true)) (.t 113), none, 0⟩] false [])
              (.cond (.t 114)
                (.seq
                  (.region 0 [⟨some 4, .mv (.c (.bool false)), none, 0⟩] false [])
                .ret)
                .skip))
            (.seq
              (.region 0 [⟨some 115, .mv (.t 9), none, 0⟩,
                ⟨some 116, .mv (.t 11), none, 0⟩,
                ⟨some 117, .buildRf 22 1 [.clip []] 2 [(0, .t 115), (1, .t 116)], none, 0⟩,
                ⟨some 118, .callR (.c (.clo 18 [])) [.t 117] false, none, 0⟩] false [])
            (.seq
              (.region 0 [⟨some 119, .load 1 true (.t 5), none, 0⟩,
                ⟨some 120, .load 1 true (.t 6), none, 0⟩,
                ⟨some 121, .callV 19 [.t 119, .t 120] false, none, 0⟩,
                ⟨some 122, .not (.t 121), none, 0⟩] false [])
            (.cond (.t 122)
              (.seq
                (.region 0 [⟨some 4, .mv (.c (.bool false)), none, 0⟩] false [])
              .ret)
              .skip))))))))))))))
        (.region 0 [⟨some 123, .bin .add (.t 27) (.c (.int .i64 1)), none, 0⟩,
          ⟨some 27, .mv (.t 123), none, 0⟩] false [])))))))
  (.seq
    (.region 0 [⟨some 4, .mv (.c (.bool true)), none, 0⟩] false [])
  .ret))))),
  false⟩
theorem c6 : cFunc Tryd.prog G f6 Tryd.f6 = some f6 := by kernel_rfl
/-- junctionbox/junctionboxlaw28.QueryAddrs -/
def f7 : AFunc :=
⟨2, [.t 4],
  (.seq
    (.region 1 [⟨some 2, .box 24 1 (.t 0) [], none, 0⟩,
      ⟨some 4, .mv (.c (.bool false)), none, 0⟩] false [])
  (.seq
    (.seq
      (.region 0 [⟨some 17, .callV 11 [] false, none, 0⟩,
        ⟨some 18, .not (.t 17), none, 0⟩] false [])
    (.cond (.t 18)
      (.seq
        (.region 0 [⟨some 4, .mv (.c (.bool false)), none, 0⟩] false [])
      .ret)
      .skip))
  (.seq
    (.region 2 [⟨some 19, .load 1 true (.t 2), none, 0⟩,
      ⟨some 20, .callV 12 [.t 19] false, none, 0⟩,
      ⟨some 21, .load 1 true (.t 2), none, 0⟩,
      ⟨some 22, .callV 12 [.t 21] false, none, 0⟩,
      ⟨some 5, .alloc 24 [.clip []] [], none, 0⟩,
      ⟨some 6, .alloc 24 [.clip []] [], none, 1⟩,
      ⟨none, .store 1 (.t 5) (.t 20), none, 0⟩,
      ⟨none, .store 1 (.t 6) (.t 22), none, 0⟩] true [(.t 2, .c .undef, 0), (.t 19, .c .undef, 0), (.t 21, .c .undef, 0), (.t 2, .c .undef, 1), (.t 19, .c .undef, 1), (.t 21, .c .undef, 1)])
  (.seq
    (.seq
      (.region 0 [⟨some 23, .mv (.t 1), none, 0⟩,
        ⟨some 24, .len (.t 23), none, 0⟩,
        ⟨some 25, .mv (.c (.int .i64 0)), none, 0⟩] false [])
    (.block 0
      (.loop [5, 6, 23, 24, 25]
        (.seq
          (.region 0 [⟨some 26, .bin .lss (.t 25) (.t 24), none, 0⟩] false [])
        (.seq
          (.cond (.t 26)
            .skip
            (.exit 0))
        (.seq
          (.block 1
            (.seq
              (.region 1 [⟨some 27, .mv (.t 25), none, 0⟩,
                ⟨some 28, .iaddr 17 none (.t 23) (.t 25), none, 0⟩,
                ⟨some 29, .load 17 true (.t 28), none, 0⟩,
                ⟨some 8, .alloc 30 [.int .i64 0, .int .u8 0, .int .u8 0, .int .u8 0, .int .u8 0, .int .u8 0, .int .u8 0, .int .u8 0, .int .u8 0, .int .u8 0, .int .u8 0, .int .u8 0, .int .u8 0, .int .u8 0, .int .u8 0, .int .u8 0, .int .u8 0] [], none, 0⟩,
                ⟨some 7, .mv (.t 27), none, 0⟩,
                ⟨none, .store 17 (.t 8) (.t 29), none, 0⟩] false [])
            (.seq
              (.seq
                (.region 0 [⟨some 30, .mv (.t 7), none, 0⟩,
                  ⟨some 31, .bin .eql (.t 30) (.c (.int .i64 12)), none, 0⟩] false [])
              (.cond (.t 31)
                (.exit 0)
                .skip))
            (.seq
              (.region 1 [⟨some 33, .load 1 true (.t 5), none, 0⟩,
                ⟨some 34, .load 17 true (.t 8), none, 0⟩,
                ⟨some 35, .callV 30 [.t 33, .t 34] true, none, 0⟩,
                ⟨some 32, .mv (.t 35), none, 0⟩,
                ⟨some 36, .extr (.t 32) 0, none, 0⟩,
                ⟨some 37, .extr (.t 32) 1, none, 0⟩,
                ⟨some 9, .mv (.t 36), none, 0⟩,
                ⟨some 10, .mv (.t 37), none, 0⟩] false [])
            (.seq
              (.region 1 [⟨some 39, .load 1 true (.t 5), none, 0⟩,
                ⟨some 40, .load 17 true (.t 8), none, 0⟩,
                ⟨some 41, .callV 31 [.t 39, .t 40] false, none, 0⟩,
                ⟨some 38, .mv (.t 41), none, 0⟩,
                ⟨some 42, .extr (.t 38) 0, none, 0⟩,
                ⟨some 43, .extr (.t 38) 1, none, 0⟩,
                ⟨some 44, .extr (.t 38) 2, none, 0⟩,
                ⟨some 11, .alloc 59 [.int .i64 0, .int .u8 0, .int .u8 0, .int .u8 0, .int .u8 0, .int .u8 0, .int .u8 0, .int .u8 0, .int .u8 0, .int .u8 0, .int .u8 0, .int .u8 0, .int .u8 0, .int .u8 0, .int .u8 0, .int .u8 0, .int .u8 0, .int .i64 0, .int .i64 0] [], none, 0⟩,
                ⟨none, .store 19 (.t 11) (.t 42), none, 0⟩,
                ⟨some 12, .mv (.t 43), none, 0⟩,
                ⟨some 13, .mv (.t 44), none, 0⟩] false [])
            (.seq
              (.region 0 [⟨some 14, .mv (.c (.int .i64 0)), none, 0⟩] false [])
            (.seq
              (.seq
                (.region 0 [⟨some 45, .load 1 true (.t 6), none, 0⟩,
                  ⟨some 46, .callV 32 [.t 45] false, none, 0⟩,
                  ⟨some 47, .not (.t 46), none, 0⟩] false [])
              (.cond (.t 47)
                (.region 0 [⟨some 14, .mv (.c (.int .i64 190)), none, 0⟩] false [])
                (.seq
                  (.region 0 [⟨some 48, .load 17 true (.t 8), none, 0⟩,
                    ⟨some 49, .callV 33 [.t 48] false, none, 0⟩,
                    ⟨some 50, .not (.t 49), none, 0⟩] false [])
                (.cond (.t 50)
                  (.region 0 [⟨some 14, .mv (.c (.int .i64 150)), none, 0⟩] false [])
                  .skip))))
            (.seq
              (.seq
                (.region 0 [⟨some 51, .mv (.t 10), none, 0⟩,
                  ⟨some 52, .mv (.t 14), none, 0⟩,
                  ⟨some 53, .bin .neq (.t 51) (.t 52), none, 0⟩,
                  ⟨some 54, .mv (.t 53), none, 0⟩,
                  ⟨some 55, .mv (.t 13), some (54, false), 0⟩,
                  ⟨some 56, .mv (.t 14), some (54, false), 0⟩,
                  ⟨some 57, .bin .neq (.t 55) (.t 56), some (54, false), 0⟩,
                  ⟨some 58, .pick (.t 54) (.c (.bool true)) (.t 57), none, 0⟩] false [])
              (.cond (.t 58)
                (.seq
                  (.region 0 [⟨some 4, .mv (.c (.bool false)), none, 0⟩] false [])
                .ret)
                .skip))
            (.seq
              (.seq
                (.region 0 [⟨some 59, .mv (.t 14), none, 0⟩,
                  ⟨some 60, .bin .neq (.t 59) (.c (.int .i64 0)), none, 0⟩] false [])
              (.cond (.t 60)
                (.seq
                  (.seq
                    (.region 0 [⟨some 61, .mv (.t 9), none, 0⟩,
                      ⟨some 62, .len (.t 61), none, 0⟩,
                      ⟨some 63, .bin .neq (.t 62) (.c (.int .i64 0)), none, 0⟩,
                      ⟨some 64, .mv (.t 63), none, 0⟩,
                      ⟨some 65, .mv (.t 12), some (64, false), 0⟩,
                      ⟨some 66, .pick (.t 64) (.c (.bool true)) (.t 65), none, 0⟩,
                      ⟨some 67, .mv (.t 66), none, 0⟩,
                      ⟨some 68, .load 19 true (.t 11), some (67, false), 0⟩,
                      ⟨some 69, .build [.int .i64 0, .int .u8 0, .int .u8 0, .int .u8 0, .int .u8 0, .int .u8 0, .int .u8 0, .int .u8 0, .int .u8 0, .int .u8 0, .int .u8 0, .int .u8 0, .int .u8 0, .int .u8 0, .int .u8 0, .int .u8 0, .int .u8 0, .int .i64 0, .int .i64 0] [] [], some (67, false), 0⟩,
                      ⟨some 70, .eqagg true [1, 1, 1, 1, 1, 1, 1, 1, 1, 1, 1, 1, 1, 1, 1, 1, 1, 1, 1] (.t 68) (.t 69), some (67, false), 0⟩,
                      ⟨some 71, .pick (.t 67) (.c (.bool true)) (.t 70), none, 0⟩] false [])
                  (.cond (.t 71)
                    (.seq
                      (.region 0 [⟨some 4, .mv (.c (.bool false)), none, 0⟩] false [])
                    .ret)
                    .skip))
                (.exit 1))
                .skip))
            (.seq
              (.region 1 [⟨some 73, .load 1 true (.t 6), none, 0⟩,
                ⟨some 74, .load 17 true (.t 8), none, 0⟩,
                ⟨some 75, .callV 34 [.t 73, .t 74] false, none, 0⟩,
                ⟨some 72, .mv (.t 75), none, 0⟩,
                ⟨some 76, .extr (.t 72) 0, none, 0⟩,
                ⟨some 77, .extr (.t 72) 1, none, 0⟩,
                ⟨some 15, .alloc 59 [.int .i64 0, .int .u8 0, .int .u8 0, .int .u8 0, .int .u8 0, .int .u8 0, .int .u8 0, .int .u8 0, .int .u8 0, .int .u8 0, .int .u8 0, .int .u8 0, .int .u8 0, .int .u8 0, .int .u8 0, .int .u8 0, .int .u8 0, .int .i64 0, .int .i64 0] [], none, 0⟩,
                ⟨none, .store 19 (.t 15) (.t 76), none, 0⟩,
                ⟨some 16, .mv (.t 77), none, 0⟩] false [])
            (.seq
              (.seq
                (.region 0 [⟨some 78, .mv (.t 9), none, 0⟩,
                  ⟨some 79, .load 1 true (.t 6), none, 0⟩,
                  ⟨some 80, .load 17 true (.t 8), none, 0⟩,
                  ⟨some 81, .callV 35 [.t 79, .t 80] false, none, 0⟩,
                  ⟨some 82, .callV 17 [.t 78, .t 81] false, none, 0⟩,
                  ⟨some 83, .not (.t 82), none, 0⟩,
                  ⟨some 84, .mv (.t 83), none, 0⟩,
                  ⟨some 85, .load 19 true (.t 11), some (84, false), 0⟩,
                  ⟨some 86, .load 19 true (.t 15), some (84, false), 0⟩,
                  ⟨some 87, .eqagg true [1, 1, 1, 1, 1, 1, 1, 1, 1, 1, 1, 1, 1, 1, 1, 1, 1, 1, 1] (.t 85) (.t 86), some (84, false), 0⟩,
                  ⟨some 88, .pick (.t 84) (.c (.bool true)) (.t 87), none, 0⟩,
                  ⟨some 89, .mv (.t 88), none, 0⟩,
                  ⟨some 90, .mv (.t 12), some (89, false), 0⟩,
                  ⟨some 91, .mv (.t 16), some (89, false), 0⟩,
                  ⟨some 92, .eqb true (.t 90) (.t 91), some (89, false), 0⟩,
                  ⟨some 93, .pick (.t 89) (.c (.bool true)) (.t 92), none, 0⟩] false [])
              (.cond (.t 93)
                (.seq
                  (.region 0 [⟨some 4, .mv (.c (.bool false)), none, 0⟩] false [])
                .ret)
                .skip))
            (.seq
              (.region 0 [⟨some 94, .mv (.t 9), none, 0⟩,
                ⟨some 95, .buildRf 22 1 [.clip []] 1 [(0, .t 94)], none, 0⟩,
                ⟨some 96, .callR (.c (.clo 18 [])) [.t 95] false, none, 0⟩] false [])
            (.seq
              (.region 0 [⟨some 97, .load 1 true (.t 5), none, 0⟩,
                ⟨some 98, .load 1 true (.t 6), none, 0⟩,
                ⟨some 99, .callV 19 [.t 97, .t 98] false, none, 0⟩,
                ⟨some 100, .not (.t 99), none, 0⟩] false [])
            (.cond (.t 100)
              (.seq
                (.region 0 [⟨some 4, .mv (.c (.bool false)), none, 0⟩] false [])
              .ret)
              .skip))))))))))))))
        (.region 0 [⟨some 101, .bin .add (.t 25) (.c (.int .i64 1)), none, 0⟩,
          ⟨some 25, .mv (.t 101), none, 0⟩] false [])))))))
  (.seq
    (.region 0 [⟨some 4, .mv (.c (.bool true)), none, 0⟩] false [])
  .ret))))),
  false⟩
theorem c7 : cFunc Tryd.prog G f7 Tryd.f7 = some f7 := by kernel_rfl
/-- junctionbox/junctionboxlaw28.QueryLongest -/
def f8 : AFunc :=
⟨2, [.t 4],
  (.seq
    (.region 1 [⟨some 2, .box 24 1 (.t 0) [], none, 0⟩,
      ⟨some 4, .mv (.c (.bool false)), none, 0⟩] false [])
  (.seq
    (.seq
      (.region 0 [⟨some 14, .callV 11 [] false, none, 0⟩,
        ⟨some 15, .not (.t 14), none, 0⟩] false [])
    (.cond (.t 15)
      (.seq
        (.region 0 [⟨some 4, .mv (.c (.bool false)), none, 0⟩] false [])
      .ret)
      .skip))
  (.seq
    (.region 2 [⟨some 16, .load 1 true (.t 2), none, 0⟩,
      ⟨some 17, .callV 12 [.t 16] false, none, 0⟩,
      ⟨some 5, .alloc 24 [.clip []] [(0, 59, 19)], none, 0⟩,
      ⟨none, .store 1 (.t 5) (.t 17), none, 0⟩] false [])
  (.seq
    (.seq
      (.region 0 [⟨some 18, .mv (.t 1), none, 0⟩,
        ⟨some 19, .len (.t 18), none, 0⟩,
        ⟨some 20, .mv (.c (.int .i64 0)), none, 0⟩] false [])
    (.block 0
      (.loop [5, 18, 19, 20]
        (.seq
          (.region 0 [⟨some 21, .bin .lss (.t 20) (.t 19), none, 0⟩] false [])
        (.seq
          (.cond (.t 21)
            .skip
            (.exit 0))
        (.seq
          (.block 1
            (.seq
              (.region 1 [⟨some 22, .mv (.t 20), none, 0⟩,
                ⟨some 23, .iaddr 17 none (.t 18) (.t 20), none, 0⟩,
                ⟨some 24, .load 17 true (.t 23), none, 0⟩,
                ⟨some 7, .alloc 30 [.int .i64 0, .int .u8 0, .int .u8 0, .int .u8 0, .int .u8 0, .int .u8 0, .int .u8 0, .int .u8 0, .int .u8 0, .int .u8 0, .int .u8 0, .int .u8 0, .int .u8 0, .int .u8 0, .int .u8 0, .int .u8 0, .int .u8 0] [], none, 0⟩,
                ⟨some 6, .mv (.t 22), none, 0⟩,
                ⟨none, .store 17 (.t 7) (.t 24), none, 0⟩] false [])
            (.seq
              (.seq
                (.region 0 [⟨some 25, .mv (.t 6), none, 0⟩,
                  ⟨some 26, .bin .eql (.t 25) (.c (.int .i64 12)), none, 0⟩] false [])
              (.cond (.t 26)
                (.exit 0)
                .skip))
            (.seq
              (.region 1 [⟨some 28, .load 1 true (.t 5), none, 0⟩,
                ⟨some 29, .load 17 true (.t 7), none, 0⟩,
                ⟨some 30, .callV 30 [.t 28, .t 29] true, none, 0⟩,
                ⟨some 27, .mv (.t 30), none, 0⟩,
                ⟨some 31, .extr (.t 27) 0, none, 0⟩,
                ⟨some 32, .extr (.t 27) 1, none, 0⟩,
                ⟨some 8, .mv (.t 31), none, 0⟩,
                ⟨some 9, .mv (.t 32), none, 0⟩] false [])
            (.seq
              (.region 1 [⟨some 34, .load 1 true (.t 5), none, 0⟩,
                ⟨some 35, .load 17 true (.t 7), none, 0⟩,
                ⟨some 36, .callV 36 [.t 34, .t 35] false, none, 0⟩,
                ⟨some 33, .mv (.t 36), none, 0⟩,
                ⟨some 37, .extr (.t 33) 0, none, 0⟩,
                ⟨some 38, .extr (.t 33) 1, none, 0⟩,
                ⟨some 39, .extr (.t 33) 2, none, 0⟩,
                ⟨some 10, .alloc 59 [.int .i64 0, .int .u8 0, .int .u8 0, .int .u8 0, .int .u8 0, .int .u8 0, .int .u8 0, .int .u8 0, .int .u8 0, .int .u8 0, .int .u8 0, .int .u8 0, .int .u8 0, .int .u8 0, .int .u8 0, .int .u8 0, .int .u8 0, .int .i64 0, .int .i64 0] [], none, 0⟩,
                ⟨none, .store 19 (.t 10) (.t 37), none, 0⟩,
                ⟨some 11, .mv (.t 38), none, 0⟩,
                ⟨some 12, .mv (.t 39), none, 0⟩] false [])
            (.seq
              (.seq
                (.region 0 [⟨some 40, .mv (.t 9), none, 0⟩,
                  ⟨some 41, .mv (.t 12), none, 0⟩,
                  ⟨some 42, .bin .neq (.t 40) (.t 41), none, 0⟩] false [])
              (.cond (.t 42)
                (.seq
                  (.region 0 [⟨some 4, .mv (.c (.bool false)), none, 0⟩] false [])
                .ret)
                .skip))
            (.seq
              (.seq
                (.region 0 [⟨some 43, .mv (.t 9), none, 0⟩,
                  ⟨some 44, .bin .neq (.t 43) (.c (.int .i64 0)), none, 0⟩] false [])
              (.cond (.t 44)
                (.exit 1)
                .skip))
            (.seq
              (.seq
                (.region 0 [⟨some 45, .mv (.t 8), none, 0⟩,
                  ⟨some 46, .len (.t 45), none, 0⟩,
                  ⟨some 47, .mv (.c (.int .i64 0)), none, 0⟩] false [])
              (.block 2
                (.loop [5, 8, 10, 11, 18, 19, 20, 46, 47]
                  (.seq
                    (.region 0 [⟨some 48, .bin .lss (.t 47) (.t 46), none, 0⟩] false [])
                  (.seq
                    (.cond (.t 48)
                      .skip
                      (.exit 2))
                  (.seq
                    (.block 3
                      (.seq
                        (.region 0 [⟨some 49, .mv (.t 47), none, 0⟩,
                          ⟨some 13, .mv (.t 49), none, 0⟩] false [])
                      (.seq
                        (.region 0 [⟨some 50, .mv (.t 13), none, 0⟩,
                          ⟨some 51, .bin .gtr (.t 50) (.c (.int .i64 0)), none, 0⟩,
                          ⟨some 52, .mv (.t 51), none, 0⟩,
                          ⟨some 53, .mv (.t 8), some (52, true), 0⟩,
                          ⟨some 54, .mv (.t 13), some (52, true), 0⟩,
                          ⟨some 55, .bin .sub (.t 54) (.c (.int .i64 1)), some (52, true), 0⟩,
                          ⟨some 56, .iaddr 19 none (.t 53) (.t 55), some (52, true), 0⟩,
                          ⟨some 57, .faddr 0 (.t 56), some (52, true), 0⟩,
                          ⟨some 58, .faddr 17 (.t 57), some (52, true), 0⟩,
                          ⟨some 59, .load 1 false (.t 58), some (52, true), 0⟩,
                          ⟨some 60, .mv (.t 8), some (52, true), 0⟩,
                          ⟨some 61, .mv (.t 13), some (52, true), 0⟩,
                          ⟨some 62, .iaddr 19 none (.t 60) (.t 61), some (52, true), 0⟩,
                          ⟨some 63, .faddr 0 (.t 62), some (52, true), 0⟩,
                          ⟨some 64, .faddr 17 (.t 63), some (52, true), 0⟩,
                          ⟨some 65, .load 1 false (.t 64), some (52, true), 0⟩,
                          ⟨some 66, .bin .geq (.t 59) (.t 65), some (52, true), 0⟩,
                          ⟨some 67, .mv (.t 66), some (52, true), 0⟩,
                          ⟨some 68, .mv (.t 8), some (67, false), 0⟩,
                          ⟨some 69, .mv (.t 13), some (67, false), 0⟩,
                          ⟨some 70, .bin .sub (.t 69) (.c (.int .i64 1)), some (67, false), 0⟩,
                          ⟨some 71, .iaddr 19 none (.t 68) (.t 70), some (67, false), 0⟩,
                          ⟨some 72, .faddr 0 (.t 71), some (67, false), 0⟩,
                          ⟨some 73, .load 18 true (.t 72), some (67, false), 0⟩,
                          ⟨some 74, .mv (.t 8), some (67, false), 0⟩,
                          ⟨some 75, .mv (.t 13), some (67, false), 0⟩,
                          ⟨some 76, .iaddr 19 none (.t 74) (.t 75), some (67, false), 0⟩,
                          ⟨some 77, .faddr 0 (.t 76), some (67, false), 0⟩,
                          ⟨some 78, .load 18 true (.t 77), some (67, false), 0⟩,
                          ⟨some 79, .callV 37 [.t 73, .t 78] false, some (67, false), 0⟩,
                          ⟨some 80, .not (.t 79), some (67, false), 0⟩,
                          ⟨some 81, .pick (.t 67) (.c (.bool true)) (.t 80), some (52, true), 0⟩,
                          ⟨some 82, .pick (.t 52) (.t 81) (.c (.bool false)), none, 0⟩] true [])
                      (.cond (.t 82)
                        (.seq
                          (.region 0 [⟨some 4, .mv (.c (.bool false)), none, 0⟩] false [])
                        .ret)
                        .skip))))
                  (.region 0 [⟨some 83, .bin .add (.t 47) (.c (.int .i64 1)), none, 0⟩,
                    ⟨some 47, .mv (.t 83), none, 0⟩] false [])))))))
            (.seq
              (.region 0 [⟨some 84, .mv (.t 11), none, 0⟩,
                ⟨some 85, .mv (.t 8), none, 0⟩,
                ⟨some 86, .len (.t 85), none, 0⟩,
                ⟨some 87, .bin .gtr (.t 86) (.c (.int .i64 0)), none, 0⟩,
                ⟨some 88, .eqb true (.t 84) (.t 87), none, 0⟩,
                ⟨some 89, .mv (.t 88), none, 0⟩,
                ⟨some 90, .mv (.t 11), some (89, false), 0⟩,
                ⟨some 91, .mv (.t 90), some (89, false), 0⟩,
                ⟨some 92, .mv (.t 8), some (91, true), 0⟩,
                ⟨some 93, .mv (.t 8), some (91, true), 0⟩,
                ⟨some 94, .len (.t 93), some (91, true), 0⟩,
                ⟨some 95, .bin .sub (.t 94) (.c (.int .i64 1)), some (91, true), 0⟩,
                ⟨some 96, .iaddr 19 none (.t 92) (.t 95), some (91, true), 0⟩,
                ⟨some 97, .load 19 true (.t 96), some (91, true), 0⟩,
                ⟨some 98, .load 19 true (.t 10), some (91, true), 0⟩,
                ⟨some 99, .eqagg true [1, 1, 1, 1, 1, 1, 1, 1, 1, 1, 1, 1, 1, 1, 1, 1, 1, 1, 1] (.t 97) (.t 98), some (91, true), 0⟩,
                ⟨some 100, .pick (.t 91) (.t 99) (.c (.bool false)), some (89, false), 0⟩,
                ⟨some 101, .pick (.t 89) (.c (.bool true)) (.t 100), none, 0⟩] true [])
            (.cond (.t 101)
              (.seq
                (.region 0 [⟨some 4, .mv (.c (.bool false)), none, 0⟩] false [])
              .ret)
              .skip))))))))))
        (.region 0 [⟨some 102, .bin .add (.t 20) (.c (.int .i64 1)), none, 0⟩,
          ⟨some 20, .mv (.t 102), none, 0⟩] false [])))))))
  (.seq
    (.region 0 [⟨some 4, .mv (.c (.bool true)), none, 0⟩] false [])
  .ret))))),
  false⟩
theorem c8 : cFunc Tryd.prog G f8 Tryd.f8 = some f8 := by kernel_rfl
/-- junctionbox/junctionboxlaw28.QueryMay -/
def f9 : AFunc :=
⟨3, [.t 6],
  (.seq
    (.region 2 [⟨some 3, .box 24 1 (.t 0) [], none, 0⟩,
      ⟨some 4, .box 32 18 (.t 1) [], none, 1⟩,
      ⟨some 6, .mv (.c (.bool false)), none, 0⟩] false [])
  (.seq
    (.seq
      (.region 0 [⟨some 23, .callV 11 [] false, none, 0⟩,
        ⟨some 24, .not (.t 23), none, 0⟩] false [])
    (.cond (.t 24)
      (.seq
        (.region 0 [⟨some 6, .mv (.c (.bool false)), none, 0⟩] false [])
      .ret)
      .skip))
  (.seq
    (.region 2 [⟨some 25, .load 1 true (.t 3), none, 0⟩,
      ⟨some 26, .callV 12 [.t 25] false, none, 0⟩,
      ⟨some 7, .alloc 24 [.clip []] [(0, 59, 19)], none, 0⟩,
      ⟨none, .store 1 (.t 7) (.t 26), none, 0⟩] false [])
  (.seq
    (.region 0 [⟨some 27, .faddr 17 (.t 4), none, 0⟩,
      ⟨some 28, .load 1 false (.t 27), none, 0⟩,
      ⟨some 29, .mv (.t 2), none, 0⟩,
      ⟨some 30, .len (.t 29), none, 0⟩,
      ⟨some 31, .bin .rem (.t 30) (.c (.int .i64 9)), none, 0⟩,
      ⟨some 32, .bin .add (.t 28) (.t 31), none, 0⟩,
      ⟨some 8, .mv (.t 32), none, 0⟩] false [])
  (.seq
    (.region 1 [⟨some 34, .load 1 true (.t 7), none, 0⟩,
      ⟨some 35, .load 18 true (.t 4), none, 0⟩,
      ⟨some 36, .mv (.t 8), none, 0⟩,
      ⟨some 37, .callV 20 [.t 34, .t 35, .t 36] false, none, 0⟩,
      ⟨some 33, .mv (.t 37), none, 0⟩,
      ⟨some 38, .extr (.t 33) 0, none, 0⟩,
      ⟨some 39, .extr (.t 33) 1, none, 0⟩,
      ⟨some 40, .extr (.t 33) 2, none, 0⟩,
      ⟨some 9, .alloc 32 [.int .i64 0, .int .u8 0, .int .u8 0, .int .u8 0, .int .u8 0, .int .u8 0, .int .u8 0, .int .u8 0, .int .u8 0, .int .u8 0, .int .u8 0, .int .u8 0, .int .u8 0, .int .u8 0, .int .u8 0, .int .u8 0, .int .u8 0, .int .i64 0] [], none, 0⟩,
      ⟨none, .store 18 (.t 9) (.t 38), none, 0⟩,
      ⟨some 10, .mv (.t 39), none, 0⟩,
      ⟨some 11, .mv (.t 40), none, 0⟩] false [])
  (.seq
    (.seq
      (.region 0 [⟨some 41, .mv (.t 11), none, 0⟩,
        ⟨some 42, .bin .neq (.t 41) (.c (.int .i64 0)), none, 0⟩,
        ⟨some 43, .mv (.t 42), none, 0⟩,
        ⟨some 44, .mv (.t 10), some (43, false), 0⟩,
        ⟨some 45, .not (.t 44), some (43, false), 0⟩,
        ⟨some 46, .pick (.t 43) (.c (.bool true)) (.t 45), none, 0⟩] false [])
    (.cond (.t 46)
      (.seq
        (.region 0 [⟨some 6, .mv (.c (.bool true)), none, 0⟩] false [])
      .ret)
      .skip))
  (.seq
    (.region 1 [⟨some 48, .load 1 true (.t 7), none, 0⟩,
      ⟨some 49, .load 18 true (.t 9), none, 0⟩,
      ⟨some 50, .callV 23 [.t 48, .t 49] true, none, 0⟩,
      ⟨some 47, .mv (.t 50), none, 0⟩,
      ⟨some 51, .extr (.t 47) 0, none, 0⟩,
      ⟨some 52, .extr (.t 47) 1, none, 0⟩,
      ⟨some 12, .mv (.t 51), none, 0⟩,
      ⟨some 11, .mv (.t 52), none, 0⟩] false [])
  (.seq
    (.seq
      (.region 0 [⟨some 53, .mv (.t 11), none, 0⟩,
        ⟨some 54, .bin .neq (.t 53) (.c (.int .i64 0)), none, 0⟩,
        ⟨some 55, .mv (.t 54), none, 0⟩,
        ⟨some 56, .mv (.t 12), some (55, false), 0⟩,
        ⟨some 57, .len (.t 56), some (55, false), 0⟩,
        ⟨some 58, .bin .neq (.t 57) (.c (.int .i64 0)), some (55, false), 0⟩,
        ⟨some 59, .pick (.t 55) (.c (.bool true)) (.t 58), none, 0⟩,
        ⟨some 60, .mv (.t 59), none, 0⟩,
        ⟨some 61, .faddr 17 (.t 9), some (60, false), 0⟩,
        ⟨some 62, .load 1 false (.t 61), some (60, false), 0⟩,
        ⟨some 63, .mv (.t 8), some (60, false), 0⟩,
        ⟨some 64, .bin .neq (.t 62) (.t 63), some (60, false), 0⟩,
        ⟨some 65, .pick (.t 60) (.c (.bool true)) (.t 64), none, 0⟩,
        ⟨some 66, .mv (.t 65), none, 0⟩,
        ⟨some 67, .load 18 true (.t 4), some (66, false), 0⟩,
        ⟨some 68, .load 18 true (.t 9), some (66, false), 0⟩,
        ⟨some 69, .callV 37 [.t 67, .t 68] false, some (66, false), 0⟩,
        ⟨some 70, .not (.t 69), some (66, false), 0⟩,
        ⟨some 71, .pick (.t 66) (.c (.bool true)) (.t 70), none, 0⟩] false [])
    (.cond (.t 71)
      (.seq
        (.region 0 [⟨some 6, .mv (.c (.bool false)), none, 0⟩] false [])
      .ret)
      .skip))
  (.seq
    (.region 2 [⟨some 73, .load 1 true (.t 7), none, 0⟩,
      ⟨some 74, .load 18 true (.t 9), none, 0⟩,
      ⟨some 75, .callV 38 [.t 73, .t 74, .c (.int .i64 7)] false, none, 0⟩,
      ⟨some 72, .mv (.t 75), none, 0⟩,
      ⟨some 76, .extr (.t 72) 0, none, 0⟩,
      ⟨some 77, .extr (.t 72) 1, none, 0⟩,
      ⟨some 13, .alloc 24 [.clip []] [(0, 59, 19)], none, 0⟩,
      ⟨none, .store 1 (.t 13) (.t 76), none, 0⟩,
      ⟨some 11, .mv (.t 77), none, 0⟩] false [])
  (.seq
    (.seq
      (.region 0 [⟨some 78, .mv (.t 11), none, 0⟩,
        ⟨some 79, .bin .neq (.t 78) (.c (.int .i64 0)), none, 0⟩] false [])
    (.cond (.t 79)
      (.seq
        (.region 0 [⟨some 80, .mv (.t 11), none, 0⟩,
          ⟨some 81, .bin .eql (.t 80) (.c (.int .i64 6)), none, 0⟩,
          ⟨some 6, .mv (.t 81), none, 0⟩] false [])
      .ret)
      .skip))
  (.seq
    (.seq
      (.region 2 [⟨some 82, .mv (.t 2), none, 0⟩,
        ⟨some 83, .mv (.t 2), none, 0⟩,
        ⟨some 84, .len (.t 83), none, 0⟩,
        ⟨some 85, .min (.t 84) [.c (.int .i64 12)], none, 0⟩,
        ⟨some 86, .mv (.t 2), none, 0⟩,
        ⟨some 87, .len (.t 86), none, 0⟩,
        ⟨some 88, .min (.t 87) [.c (.int .i64 12)], none, 0⟩,
        ⟨some 89, .slice 17 (.t 82) none (some (.t 85)) (some (.t 88)), none, 0⟩,
        ⟨some 90, .faddr 0 (.t 9), none, 0⟩,
        ⟨some 91, .load 17 true (.t 90), none, 0⟩,
        ⟨some 92, .buildSl 30 17 [.int .i64 0, .int .u8 0, .int .u8 0, .int .u8 0, .int .u8 0, .int .u8 0, .int .u8 0, .int .u8 0, .int .u8 0, .int .u8 0, .int .u8 0, .int .u8 0, .int .u8 0, .int .u8 0, .int .u8 0, .int .u8 0, .int .u8 0] 1 [(0, .t 91)] false, none, 0⟩,
        ⟨some 93, .append 30 17 24 (.t 89) (.t 92), none, 1⟩,
        ⟨some 94, .len (.t 93), none, 0⟩,
        ⟨some 95, .mv (.c (.int .i64 0)), none, 0⟩] true [])
    (.block 0
      (.loop [7, 9, 13, 93, 94, 95]
        (.seq
          (.region 0 [⟨some 96, .bin .lss (.t 95) (.t 94), none, 0⟩] false [])
        (.seq
          (.cond (.t 96)
            .skip
            (.exit 0))
        (.seq
          (.block 1
            (.seq
              (.region 1 [⟨some 97, .mv (.t 95), none, 0⟩,
                ⟨some 98, .iaddr 17 none (.t 93) (.t 95), none, 0⟩,
                ⟨some 99, .load 17 true (.t 98), none, 0⟩,
                ⟨some 15, .alloc 30 [.int .i64 0, .int .u8 0, .int .u8 0, .int .u8 0, .int .u8 0, .int .u8 0, .int .u8 0, .int .u8 0, .int .u8 0, .int .u8 0, .int .u8 0, .int .u8 0, .int .u8 0, .int .u8 0, .int .u8 0, .int .u8 0, .int .u8 0] [], none, 0⟩,
                ⟨some 14, .mv (.t 97), none, 0⟩,
                ⟨none, .store 17 (.t 15) (.t 99), none, 0⟩] false [])
            (.seq
              (.seq
                (.region 0 [⟨some 100, .mv (.t 14), none, 0⟩,
                  ⟨some 101, .bin .eql (.t 100) (.c (.int .i64 13)), none, 0⟩] false [])
              (.cond (.t 101)
                (.exit 0)
                .skip))
            (.seq
              (.region 1 [⟨some 103, .load 1 true (.t 7), none, 0⟩,
                ⟨some 104, .load 17 true (.t 15), none, 0⟩,
                ⟨some 105, .callV 36 [.t 103, .t 104] false, none, 0⟩,
                ⟨some 102, .mv (.t 105), none, 0⟩,
                ⟨some 106, .extr (.t 102) 0, none, 0⟩,
                ⟨some 107, .extr (.t 102) 1, none, 0⟩,
                ⟨some 108, .extr (.t 102) 2, none, 0⟩,
                ⟨some 16, .alloc 59 [.int .i64 0, .int .u8 0, .int .u8 0, .int .u8 0, .int .u8 0, .int .u8 0, .int .u8 0, .int .u8 0, .int .u8 0, .int .u8 0, .int .u8 0, .int .u8 0, .int .u8 0, .int .u8 0, .int .u8 0, .int .u8 0, .int .u8 0, .int .i64 0, .int .i64 0] [], none, 0⟩,
                ⟨none, .store 19 (.t 16) (.t 106), none, 0⟩,
                ⟨some 17, .mv (.t 107), none, 0⟩,
                ⟨some 18, .mv (.t 108), none, 0⟩] false [])
            (.seq
              (.region 1 [⟨some 110, .load 1 true (.t 13), none, 0⟩,
                ⟨some 111, .load 17 true (.t 15), none, 0⟩,
                ⟨some 112, .callV 36 [.t 110, .t 111] false, none, 0⟩,
                ⟨some 109, .mv (.t 112), none, 0⟩,
                ⟨some 113, .extr (.t 109) 0, none, 0⟩,
                ⟨some 114, .extr (.t 109) 1, none, 0⟩,
                ⟨some 115, .extr (.t 109) 2, none, 0⟩,
                ⟨some 19, .alloc 59 [.int .i64 0, .int .u8 0, .int .u8 0, .int .u8 0, .int .u8 0, .int .u8 0, .int .u8 0, .int .u8 0, .int .u8 0, .int .u8 0, .int .u8 0, .int .u8 0, .int .u8 0, .int .u8 0, .int .u8 0, .int .u8 0, .int .u8 0, .int .i64 0, .int .i64 0] [], none, 0⟩,
                ⟨none, .store 19 (.t 19) (.t 113), none, 0⟩,
                ⟨some 20, .mv (.t 114), none, 0⟩,
                ⟨some 21, .mv (.t 115), none, 0⟩] false [])
            (.seq
              (.seq
                (.region 0 [⟨some 116, .mv (.t 18), none, 0⟩,
                  ⟨some 117, .mv (.t 21), none, 0⟩,
                  ⟨some 118, .bin .neq (.t 116) (.t 117), none, 0⟩] false [])
              (.cond (.t 118)
                (.seq
                  (.region 0 [⟨some 6, .mv (.c (.bool false)), none, 0⟩] false [])
                .ret)
                .skip))
            (.seq
              (.seq
                (.region 0 [⟨some 119, .mv (.t 18), none, 0⟩,
                  ⟨some 120, .bin .neq (.t 119) (.c (.int .i64 0)), none, 0⟩] false [])
              (.cond (.t 120)
                (.exit 1)
                .skip))
            (.seq
              (.region 0 [⟨some 121, .load 18 true (.t 9), none, 0⟩,
                ⟨some 122, .load 17 true (.t 15), none, 0⟩,
                ⟨some 123, .callV 39 [.t 121, .t 122] false, none, 0⟩,
                ⟨some 22, .mv (.t 123), none, 0⟩] false [])
            (.seq
              (.region 0 [⟨some 124, .mv (.t 22), none, 0⟩,
                ⟨some 125, .mv (.t 124), none, 0⟩,
                ⟨some 126, .mv (.t 20), some (125, true), 0⟩,
                ⟨some 127, .not (.t 126), some (125, true), 0⟩,
                ⟨some 128, .mv (.t 127), some (125, true), 0⟩,
                ⟨some 129, .faddr 0 (.t 19), some (128, false), 0⟩,
                ⟨some 130, .load 18 true (.t 129), some (128, false), 0⟩,
                ⟨some 131, .load 18 true (.t 9), some (128, false), 0⟩,
                ⟨some 132, .eqagg true [1, 1, 1, 1, 1, 1, 1, 1, 1, 1, 1, 1, 1, 1, 1, 1, 1, 1] (.t 130) (.t 131), some (128, false), 0⟩,
                ⟨some 133, .pick (.t 128) (.c (.bool true)) (.t 132), some (125, true), 0⟩,
                ⟨some 134, .pick (.t 125) (.t 133) (.c (.bool false)), none, 0⟩,
                ⟨some 135, .mv (.t 134), none, 0⟩,
                ⟨some 136, .mv (.t 22), some (135, false), 0⟩,
                ⟨some 137, .not (.t 136), some (135, false), 0⟩,
                ⟨some 138, .mv (.t 137), some (135, false), 0⟩,
                ⟨some 139, .mv (.t 17), some (138, true), 0⟩,
                ⟨some 140, .mv (.t 20), some (138, true), 0⟩,
                ⟨some 141, .eqb true (.t 139) (.t 140), some (138, true), 0⟩,
                ⟨some 142, .mv (.t 141), some (138, true), 0⟩,
                ⟨some 143, .load 19 true (.t 16), some (142, false), 0⟩,
                ⟨some 144, .load 19 true (.t 19), some (142, false), 0⟩,
                ⟨some 145, .eqagg true [1, 1, 1, 1, 1, 1, 1, 1, 1, 1, 1, 1, 1, 1, 1, 1, 1, 1, 1] (.t 143) (.t 144), some (142, false), 0⟩,
                ⟨some 146, .pick (.t 142) (.c (.bool true)) (.t 145), some (138, true), 0⟩,
                ⟨some 147, .pick (.t 138) (.t 146) (.c (.bool false)), some (135, false), 0⟩,
                ⟨some 148, .pick (.t 135) (.c (.bool true)) (.t 147), none, 0⟩] false [])
            (.cond (.t 148)
              (.seq
                (.region 0 [⟨some 6, .mv (.c (.bool false)), none, 0⟩] false [])
              .ret)
              .skip))))))))))
        (.region 0 [⟨some 149, .bin .add (.t 95) (.c (.int .i64 1)), none, 0⟩,
          ⟨some 95, .mv (.t 149), none, 0⟩] false [])))))))
  (.seq
    (.region 0 [⟨some 6, .mv (.c (.bool true)), none, 0⟩] false [])
  .ret)))))))))))),
  false⟩
theorem c9 : cFunc Tryd.prog G f9 Tryd.f9 = some f9 := by kernel_rfl
/-- junctionbox/junctionboxlaw28.QueryChanges -/
def f10 : AFunc :=
⟨3, [.t 6],
  (.seq
    (.region 2 [⟨some 3, .box 24 1 (.t 0) [], none, 0⟩,
      ⟨some 4, .box 32 18 (.t 1) [], none, 1⟩,
      ⟨some 6, .mv (.c (.bool false)), none, 0⟩] false [])
  (.seq
    (.seq
      (.region 0 [⟨some 20, .callV 11 [] false, none, 0⟩,
        ⟨some 21, .not (.t 20), none, 0⟩] false [])
    (.cond (.t 21)
      (.seq
        (.region 0 [⟨some 6, .mv (.c (.bool false)), none, 0⟩] false [])
      .ret)
      .skip))
  (.seq
    (.region 2 [⟨some 22, .load 1 true (.t 3), none, 0⟩,
      ⟨some 23, .callV 12 [.t 22] false, none, 0⟩,
      ⟨some 7, .alloc 24 [.clip []] [(0, 59, 19)], none, 0⟩,
      ⟨none, .store 1 (.t 7) (.t 23), none, 0⟩] false [])
  (.seq
    (.region 2 [⟨some 25, .load 1 true (.t 7), none, 0⟩,
      ⟨some 26, .load 18 true (.t 4), none, 0⟩,
      ⟨some 27, .build [.bool false, .bool false, .int .i64 0, .int .u8 0, .int .u8 0, .int .u8 0, .int .u8 0, .int .u8 0, .int .u8 0, .int .u8 0, .int .u8 0, .int .u8 0, .int .u8 0, .int .u8 0, .int .u8 0, .int .u8 0, .int .u8 0, .int .u8 0, .int .u8 0, .int .i64 0] [] [], none, 0⟩,
      ⟨some 28, .callV 13 [.t 25, .t 26, .t 27, .c (.int .i64 3)] true, none, 0⟩,
      ⟨some 24, .mv (.t 28), none, 0⟩,
      ⟨some 29, .extr (.t 24) 0, none, 0⟩,
      ⟨some 30, .extr (.t 24) 1, none, 0⟩,
      ⟨some 31, .extr (.t 24) 2, none, 0⟩,
      ⟨some 9, .alloc 34 [.bool false, .bool false, .int .i64 0, .int .u8 0, .int .u8 0, .int .u8 0, .int .u8 0, .int .u8 0, .int .u8 0, .int .u8 0, .int .u8 0, .int .u8 0, .int .u8 0, .int .u8 0, .int .u8 0, .int .u8 0, .int .u8 0, .int .u8 0, .int .u8 0, .int .i64 0] [], none, 1⟩,
      ⟨some 8, .mv (.t 29), none, 0⟩,
      ⟨none, .store 20 (.t 9) (.t 30), none, 0⟩,
      ⟨some 10, .mv (.t 31), none, 0⟩] false [])
  (.seq
    (.seq
      (.region 0 [⟨some 32, .mv (.t 10), none, 0⟩,
        ⟨some 33, .bin .neq (.t 32) (.c (.int .i64 0)), none, 0⟩,
        ⟨some 34, .mv (.t 33), none, 0⟩,
        ⟨some 35, .faddr 1 (.t 9), some (34, false), 0⟩,
        ⟨some 36, .load 1 false (.t 35), some (34, false), 0⟩,
        ⟨some 37, .pick (.t 34) (.c (.bool true)) (.t 36), none, 0⟩] false [])
    (.cond (.t 37)
      (.seq
        (.region 0 [⟨some 6, .mv (.c (.bool true)), none, 0⟩] false [])
      .ret)
      .skip))
  (.seq
    (.region 1 [⟨some 39, .load 1 true (.t 7), none, 0⟩,
      ⟨some 40, .load 18 true (.t 4), none, 0⟩,
      ⟨some 41, .callV 23 [.t 39, .t 40] true, none, 0⟩,
      ⟨some 38, .mv (.t 41), none, 0⟩,
      ⟨some 42, .extr (.t 38) 0, none, 0⟩,
      ⟨some 43, .extr (.t 38) 1, none, 0⟩,
      ⟨some 11, .mv (.t 42), none, 0⟩,
      ⟨some 10, .mv (.t 43), none, 0⟩] false [])
  (.seq
    (.seq
      (.region 0 [⟨some 44, .mv (.t 10), none, 0⟩,
        ⟨some 45, .bin .neq (.t 44) (.c (.int .i64 0)), none, 0⟩] false [])
    (.cond (.t 45)
      (.seq
        (.region 0 [⟨some 6, .mv (.c (.bool false)), none, 0⟩] false [])
      .ret)
      .skip))
  (.seq
    (.seq
      (.region 0 [⟨some 46, .mv (.t 2), none, 0⟩,
        ⟨some 47, .len (.t 46), none, 0⟩,
        ⟨some 48, .mv (.c (.int .i64 0)), none, 0⟩] false [])
    (.block 0
      (.loop [4, 7, 8, 9, 11, 46, 47, 48]
        (.seq
          (.region 0 [⟨some 49, .bin .lss (.t 48) (.t 47), none, 0⟩] false [])
        (.seq
          (.cond (.t 49)
            .skip
            (.exit 0))
        (.seq
          (.block 1
            (.seq
              (.region 1 [⟨some 50, .mv (.t 48), none, 0⟩,
                ⟨some 51, .iaddr 19 none (.t 46) (.t 48), none, 0⟩,
                ⟨some 52, .load 19 true (.t 51), none, 0⟩,
                ⟨some 13, .alloc 59 [.int .i64 0, .int .u8 0, .int .u8 0, .int .u8 0, .int .u8 0, .int .u8 0, .int .u8 0, .int .u8 0, .int .u8 0, .int .u8 0, .int .u8 0, .int .u8 0, .int .u8 0, .int .u8 0, .int .u8 0, .int .u8 0, .int .u8 0, .int .i64 0, .int .i64 0] [], none, 0⟩,
                ⟨some 12, .mv (.t 50), none, 0⟩,
                ⟨none, .store 19 (.t 13) (.t 52), none, 0⟩] false [])
            (.seq
              (.seq
                (.region 0 [⟨some 53, .mv (.t 12), none, 0⟩,
                  ⟨some 54, .bin .eql (.t 53) (.c (.int .i64 8)), none, 0⟩] false [])
              (.cond (.t 54)
                (.exit 0)
                .skip))
            (.seq
              (.seq
                (.region 0 [⟨some 55, .faddr 0 (.t 13), none, 0⟩,
                  ⟨some 56, .load 18 true (.t 55), none, 0⟩,
                  ⟨some 57, .faddr 2 (.t 9), none, 0⟩,
                  ⟨some 58, .load 18 true (.t 57), none, 0⟩,
                  ⟨some 59, .callV 40 [.t 56, .t 58] false, none, 0⟩,
                  ⟨some 60, .bin .gtr (.t 59) (.c (.int .i64 0)), none, 0⟩] false [])
              (.cond (.t 60)
                (.exit 1)
                .skip))
            (.seq
              (.region 2 [⟨some 62, .load 1 true (.t 7), none, 0⟩,
                ⟨some 63, .faddr 0 (.t 13), none, 0⟩,
                ⟨some 64, .load 18 true (.t 63), none, 0⟩,
                ⟨some 65, .faddr 18 (.t 13), none, 0⟩,
                ⟨some 66, .load 1 false (.t 65), none, 0⟩,
                ⟨some 67, .callV 38 [.t 62, .t 64, .t 66] false, none, 0⟩,
                ⟨some 61, .mv (.t 67), none, 0⟩,
                ⟨some 68, .extr (.t 61) 0, none, 0⟩,
                ⟨some 69, .extr (.t 61) 1, none, 0⟩,
                ⟨some 14, .alloc 24 [.clip []] [(0, 59, 19)], none, 0⟩,
                ⟨none, .store 1 (.t 14) (.t 68), none, 0⟩,
                ⟨some 15, .mv (.t 69), none, 0⟩] false [])
            (.seq
              (.seq
                (.region 0 [⟨some 70, .mv (.t 15), none, 0⟩,
                  ⟨some 71, .bin .neq (.t 70) (.c (.int .i64 0)), none, 0⟩] false [])
              (.cond (.t 71)
                (.region 0 [⟨some 73, .load 1 true (.t 7), none, 0⟩,
                  ⟨some 74, .faddr 0 (.t 13), none, 0⟩,
                  ⟨some 75, .load 18 true (.t 74), none, 0⟩,
                  ⟨some 76, .callV 41 [.t 73, .t 75] false, none, 0⟩,
                  ⟨some 72, .mv (.t 76), none, 0⟩,
                  ⟨some 77, .extr (.t 72) 0, none, 0⟩,
                  ⟨some 78, .extr (.t 72) 1, none, 0⟩,
                  ⟨none, .store 1 (.t 14) (.t 77), none, 0⟩,
                  ⟨some 15, .mv (.t 78), none, 0⟩] false [])
                .skip))
            (.seq
              (.region 0 [⟨some 79, .mv (.t 15), none, 0⟩,
                ⟨some 80, .bin .eql (.t 79) (.c (.int .i64 0)), none, 0⟩] false [])
            (.cond (.t 80)
              (.region 0 [⟨some 81, .load 1 true (.t 14), none, 0⟩,
                ⟨none, .store 1 (.t 7) (.t 81), none, 0⟩] false [])
              .skip))))))))
        (.region 0 [⟨some 82, .bin .add (.t 48) (.c (.int .i64 1)), none, 0⟩,
          ⟨some 48, .mv (.t 82), none, 0⟩] false [])))))))
  (.seq
    (.region 0 [⟨some 83, .mv (.t 8), none, 0⟩,
      ⟨some 16, .mv (.t 83), none, 0⟩] false [])
  (.seq
    (.seq
      (.region 0 [⟨some 84, .mv (.c (.int .i64 0)), none, 0⟩] false [])
    (.block 2
      (.loop [4, 7, 9, 11, 16, 84]
        (.seq
          (.region 0 [⟨some 85, .bin .lss (.t 84) (.c (.int .i64 40)), none, 0⟩] false [])
        (.seq
          (.cond (.t 85)
            .skip
            (.exit 2))
        (.seq
          (.block 3
            (.seq
              (.region 2 [⟨some 87, .load 1 true (.t 7), none, 0⟩,
                ⟨some 88, .load 18 true (.t 4), none, 0⟩,
                ⟨some 89, .load 20 true (.t 9), none, 0⟩,
                ⟨some 90, .callV 13 [.t 87, .t 88, .t 89, .c (.int .i64 2)] true, none, 0⟩,
                ⟨some 86, .mv (.t 90), none, 0⟩,
                ⟨some 91, .extr (.t 86) 0, none, 0⟩,
                ⟨some 92, .extr (.t 86) 1, none, 0⟩,
                ⟨some 93, .extr (.t 86) 2, none, 0⟩,
                ⟨some 18, .alloc 34 [.bool false, .bool false, .int .i64 0, .int .u8 0, .int .u8 0, .int .u8 0, .int .u8 0, .int .u8 0, .int .u8 0, .int .u8 0, .int .u8 0, .int .u8 0, .int .u8 0, .int .u8 0, .int .u8 0, .int .u8 0, .int .u8 0, .int .u8 0, .int .u8 0, .int .i64 0] [], none, 1⟩,
                ⟨some 17, .mv (.t 91), none, 0⟩,
                ⟨none, .store 20 (.t 18) (.t 92), none, 0⟩,
                ⟨some 19, .mv (.t 93), none, 0⟩] false [])
            (.seq
              (.seq
                (.region 0 [⟨some 94, .mv (.t 19), none, 0⟩,
                  ⟨some 95, .bin .neq (.t 94) (.c (.int .i64 0)), none, 0⟩] false [])
              (.cond (.t 95)
                (.seq
                  (.region 0 [⟨some 6, .mv (.c (.bool false)), none, 0⟩] false [])
                .ret)
                .skip))
            (.seq
              (.region 1 [⟨some 96, .mv (.t 16), none, 0⟩,
                ⟨some 97, .mv (.t 17), none, 0⟩,
                ⟨some 98, .append 59 19 40 (.t 96) (.t 97), none, 0⟩,
                ⟨some 99, .load 20 true (.t 18), none, 0⟩,
                ⟨some 16, .mv (.t 98), none, 0⟩,
                ⟨none, .store 20 (.t 9) (.t 99), none, 0⟩] true [(.t 18, .t 96, 0)])
            (.seq
              (.region 0 [⟨some 100, .faddr 1 (.t 9), none, 0⟩,
                ⟨some 101, .load 1 false (.t 100), none, 0⟩] false [])
            (.cond (.t 101)
              (.exit 2)
              .skip))))))
        (.region 0 [⟨some 102, .bin .add (.t 84) (.c (.int .i64 1)), none, 0⟩,
          ⟨some 84, .mv (.t 102), none, 0⟩] false [])))))))
  (.seq
    (.region 0 [⟨some 103, .faddr 1 (.t 9), none, 0⟩,
      ⟨some 104, .load 1 false (.t 103), none, 0⟩,
      ⟨some 105, .mv (.t 104), none, 0⟩,
      ⟨some 106, .mv (.t 16), some (105, true), 0⟩,
      ⟨some 107, .mv (.t 11), some (105, true), 0⟩,
      ⟨some 108, .callV 24 [.t 106, .t 107] false, some (105, true), 0⟩,
      ⟨some 109, .pick (.t 105) (.t 108) (.c (.bool false)), none, 0⟩,
      ⟨some 6, .mv (.t 109), none, 0⟩] false [])
  .ret))))))))))),
  false⟩
theorem c10 : cFunc Tryd.prog G f10 Tryd.f10 = some f10 := by kernel_rfl
/-- junctionbox/junctionboxlaw28.wakes -/
def f11 : AFunc :=
⟨0, [.t 0],
  (.seq
    (.region 0 [⟨some 0, .mv (.c (.bool false)), none, 0⟩] false [])
  (.seq
    (.region 1 [⟨some 11, .callV 42 [] false, none, 0⟩,
      ⟨some 12, .callV 43 [.c (.int .u8 10), .c (.int .u8 0), .c (.int .i64 8)] false, none, 0⟩,
      ⟨some 13, .build [.bool false, .bool false, .int .i64 0, .int .u8 0, .int .u8 0, .int .u8 0, .int .u8 0, .int .u8 0, .int .u8 0, .int .u8 0, .int .u8 0, .int .u8 0, .int .u8 0, .int .u8 0, .int .u8 0, .int .u8 0, .int .u8 0, .int .u8 0, .int .u8 0, .int .i64 0] [] [], none, 0⟩,
      ⟨some 14, .callV 13 [.t 11, .t 12, .t 13, .c (.int .i64 2)] false, none, 0⟩,
      ⟨some 10, .mv (.t 14), none, 0⟩,
      ⟨some 15, .extr (.t 10) 0, none, 0⟩,
      ⟨some 16, .extr (.t 10) 1, none, 0⟩,
      ⟨some 17, .extr (.t 10) 2, none, 0⟩,
      ⟨some 2, .alloc 34 [.bool false, .bool false, .int .i64 0, .int .u8 0, .int .u8 0, .int .u8 0, .int .u8 0, .int .u8 0, .int .u8 0, .int .u8 0, .int .u8 0, .int .u8 0, .int .u8 0, .int .u8 0, .int .u8 0, .int .u8 0, .int .u8 0, .int .u8 0, .int .u8 0, .int .i64 0] [], none, 0⟩,
      ⟨some 1, .mv (.t 15), none, 0⟩,
      ⟨none, .store 20 (.t 2) (.t 16), none, 0⟩,
      ⟨some 3, .mv (.t 17), none, 0⟩] false [])
  (.seq
    (.region 1 [⟨some 19, .callV 42 [] false, none, 0⟩,
      ⟨some 20, .callV 43 [.c (.int .u8 10), .c (.int .u8 0), .c (.int .i64 8)] false, none, 0⟩,
      ⟨some 21, .load 20 true (.t 2), none, 0⟩,
      ⟨some 22, .callV 13 [.t 19, .t 20, .t 21, .c (.int .i64 2)] false, none, 0⟩,
      ⟨some 18, .mv (.t 22), none, 0⟩,
      ⟨some 23, .extr (.t 18) 0, none, 0⟩,
      ⟨some 24, .extr (.t 18) 1, none, 0⟩,
      ⟨some 25, .extr (.t 18) 2, none, 0⟩,
      ⟨some 5, .alloc 34 [.bool false, .bool false, .int .i64 0, .int .u8 0, .int .u8 0, .int .u8 0, .int .u8 0, .int .u8 0, .int .u8 0, .int .u8 0, .int .u8 0, .int .u8 0, .int .u8 0, .int .u8 0, .int .u8 0, .int .u8 0, .int .u8 0, .int .u8 0, .int .u8 0, .int .i64 0] [], none, 0⟩,
      ⟨some 4, .mv (.t 23), none, 0⟩,
      ⟨none, .store 20 (.t 5) (.t 24), none, 0⟩,
      ⟨some 6, .mv (.t 25), none, 0⟩] true [(.t 2, .c .undef, 0), (.t 19, .c .undef, 0), (.t 20, .c .undef, 0), (.t 21, .c .undef, 0)])
  (.seq
    (.region 1 [⟨some 27, .callV 42 [] false, none, 0⟩,
      ⟨some 28, .callV 43 [.c (.int .u8 10), .c (.int .u8 0), .c (.int .i64 8)] false, none, 0⟩,
      ⟨some 29, .callV 20 [.t 27, .t 28, .c (.int .i64 16)] false, none, 0⟩,
      ⟨some 26, .mv (.t 29), none, 0⟩,
      ⟨some 30, .extr (.t 26) 0, none, 0⟩,
      ⟨some 31, .extr (.t 26) 1, none, 0⟩,
      ⟨some 32, .extr (.t 26) 2, none, 0⟩,
      ⟨some 7, .alloc 32 [.int .i64 0, .int .u8 0, .int .u8 0, .int .u8 0, .int .u8 0, .int .u8 0, .int .u8 0, .int .u8 0, .int .u8 0, .int .u8 0, .int .u8 0, .int .u8 0, .int .u8 0, .int .u8 0, .int .u8 0, .int .u8 0, .int .u8 0, .int .i64 0] [], none, 0⟩,
      ⟨none, .store 18 (.t 7) (.t 30), none, 0⟩,
      ⟨some 8, .mv (.t 31), none, 0⟩,
      ⟨some 9, .mv (.t 32), none, 0⟩] false [])
  (.seq
    (.region 0 [⟨some 33, .mv (.t 3), none, 0⟩,
      ⟨some 34, .bin .eql (.t 33) (.c (.int .i64 0)), none, 0⟩,
      ⟨some 35, .mv (.t 34), none, 0⟩,
      ⟨some 36, .mv (.t 6), some (35, true), 0⟩,
      ⟨some 37, .bin .eql (.t 36) (.c (.int .i64 0)), some (35, true), 0⟩,
      ⟨some 38, .pick (.t 35) (.t 37) (.c (.bool false)), none, 0⟩,
      ⟨some 39, .mv (.t 38), none, 0⟩,
      ⟨some 40, .mv (.t 9), some (39, true), 0⟩,
      ⟨some 41, .bin .eql (.t 40) (.c (.int .i64 0)), some (39, true), 0⟩,
      ⟨some 42, .pick (.t 39) (.t 41) (.c (.bool false)), none, 0⟩,
      ⟨some 43, .mv (.t 42), none, 0⟩,
      ⟨some 44, .mv (.t 1), some (43, true), 0⟩,
      ⟨some 45, .len (.t 44), some (43, true), 0⟩,
      ⟨some 46, .bin .eql (.t 45) (.c (.int .i64 2)), some (43, true), 0⟩,
      ⟨some 47, .pick (.t 43) (.t 46) (.c (.bool false)), none, 0⟩,
      ⟨some 48, .mv (.t 47), none, 0⟩,
      ⟨some 49, .mv (.t 4), some (48, true), 0⟩,
      ⟨some 50, .len (.t 49), some (48, true), 0⟩,
      ⟨some 51, .bin .eql (.t 50) (.c (.int .i64 1)), some (48, true), 0⟩,
      ⟨some 52, .pick (.t 48) (.t 51) (.c (.bool false)), none, 0⟩,
      ⟨some 53, .mv (.t 52), none, 0⟩,
      ⟨some 54, .faddr 1 (.t 2), some (53, true), 0⟩,
      ⟨some 55, .load 1 false (.t 54), some (53, true), 0⟩,
      ⟨some 56, .not (.t 55), some (53, true), 0⟩,
      ⟨some 57, .pick (.t 53) (.t 56) (.c (.bool false)), none, 0⟩,
      ⟨some 58, .mv (.t 57), none, 0⟩,
      ⟨some 59, .faddr 1 (.t 5), some (58, true), 0⟩,
      ⟨some 60, .load 1 false (.t 59), some (58, true), 0⟩,
      ⟨some 61, .pick (.t 58) (.t 60) (.c (.bool false)), none, 0⟩,
      ⟨some 62, .mv (.t 61), none, 0⟩,
      ⟨some 63, .mv (.t 8), some (62, true), 0⟩,
      ⟨some 64, .pick (.t 62) (.t 63) (.c (.bool false)), none, 0⟩,
      ⟨some 65, .mv (.t 64), none, 0⟩,
      ⟨some 66, .load 18 true (.t 7), some (65, true), 0⟩,
      ⟨some 67, .callV 43 [.c (.int .u8 10), .c (.int .u8 0), .c (.int .i64 16)] false, some (65, true), 0⟩,
      ⟨some 68, .eqagg false [1, 1, 1, 1, 1, 1, 1, 1, 1, 1, 1, 1, 1, 1, 1, 1, 1, 1] (.t 66) (.t 67), some (65, true), 0⟩,
      ⟨some 69, .pick (.t 65) (.t 68) (.c (.bool false)), none, 0⟩,
      ⟨some 0, .mv (.t 69), none, 0⟩] true [])
  .ret))))),
  false⟩
theorem c11 : cFunc Tryd.prog G f11 Tryd.f11 = some f11 := by kernel_rfl
/-- junctionbox/junctionboxlaw28.table -/
def f12 : AFunc :=
⟨1, [.cell 2 1 true],
  (.seq
    (.region 3 [⟨some 1, .box 24 1 (.t 0) [], none, 0⟩,
      ⟨some 2, .alloc 24 [.clip []] [(0, 59, 19)], none, 1⟩] false [])
  (.seq
    (.region 2 [⟨some 3, .buildSl 59 19 [.int .i64 0, .int .u8 0, .int .u8 0, .int .u8 0, .int .u8 0, .int .u8 0, .int .u8 0, .int .u8 0, .int .u8 0, .int .u8 0, .int .u8 0, .int .u8 0, .int .u8 0, .int .u8 0, .int .u8 0, .int .u8 0, .int .u8 0, .int .i64 0, .int .i64 0] 0 [] false, none, 0⟩,
      ⟨some 4, .faddr 0 (.t 1), none, 0⟩,
      ⟨some 5, .load 1 false (.t 4), none, 0⟩,
      ⟨some 6, .faddr 0 (.t 1), none, 0⟩,
      ⟨some 7, .load 1 false (.t 6), none, 0⟩,
      ⟨some 8, .len (.t 7), none, 0⟩,
      ⟨some 9, .min (.t 8) [.c (.int .i64 41)], none, 0⟩,
      ⟨some 10, .slice 19 (.t 5) none (some (.t 9)) none, none, 0⟩,
      ⟨some 11, .append 59 19 40 (.t 3) (.t 10), none, 1⟩,
      ⟨some 12, .build [.clip []] [(0, 1, .t 11)] [], none, 0⟩,
      ⟨none, .store 1 (.t 2) (.t 12), none, 0⟩] false [])
  .ret)),
  false⟩
theorem c12 : cFunc Tryd.prog G f12 Tryd.f12 = some f12 := by kernel_rfl
/-- junctionbox/query.Page -/
def f13 : AFunc :=
⟨4, [.t 8, .cell 9 20 true, .t 10],
  (.seq
    (.region 6 [⟨some 4, .box 24 1 (.t 0) [], none, 0⟩,
      ⟨some 5, .box 32 18 (.t 1) [], none, 1⟩,
      ⟨some 6, .box 34 20 (.t 2) [], none, 2⟩,
      ⟨some 7, .box 3 1 (.t 3) [], none, 3⟩,
      ⟨some 8, .newl 59 19, none, 4⟩,
      ⟨some 9, .alloc 34 [.bool false, .bool false, .int .i64 0, .int .u8 0, .int .u8 0, .int .u8 0, .int .u8 0, .int .u8 0, .int .u8 0, .int .u8 0, .int .u8 0, .int .u8 0, .int .u8 0, .int .u8 0, .int .u8 0, .int .u8 0, .int .u8 0, .int .u8 0, .int .u8 0, .int .i64 0] [], none, 5⟩,
      ⟨some 10, .mv (.c (.int .i64 0)), none, 0⟩] false [])
  (.seq
    (.seq
      (.region 0 [⟨some 15, .load 1 true (.t 4), none, 0⟩,
        ⟨some 16, .load 18 true (.t 5), none, 0⟩,
        ⟨some 17, .callV 44 [.t 15, .t 16] false, none, 0⟩,
        ⟨some 11, .mv (.t 17), none, 0⟩] false [])
    (.seq
      (.region 0 [⟨some 18, .mv (.t 11), none, 0⟩,
        ⟨some 19, .bin .neq (.t 18) (.c (.int .i64 0)), none, 0⟩] false [])
    (.cond (.t 19)
      (.seq
        (.region 1 [⟨some 20, .build [.bool false, .bool false, .int .i64 0, .int .u8 0, .int .u8 0, .int .u8 0, .int .u8 0, .int .u8 0, .int .u8 0, .int .u8 0, .int .u8 0, .int .u8 0, .int .u8 0, .int .u8 0, .int .u8 0, .int .u8 0, .int .u8 0, .int .u8 0, .int .u8 0, .int .i64 0] [] [], none, 0⟩,
          ⟨some 21, .mv (.t 11), none, 0⟩,
          ⟨some 8, .newl 59 19, none, 0⟩,
          ⟨none, .store 20 (.t 9) (.t 20), none, 0⟩,
          ⟨some 10, .mv (.t 21), none, 0⟩] false [])
      .ret)
      .skip)))
  (.seq
    (.seq
      (.region 0 [⟨some 22, .load 20 true (.t 6), none, 0⟩,
        ⟨some 23, .callV 45 [.t 22] false, none, 0⟩,
        ⟨some 24, .not (.t 23), none, 0⟩,
        ⟨some 25, .mv (.t 24), none, 0⟩,
        ⟨some 26, .load 1 false (.t 7), some (25, false), 0⟩,
        ⟨some 27, .bin .lss (.t 26) (.c (.int .i64 1)), some (25, false), 0⟩,
        ⟨some 28, .pick (.t 25) (.c (.bool true)) (.t 27), none, 0⟩,
        ⟨some 29, .mv (.t 28), none, 0⟩,
        ⟨some 30, .load 1 false (.t 7), some (29, false), 0⟩,
        ⟨some 31, .bin .gtr (.t 30) (.c (.int .i64 16)), some (29, false), 0⟩,
        ⟨some 32, .pick (.t 29) (.c (.bool true)) (.t 31), none, 0⟩] false [])
    (.cond (.t 32)
      (.seq
        (.region 1 [⟨some 33, .build [.bool false, .bool false, .int .i64 0, .int .u8 0, .int .u8 0, .int .u8 0, .int .u8 0, .int .u8 0, .int .u8 0, .int .u8 0, .int .u8 0, .int .u8 0, .int .u8 0, .int .u8 0, .int .u8 0, .int .u8 0, .int .u8 0, .int .u8 0, .int .u8 0, .int .i64 0] [] [], none, 0⟩,
          ⟨some 8, .newl 59 19, none, 0⟩,
          ⟨none, .store 20 (.t 9) (.t 33), none, 0⟩,
          ⟨some 10, .mv (.c (.int .i64 2)), none, 0⟩] false [])
      .ret)
      .skip))
  (.seq
    (.region 2 [⟨some 12, .alloc 22 [.clip []] [(0, 59, 19)], none, 0⟩] false [])
  (.seq
    (.region 1 [⟨some 34, .load 20 true (.t 6), none, 0⟩,
      ⟨some 13, .alloc 34 [.bool false, .bool false, .int .i64 0, .int .u8 0, .int .u8 0, .int .u8 0, .int .u8 0, .int .u8 0, .int .u8 0, .int .u8 0, .int .u8 0, .int .u8 0, .int .u8 0, .int .u8 0, .int .u8 0, .int .u8 0, .int .u8 0, .int .u8 0, .int .u8 0, .int .i64 0] [], none, 0⟩,
      ⟨none, .store 20 (.t 13) (.t 34), none, 0⟩] false [])
  (.seq
    (.region 0 [⟨some 35, .faddr 1 (.t 13), none, 0⟩,
      ⟨none, .store 1 (.t 35) (.c (.bool true)), none, 0⟩] false [])
  (.seq
    (.seq
      (.region 0 [⟨some 36, .load 1 true (.t 4), none, 0⟩,
        ⟨some 37, .clo 47 [.t 5, .t 6], none, 0⟩,
        ⟨some 38, .callR (.c (.clo 46 [])) [.t 36, .t 37] true, none, 0⟩] false [])
    (.block 0
      (.range (.t 38) [39]
        (.region 1 [⟨some 14, .alloc 59 [.int .i64 0, .int .u8 0, .int .u8 0, .int .u8 0, .int .u8 0, .int .u8 0, .int .u8 0, .int .u8 0, .int .u8 0, .int .u8 0, .int .u8 0, .int .u8 0, .int .u8 0, .int .u8 0, .int .u8 0, .int .u8 0, .int .u8 0, .int .i64 0, .int .i64 0] [], none, 0⟩,
          ⟨none, .store 19 (.t 14) (.t 39), none, 0⟩] false [])
        (.block 1
          (.seq
            (.seq
              (.region 0 [⟨some 40, .load 1 false (.t 12), none, 0⟩,
                ⟨some 41, .len (.t 40), none, 0⟩,
                ⟨some 42, .load 1 false (.t 7), none, 0⟩,
                ⟨some 43, .bin .eql (.t 41) (.t 42), none, 0⟩] false [])
            (.cond (.t 43)
              (.seq
                (.region 0 [⟨some 44, .faddr 1 (.t 13), none, 0⟩,
                  ⟨none, .store 1 (.t 44) (.c (.bool false)), none, 0⟩] false [])
              (.exit 0))
              .skip))
          (.seq
            (.region 2 [⟨some 45, .load 1 false (.t 12), none, 0⟩,
              ⟨some 46, .load 19 true (.t 14), none, 0⟩,
              ⟨some 47, .buildSl 59 19 [.int .i64 0, .int .u8 0, .int .u8 0, .int .u8 0, .int .u8 0, .int .u8 0, .int .u8 0, .int .u8 0, .int .u8 0, .int .u8 0, .int .u8 0, .int .u8 0, .int .u8 0, .int .u8 0, .int .u8 0, .int .u8 0, .int .u8 0, .int .i64 0, .int .i64 0] 1 [(0, .t 46)] false, none, 0⟩,
              ⟨some 48, .append 59 19 40 (.t 45) (.t 47), none, 1⟩,
              ⟨none, .store 1 (.t 12) (.t 48), none, 0⟩] false [])
          (.region 0 [⟨some 49, .faddr 0 (.t 14), none, 0⟩,
            ⟨some 50, .load 18 true (.t 49), none, 0⟩,
            ⟨some 51, .faddr 0 (.t 13), none, 0⟩,
            ⟨none, .store 1 (.t 51) (.c (.bool true)), none, 0⟩,
            ⟨some 52, .faddr 2 (.t 13), none, 0⟩,
            ⟨none, .store 18 (.t 52) (.t 50), none, 0⟩] true [(.t 49, .t 51, 0)])))))))
  (.seq
    (.region 0 [⟨some 53, .load 1 false (.t 12), none, 0⟩,
      ⟨some 54, .load 20 true (.t 13), none, 0⟩,
      ⟨some 8, .mv (.t 53), none, 0⟩,
      ⟨none, .store 20 (.t 9) (.t 54), none, 0⟩,
      ⟨some 10, .mv (.c (.int .i64 0)), none, 0⟩] true [])
  .ret)))))))),
  true⟩
theorem c13 : cFunc Tryd.prog G f13 Tryd.f13 = some f13 := by kernel_rfl
/-- junctionbox/junctionboxlaw28.why -/
def f14 : AFunc :=
⟨2, [.t 4],
  (.seq
    (.region 2 [⟨some 2, .box 24 1 (.t 0) [], none, 0⟩,
      ⟨some 3, .box 32 18 (.t 1) [], none, 1⟩,
      ⟨some 4, .mv (.c (.int .i64 0)), none, 0⟩] false [])
  (.seq
    (.block 0
      (.seq
        (.region 0 [⟨some 6, .load 1 true (.t 2), none, 0⟩,
          ⟨some 7, .callV 32 [.t 6] false, none, 0⟩,
          ⟨some 8, .not (.t 7), none, 0⟩,
          ⟨some 5, .mv (.t 8), none, 0⟩] false [])
      (.cond (.t 5)
        (.seq
          (.region 0 [⟨some 4, .mv (.c (.int .i64 190)), none, 0⟩] false [])
        .ret)
        (.seq
          (.region 0 [⟨some 10, .load 18 true (.t 3), none, 0⟩,
            ⟨some 11, .callV 48 [.t 10] false, none, 0⟩,
            ⟨some 12, .not (.t 11), none, 0⟩,
            ⟨some 9, .mv (.t 12), none, 0⟩] false [])
        (.cond (.t 9)
          (.seq
            (.region 0 [⟨some 4, .mv (.c (.int .i64 151)), none, 0⟩] false [])
          .ret)
          .skip)))))
  (.seq
    (.region 0 [⟨some 4, .mv (.c (.int .i64 0)), none, 0⟩] false [])
  .ret))),
  false⟩
theorem c14 : cFunc Tryd.prog G f14 Tryd.f14 = some f14 := by kernel_rfl
/-- junctionbox/junctionboxref28.Right -/
def f15 : AFunc :=
⟨1, [.t 2],
  (.seq
    (.region 1 [⟨some 1, .box 34 20 (.t 0) [], none, 0⟩,
      ⟨some 2, .mv (.c (.bool false)), none, 0⟩] false [])
  (.seq
    (.seq
      (.region 0 [⟨some 3, .faddr 1 (.t 1), none, 0⟩,
        ⟨some 4, .load 1 false (.t 3), none, 0⟩] false [])
    (.cond (.t 4)
      (.seq
        (.region 0 [⟨some 2, .mv (.c (.bool false)), none, 0⟩] false [])
      .ret)
      .skip))
  (.seq
    (.seq
      (.region 0 [⟨some 5, .faddr 0 (.t 1), none, 0⟩,
        ⟨some 6, .load 1 false (.t 5), none, 0⟩,
        ⟨some 7, .not (.t 6), none, 0⟩] false [])
    (.cond (.t 7)
      (.seq
        (.region 0 [⟨some 8, .faddr 2 (.t 1), none, 0⟩,
          ⟨some 9, .load 18 true (.t 8), none, 0⟩,
          ⟨some 10, .build [.int .i64 0, .int .u8 0, .int .u8 0, .int .u8 0, .int .u8 0, .int .u8 0, .int .u8 0, .int .u8 0, .int .u8 0, .int .u8 0, .int .u8 0, .int .u8 0, .int .u8 0, .int .u8 0, .int .u8 0, .int .u8 0, .int .u8 0, .int .i64 0] [] [], none, 0⟩,
          ⟨some 11, .eqagg false [1, 1, 1, 1, 1, 1, 1, 1, 1, 1, 1, 1, 1, 1, 1, 1, 1, 1] (.t 9) (.t 10), none, 0⟩,
          ⟨some 2, .mv (.t 11), none, 0⟩] false [])
      .ret)
      .skip))
  (.seq
    (.region 0 [⟨some 12, .faddr 2 (.t 1), none, 0⟩,
      ⟨some 13, .load 18 true (.t 12), none, 0⟩,
      ⟨some 14, .callV 48 [.t 13] false, none, 0⟩,
      ⟨some 2, .mv (.t 14), none, 0⟩] false [])
  .ret)))),
  false⟩
theorem c15 : cFunc Tryd.prog G f15 Tryd.f15 = some f15 := by kernel_rfl
/-- junctionbox/junctionboxref28.Page -/
def f16 : AFunc :=
⟨4, [.t 8, .cell 9 20 true],
  (.seq
    (.region 5 [⟨some 4, .box 24 1 (.t 0) [], none, 0⟩,
      ⟨some 5, .box 32 18 (.t 1) [], none, 1⟩,
      ⟨some 6, .box 34 20 (.t 2) [], none, 2⟩,
      ⟨some 8, .newl 59 19, none, 3⟩,
      ⟨some 9, .alloc 34 [.bool false, .bool false, .int .i64 0, .int .u8 0, .int .u8 0, .int .u8 0, .int .u8 0, .int .u8 0, .int .u8 0, .int .u8 0, .int .u8 0, .int .u8 0, .int .u8 0, .int .u8 0, .int .u8 0, .int .u8 0, .int .u8 0, .int .u8 0, .int .u8 0, .int .i64 0] [], none, 4⟩] false [])
  (.seq
    (.region 1 [⟨some 10, .newl 59 19, none, 0⟩] false [])
  (.seq
    (.seq
      (.region 0 [⟨some 14, .load 1 true (.t 4), none, 0⟩,
        ⟨some 15, .load 18 true (.t 5), none, 0⟩,
        ⟨some 16, .callV 29 [.t 14, .t 15] false, none, 0⟩,
        ⟨some 17, .len (.t 16), none, 0⟩,
        ⟨some 18, .mv (.c (.int .i64 0)), none, 0⟩] false [])
    (.block 0
      (.loop [3, 6, 9, 10, 16, 17, 18]
        (.seq
          (.region 0 [⟨some 19, .bin .lss (.t 18) (.t 17), none, 0⟩] false [])
        (.seq
          (.cond (.t 19)
            .skip
            (.exit 0))
        (.seq
          (.block 1
            (.seq
              (.region 1 [⟨some 20, .iaddr 19 none (.t 16) (.t 18), none, 0⟩,
                ⟨some 21, .load 19 true (.t 20), none, 0⟩,
                ⟨some 12, .alloc 59 [.int .i64 0, .int .u8 0, .int .u8 0, .int .u8 0, .int .u8 0, .int .u8 0, .int .u8 0, .int .u8 0, .int .u8 0, .int .u8 0, .int .u8 0, .int .u8 0, .int .u8 0, .int .u8 0, .int .u8 0, .int .u8 0, .int .u8 0, .int .i64 0, .int .i64 0] [], none, 0⟩,
                ⟨none, .store 19 (.t 12) (.t 21), none, 0⟩] false [])
            (.seq
              (.region 0 [⟨some 22, .faddr 0 (.t 6), none, 0⟩,
                ⟨some 23, .load 1 false (.t 22), none, 0⟩,
                ⟨some 24, .not (.t 23), none, 0⟩,
                ⟨some 25, .mv (.t 24), none, 0⟩,
                ⟨some 26, .faddr 2 (.t 6), some (25, false), 0⟩,
                ⟨some 27, .load 18 true (.t 26), some (25, false), 0⟩,
                ⟨some 28, .faddr 0 (.t 12), some (25, false), 0⟩,
                ⟨some 29, .load 18 true (.t 28), some (25, false), 0⟩,
                ⟨some 30, .callV 49 [.t 27, .t 29] false, some (25, false), 0⟩,
                ⟨some 31, .bin .lss (.t 30) (.c (.int .i64 0)), some (25, false), 0⟩,
                ⟨some 32, .pick (.t 25) (.c (.bool true)) (.t 31), none, 0⟩] false [])
            (.cond (.t 32)
              (.region 2 [⟨some 33, .mv (.t 10), none, 0⟩,
                ⟨some 34, .load 19 true (.t 12), none, 0⟩,
                ⟨some 35, .buildSl 59 19 [.int .i64 0, .int .u8 0, .int .u8 0, .int .u8 0, .int .u8 0, .int .u8 0, .int .u8 0, .int .u8 0, .int .u8 0, .int .u8 0, .int .u8 0, .int .u8 0, .int .u8 0, .int .u8 0, .int .u8 0, .int .u8 0, .int .u8 0, .int .i64 0, .int .i64 0] 1 [(0, .t 34)] false, none, 0⟩,
                ⟨some 36, .append 59 19 40 (.t 33) (.t 35), none, 1⟩,
                ⟨some 10, .mv (.t 36), none, 0⟩] false [])
              .skip))))
        (.region 0 [⟨some 37, .bin .add (.t 18) (.c (.int .i64 1)), none, 0⟩,
          ⟨some 18, .mv (.t 37), none, 0⟩] false [])))))))
  (.seq
    (.region 0 [⟨some 38, .mv (.t 10), none, 0⟩,
      ⟨some 39, .len (.t 38), none, 0⟩,
      ⟨some 40, .mv (.t 3), none, 0⟩,
      ⟨some 41, .min (.t 39) [.t 40], none, 0⟩,
      ⟨some 13, .mv (.t 41), none, 0⟩] false [])
  (.seq
    (.seq
      (.region 0 [⟨some 42, .mv (.t 13), none, 0⟩,
        ⟨some 43, .bin .gtr (.t 42) (.c (.int .i64 0)), none, 0⟩] false [])
    (.cond (.t 43)
      (.region 0 [⟨some 44, .mv (.t 10), none, 0⟩,
        ⟨some 45, .mv (.t 13), none, 0⟩,
        ⟨some 46, .bin .sub (.t 45) (.c (.int .i64 1)), none, 0⟩,
        ⟨some 47, .iaddr 19 none (.t 44) (.t 46), none, 0⟩,
        ⟨some 48, .faddr 0 (.t 47), none, 0⟩,
        ⟨some 49, .load 18 true (.t 48), none, 0⟩,
        ⟨some 50, .faddr 0 (.t 6), none, 0⟩,
        ⟨none, .store 1 (.t 50) (.c (.bool true)), none, 0⟩,
        ⟨some 51, .faddr 2 (.t 6), none, 0⟩,
        ⟨none, .store 18 (.t 51) (.t 49), none, 0⟩] true [(.t 48, .t 50, 0)])
      .skip))
  (.seq
    (.region 0 [⟨some 52, .mv (.t 13), none, 0⟩,
      ⟨some 53, .mv (.t 10), none, 0⟩,
      ⟨some 54, .len (.t 53), none, 0⟩,
      ⟨some 55, .bin .eql (.t 52) (.t 54), none, 0⟩,
      ⟨some 56, .faddr 1 (.t 6), none, 0⟩,
      ⟨none, .store 1 (.t 56) (.t 55), none, 0⟩] false [])
  (.seq
    (.region 0 [⟨some 57, .mv (.t 10), none, 0⟩,
      ⟨some 58, .mv (.t 13), none, 0⟩,
      ⟨some 59, .mv (.t 13), none, 0⟩,
      ⟨some 60, .sliceL 0 19 (.t 57) none (some (.t 58)) (some (.t 59)), none, 0⟩,
      ⟨some 61, .load 20 true (.t 6), none, 0⟩,
      ⟨some 8, .mv (.t 60), none, 0⟩,
      ⟨none, .store 20 (.t 9) (.t 61), none, 0⟩] true [])
  .ret))))))),
  false⟩
theorem c16 : cFunc Tryd.prog G f16 Tryd.f16 = some f16 := by kernel_rfl
/-- junctionbox/junctionboxref28.Same -/
def f17 : AFunc :=
⟨2, [.t 4],
  (.seq
    (.region 0 [⟨some 4, .mv (.c (.bool false)), none, 0⟩] false [])
  (.seq
    (.seq
      (.region 0 [⟨some 6, .mv (.t 0), none, 0⟩,
        ⟨some 7, .len (.t 6), none, 0⟩,
        ⟨some 8, .mv (.t 1), none, 0⟩,
        ⟨some 9, .len (.t 8), none, 0⟩,
        ⟨some 10, .bin .neq (.t 7) (.t 9), none, 0⟩] false [])
    (.cond (.t 10)
      (.seq
        (.region 0 [⟨some 4, .mv (.c (.bool false)), none, 0⟩] false [])
      .ret)
      .skip))
  (.seq
    (.seq
      (.region 0 [⟨some 11, .mv (.t 0), none, 0⟩,
        ⟨some 12, .len (.t 11), none, 0⟩,
        ⟨some 13, .mv (.c (.int .i64 0)), none, 0⟩] false [])
    (.block 0
      (.loop [0, 1, 12, 13]
        (.seq
          (.region 0 [⟨some 14, .bin .lss (.t 13) (.t 12), none, 0⟩] false [])
        (.seq
          (.cond (.t 14)
            .skip
            (.exit 0))
        (.seq
          (.block 1
            (.seq
              (.region 0 [⟨some 15, .mv (.t 13), none, 0⟩,
                ⟨some 5, .mv (.t 15), none, 0⟩] false [])
            (.seq
              (.region 0 [⟨some 16, .mv (.t 0), none, 0⟩,
                ⟨some 17, .mv (.t 5), none, 0⟩,
                ⟨some 18, .iaddr 19 none (.t 16) (.t 17), none, 0⟩,
                ⟨some 19, .load 19 true (.t 18), none, 0⟩,
                ⟨some 20, .mv (.t 1), none, 0⟩,
                ⟨some 21, .mv (.t 5), none, 0⟩,
                ⟨some 22, .iaddr 19 none (.t 20) (.t 21), none, 0⟩,
                ⟨some 23, .load 19 true (.t 22), none, 0⟩,
                ⟨some 24, .eqagg true [1, 1, 1, 1, 1, 1, 1, 1, 1, 1, 1, 1, 1, 1, 1, 1, 1, 1, 1] (.t 19) (.t 23), none, 0⟩] true [])
            (.cond (.t 24)
              (.seq
                (.region 0 [⟨some 4, .mv (.c (.bool false)), none, 0⟩] false [])
              .ret)
              .skip))))
        (.region 0 [⟨some 25, .bin .add (.t 13) (.c (.int .i64 1)), none, 0⟩,
          ⟨some 13, .mv (.t 25), none, 0⟩] false [])))))))
  (.seq
    (.region 0 [⟨some 4, .mv (.c (.bool true)), none, 0⟩] false [])
  .ret)))),
  false⟩
theorem c17 : cFunc Tryd.prog G f17 Tryd.f17 = some f17 := by kernel_rfl
/-- junctionbox/junctionboxlaw28.spoil -/
def f18 : AFunc :=
⟨1, [],
  (.seq
    (.region 0 [⟨some 5, .mv (.t 0), none, 0⟩,
      ⟨some 6, .len (.t 5), none, 0⟩,
      ⟨some 7, .mv (.c (.int .i64 0)), none, 0⟩] false [])
  (.block 0
    (.loop [5, 6, 7]
      (.seq
        (.region 0 [⟨some 8, .bin .lss (.t 7) (.t 6), none, 0⟩] false [])
      (.seq
        (.cond (.t 8)
          .skip
          (.exit 0))
      (.seq
        (.block 1
          (.seq
            (.region 0 [⟨some 9, .iaddr 1 none (.t 5) (.t 7), none, 0⟩,
              ⟨some 10, .load 1 false (.t 9), none, 0⟩,
              ⟨some 3, .mv (.t 10), none, 0⟩] false [])
          (.seq
            (.region 0 [⟨some 11, .mv (.t 3), none, 0⟩,
              ⟨some 12, .len (.t 11), none, 0⟩,
              ⟨some 13, .mv (.c (.int .i64 0)), none, 0⟩] false [])
          (.block 2
            (.loop [3, 5, 6, 7, 12, 13]
              (.seq
                (.region 0 [⟨some 14, .bin .lss (.t 13) (.t 12), none, 0⟩] false [])
              (.seq
                (.cond (.t 14)
                  .skip
                  (.exit 2))
              (.seq
                (.block 3
                  (.seq
                    (.region 0 [⟨some 15, .mv (.t 13), none, 0⟩,
                      ⟨some 4, .mv (.t 15), none, 0⟩] false [])
                  (.region 0 [⟨some 16, .mv (.t 3), none, 0⟩,
                    ⟨some 17, .mv (.t 4), none, 0⟩,
                    ⟨some 18, .iaddr 19 none (.t 16) (.t 17), none, 0⟩,
                    ⟨some 19, .faddr 18 (.t 18), none, 0⟩,
                    ⟨none, .store 1 (.t 19) (.c (.int .i64 0)), none, 0⟩] false [])))
              (.region 0 [⟨some 20, .bin .add (.t 13) (.c (.int .i64 1)), none, 0⟩,
                ⟨some 13, .mv (.t 20), none, 0⟩] false [])))))))))
      (.region 0 [⟨some 21, .bin .add (.t 7) (.c (.int .i64 1)), none, 0⟩,
        ⟨some 7, .mv (.t 21), none, 0⟩] false []))))))),
  false⟩
theorem c18 : cFunc Tryd.prog G f18 Tryd.f18 = some f18 := by kernel_rfl
/-- junctionbox/junctionboxref09.Same -/
def f19 : AFunc :=
⟨2, [.t 4],
  (.seq
    (.region 2 [⟨some 2, .box 24 1 (.t 0) [], none, 0⟩,
      ⟨some 3, .box 24 1 (.t 1) [], none, 1⟩,
      ⟨some 4, .mv (.c (.bool false)), none, 0⟩] false [])
  (.seq
    (.seq
      (.region 0 [⟨some 6, .faddr 0 (.t 2), none, 0⟩,
        ⟨some 7, .load 1 false (.t 6), none, 0⟩,
        ⟨some 8, .len (.t 7), none, 0⟩,
        ⟨some 9, .faddr 0 (.t 3), none, 0⟩,
        ⟨some 10, .load 1 false (.t 9), none, 0⟩,
        ⟨some 11, .len (.t 10), none, 0⟩,
        ⟨some 12, .bin .neq (.t 8) (.t 11), none, 0⟩] false [])
    (.cond (.t 12)
      (.seq
        (.region 0 [⟨some 4, .mv (.c (.bool false)), none, 0⟩] false [])
      .ret)
      .skip))
  (.seq
    (.seq
      (.region 0 [⟨some 5, .mv (.c (.int .i64 0)), none, 0⟩] false [])
    (.block 0
      (.loop [2, 3, 5]
        (.seq
          (.seq
            (.region 0 [⟨some 13, .mv (.t 5), none, 0⟩,
              ⟨some 14, .faddr 0 (.t 2), none, 0⟩,
              ⟨some 15, .load 1 false (.t 14), none, 0⟩,
              ⟨some 16, .len (.t 15), none, 0⟩,
              ⟨some 17, .bin .lss (.t 13) (.t 16), none, 0⟩] false [])
          (.cond (.t 17)
            .skip
            (.exit 0)))
        (.seq
          (.block 1
            (.seq
              (.region 0 [⟨some 20, .faddr 0 (.t 2), none, 0⟩,
                ⟨some 21, .load 1 false (.t 20), none, 0⟩,
                ⟨some 22, .mv (.t 5), none, 0⟩,
                ⟨some 23, .iaddr 19 none (.t 21) (.t 22), none, 0⟩,
                ⟨some 24, .load 19 true (.t 23), none, 0⟩,
                ⟨some 25, .faddr 0 (.t 3), none, 0⟩,
                ⟨some 26, .load 1 false (.t 25), none, 0⟩,
                ⟨some 27, .mv (.t 5), none, 0⟩,
                ⟨some 28, .iaddr 19 none (.t 26) (.t 27), none, 0⟩,
                ⟨some 29, .load 19 true (.t 28), none, 0⟩,
                ⟨some 30, .eqagg true [1, 1, 1, 1, 1, 1, 1, 1, 1, 1, 1, 1, 1, 1, 1, 1, 1, 1, 1] (.t 24) (.t 29), none, 0⟩] true [])
            (.cond (.t 30)
              (.seq
                (.region 0 [⟨some 4, .mv (.c (.bool false)), none, 0⟩] false [])
              .ret)
              .skip)))
        (.region 0 [⟨some 18, .mv (.t 5), none, 0⟩,
          ⟨some 19, .bin .add (.t 18) (.c (.int .i64 1)), none, 0⟩,
          ⟨some 5, .mv (.t 19), none, 0⟩] false []))))))
  (.seq
    (.region 0 [⟨some 4, .mv (.c (.bool true)), none, 0⟩] false [])
  .ret)))),
  false⟩
theorem c19 : cFunc Tryd.prog G f19 Tryd.f19 = some f19 := by kernel_rfl
/-- junctionbox/query.Free -/
def f20 : AFunc :=
⟨3, [.cell 6 18 true, .cell 7 1 false, .cell 8 1 false],
  (.seq
    (.region 6 [⟨some 3, .box 24 1 (.t 0) [], none, 0⟩,
      ⟨some 4, .box 32 18 (.t 1) [], none, 1⟩,
      ⟨some 5, .box 3 1 (.t 2) [], none, 2⟩,
      ⟨some 6, .alloc 32 [.int .i64 0, .int .u8 0, .int .u8 0, .int .u8 0, .int .u8 0, .int .u8 0, .int .u8 0, .int .u8 0, .int .u8 0, .int .u8 0, .int .u8 0, .int .u8 0, .int .u8 0, .int .u8 0, .int .u8 0, .int .u8 0, .int .u8 0, .int .i64 0] [], none, 3⟩,
      ⟨some 7, .alloc 4 [.bool false] [], none, 4⟩,
      ⟨some 8, .alloc 37 [.int .i64 0] [], none, 5⟩] false [])
  (.seq
    (.seq
      (.region 0 [⟨some 14, .load 1 true (.t 3), none, 0⟩,
        ⟨some 15, .load 18 true (.t 4), none, 0⟩,
        ⟨some 16, .callV 44 [.t 14, .t 15] false, none, 0⟩,
        ⟨some 9, .mv (.t 16), none, 0⟩] false [])
    (.seq
      (.region 0 [⟨some 17, .mv (.t 9), none, 0⟩,
        ⟨some 18, .bin .neq (.t 17) (.c (.int .i64 0)), none, 0⟩] false [])
    (.cond (.t 18)
      (.seq
        (.region 0 [⟨some 19, .build [.int .i64 0, .int .u8 0, .int .u8 0, .int .u8 0, .int .u8 0, .int .u8 0, .int .u8 0, .int .u8 0, .int .u8 0, .int .u8 0, .int .u8 0, .int .u8 0, .int .u8 0, .int .u8 0, .int .u8 0, .int .u8 0, .int .u8 0, .int .i64 0] [] [], none, 0⟩,
          ⟨some 20, .mv (.t 9), none, 0⟩,
          ⟨none, .store 18 (.t 6) (.t 19), none, 0⟩,
          ⟨none, .store 1 (.t 7) (.c (.bool false)), none, 0⟩,
          ⟨none, .store 1 (.t 8) (.t 20), none, 0⟩] false [])
      .ret)
      .skip)))
  (.seq
    (.seq
      (.region 0 [⟨some 21, .load 1 false (.t 5), none, 0⟩,
        ⟨some 22, .faddr 17 (.t 4), none, 0⟩,
        ⟨some 23, .load 1 false (.t 22), none, 0⟩,
        ⟨some 24, .bin .lss (.t 21) (.t 23), none, 0⟩,
        ⟨some 25, .mv (.t 24), none, 0⟩,
        ⟨some 26, .load 1 false (.t 5), some (25, false), 0⟩,
        ⟨some 27, .faddr 0 (.t 4), some (25, false), 0⟩,
        ⟨some 28, .faddr 0 (.t 27), some (25, false), 0⟩,
        ⟨some 29, .load 1 false (.t 28), some (25, false), 0⟩,
        ⟨some 30, .callV 50 [.t 29] false, some (25, false), 0⟩,
        ⟨some 31, .bin .gtr (.t 26) (.t 30), some (25, false), 0⟩,
        ⟨some 32, .pick (.t 25) (.c (.bool true)) (.t 31), none, 0⟩] true [])
    (.cond (.t 32)
      (.seq
        (.region 0 [⟨some 33, .build [.int .i64 0, .int .u8 0, .int .u8 0, .int .u8 0, .int .u8 0, .int .u8 0, .int .u8 0, .int .u8 0, .int .u8 0, .int .u8 0, .int .u8 0, .int .u8 0, .int .u8 0, .int .u8 0, .int .u8 0, .int .u8 0, .int .u8 0, .int .i64 0] [] [], none, 0⟩,
          ⟨none, .store 18 (.t 6) (.t 33), none, 0⟩,
          ⟨none, .store 1 (.t 7) (.c (.bool false)), none, 0⟩,
          ⟨none, .store 1 (.t 8) (.c (.int .i64 2)), none, 0⟩] false [])
      .ret)
      .skip))
  (.seq
    (.region 2 [⟨some 10, .alloc 60 [.clip []] [(0, 32, 18)], none, 0⟩] false [])
  (.seq
    (.seq
      (.region 0 [⟨some 34, .load 1 true (.t 3), none, 0⟩,
        ⟨some 35, .clo 51 [.t 4], none, 0⟩,
        ⟨some 36, .callR (.c (.clo 46 [])) [.t 34, .t 35] true, none, 0⟩] false [])
    (.block 0
      (.range (.t 36) [37]
        (.region 1 [⟨some 11, .alloc 59 [.int .i64 0, .int .u8 0, .int .u8 0, .int .u8 0, .int .u8 0, .int .u8 0, .int .u8 0, .int .u8 0, .int .u8 0, .int .u8 0, .int .u8 0, .int .u8 0, .int .u8 0, .int .u8 0, .int .u8 0, .int .u8 0, .int .u8 0, .int .i64 0, .int .i64 0] [], none, 0⟩,
          ⟨none, .store 19 (.t 11) (.t 37), none, 0⟩] false [])
        (.block 1
          (.seq
            (.region 0 [⟨some 38, .faddr 0 (.t 11), none, 0⟩,
              ⟨some 39, .load 18 true (.t 38), none, 0⟩,
              ⟨some 40, .load 18 true (.t 4), none, 0⟩,
              ⟨some 41, .eqagg true [1, 1, 1, 1, 1, 1, 1, 1, 1, 1, 1, 1, 1, 1, 1, 1, 1, 1] (.t 39) (.t 40), none, 0⟩] false [])
          (.cond (.t 41)
            (.region 2 [⟨some 42, .load 1 false (.t 10), none, 0⟩,
              ⟨some 43, .faddr 0 (.t 11), none, 0⟩,
              ⟨some 44, .load 18 true (.t 43), none, 0⟩,
              ⟨some 45, .buildSl 32 18 [.int .i64 0, .int .u8 0, .int .u8 0, .int .u8 0, .int .u8 0, .int .u8 0, .int .u8 0, .int .u8 0, .int .u8 0, .int .u8 0, .int .u8 0, .int .u8 0, .int .u8 0, .int .u8 0, .int .u8 0, .int .u8 0, .int .u8 0, .int .i64 0] 1 [(0, .t 44)] false, none, 0⟩,
              ⟨some 46, .append 32 18 32 (.t 42) (.t 45), none, 1⟩,
              ⟨none, .store 1 (.t 10) (.t 46), none, 0⟩] false [])
            (.seq
              (.region 0 [⟨some 47, .load 1 false (.t 5), none, 0⟩,
                ⟨some 48, .faddr 17 (.t 4), none, 0⟩,
                ⟨some 49, .load 1 false (.t 48), none, 0⟩,
                ⟨some 50, .bin .eql (.t 47) (.t 49), none, 0⟩] false [])
            (.cond (.t 50)
              (.seq
                (.region 0 [⟨some 51, .build [.int .i64 0, .int .u8 0, .int .u8 0, .int .u8 0, .int .u8 0, .int .u8 0, .int .u8 0, .int .u8 0, .int .u8 0, .int .u8 0, .int .u8 0, .int .u8 0, .int .u8 0, .int .u8 0, .int .u8 0, .int .u8 0, .int .u8 0, .int .i64 0] [] [], none, 0⟩,
                  ⟨none, .store 18 (.t 6) (.t 51), none, 0⟩,
                  ⟨none, .store 1 (.t 7) (.c (.bool false)), none, 0⟩,
                  ⟨none, .store 1 (.t 8) (.c (.int .i64 0)), none, 0⟩] false [])
              .ret)
              .skip))))))))
  (.seq
    (.region 1 [⟨some 53, .load 1 false (.t 10), none, 0⟩,
      ⟨some 54, .load 18 true (.t 4), none, 0⟩,
      ⟨some 55, .load 1 false (.t 5), none, 0⟩,
      ⟨some 56, .callV 52 [.t 53, .t 54, .t 55] false, none, 0⟩,
      ⟨some 52, .mv (.t 56), none, 0⟩,
      ⟨some 57, .extr (.t 52) 0, none, 0⟩,
      ⟨some 58, .extr (.t 52) 1, none, 0⟩,
      ⟨some 12, .alloc 32 [.int .i64 0, .int .u8 0, .int .u8 0, .int .u8 0, .int .u8 0, .int .u8 0, .int .u8 0, .int .u8 0, .int .u8 0, .int .u8 0, .int .u8 0, .int .u8 0, .int .u8 0, .int .u8 0, .int .u8 0, .int .u8 0, .int .u8 0, .int .i64 0] [], none, 0⟩,
      ⟨none, .store 18 (.t 12) (.t 57), none, 0⟩,
      ⟨some 13, .mv (.t 58), none, 0⟩] false [])
  (.seq
    (.region 0 [⟨some 59, .load 18 true (.t 12), none, 0⟩,
      ⟨some 60, .mv (.t 13), none, 0⟩,
      ⟨none, .store 18 (.t 6) (.t 59), none, 0⟩,
      ⟨none, .store 1 (.t 7) (.t 60), none, 0⟩,
      ⟨none, .store 1 (.t 8) (.c (.int .i64 0)), none, 0⟩] false [])
  .ret))))))),
  false⟩
theorem c20 : cFunc Tryd.prog G f20 Tryd.f20 = some f20 := by kernel_rfl
/-- junctionbox/junctionboxref05.Width -/
def f21 : AFunc :=
⟨1, [.t 2],
  (.seq
    (.region 0 [⟨some 2, .mv (.c (.int .i64 0)), none, 0⟩] false [])
  (.seq
    (.seq
      (.region 0 [⟨some 3, .mv (.t 0), none, 0⟩,
        ⟨some 4, .bin .eql (.t 3) (.c (.int .i64 4)), none, 0⟩] false [])
    (.cond (.t 4)
      (.seq
        (.region 0 [⟨some 2, .mv (.c (.int .i64 32)), none, 0⟩] false [])
      .ret)
      .skip))
  (.seq
    (.seq
      (.region 0 [⟨some 5, .mv (.t 0), none, 0⟩,
        ⟨some 6, .bin .eql (.t 5) (.c (.int .i64 6)), none, 0⟩] false [])
    (.cond (.t 6)
      (.seq
        (.region 0 [⟨some 2, .mv (.c (.int .i64 128)), none, 0⟩] false [])
      .ret)
      .skip))
  (.seq
    (.region 0 [⟨some 2, .mv (.c (.int .i64 0)), none, 0⟩] false [])
  .ret)))),
  false⟩
theorem c21 : cFunc Tryd.prog G f21 Tryd.f21 = some f21 := by kernel_rfl
/-- junctionbox/junctionboxref28.Free -/
def f22 : AFunc :=
⟨3, [.cell 6 18 true, .t 7],
  (.seq
    (.region 3 [⟨some 3, .box 24 1 (.t 0) [], none, 0⟩,
      ⟨some 4, .box 32 18 (.t 1) [], none, 1⟩,
      ⟨some 6, .alloc 32 [.int .i64 0, .int .u8 0, .int .u8 0, .int .u8 0, .int .u8 0, .int .u8 0, .int .u8 0, .int .u8 0, .int .u8 0, .int .u8 0, .int .u8 0, .int .u8 0, .int .u8 0, .int .u8 0, .int .u8 0, .int .u8 0, .int .u8 0, .int .i64 0] [], none, 2⟩,
      ⟨some 7, .mv (.c (.bool false)), none, 0⟩] false [])
  (.seq
    (.region 0 [⟨some 8, .load 1 true (.t 3), none, 0⟩,
      ⟨some 9, .load 18 true (.t 4), none, 0⟩,
      ⟨some 10, .load 18 true (.t 4), none, 0⟩,
      ⟨some 11, .mv (.t 2), none, 0⟩,
      ⟨some 12, .callV 53 [.t 8, .t 9, .t 10, .t 11] false, none, 0⟩,
      ⟨some 13, .extr (.t 12) 0, none, 0⟩,
      ⟨some 14, .extr (.t 12) 1, none, 0⟩,
      ⟨none, .store 18 (.t 6) (.t 13), none, 0⟩,
      ⟨some 7, .mv (.t 14), none, 0⟩] false [])
  .ret)),
  false⟩
theorem c22 : cFunc Tryd.prog G f22 Tryd.f22 = some f22 := by kernel_rfl
/-- junctionbox/query.Below -/
def f23 : AFunc :=
⟨2, [.t 4, .t 5],
  (.seq
    (.region 3 [⟨some 2, .box 24 1 (.t 0) [], none, 0⟩,
      ⟨some 3, .box 32 18 (.t 1) [], none, 1⟩,
      ⟨some 4, .newl 59 19, none, 2⟩,
      ⟨some 5, .mv (.c (.int .i64 0)), none, 0⟩] false [])
  (.seq
    (.seq
      (.region 0 [⟨some 7, .load 1 true (.t 2), none, 0⟩,
        ⟨some 8, .load 18 true (.t 3), none, 0⟩,
        ⟨some 9, .callV 44 [.t 7, .t 8] false, none, 0⟩,
        ⟨some 6, .mv (.t 9), none, 0⟩] false [])
    (.seq
      (.region 0 [⟨some 10, .mv (.t 6), none, 0⟩,
        ⟨some 11, .bin .neq (.t 10) (.c (.int .i64 0)), none, 0⟩] false [])
    (.cond (.t 11)
      (.seq
        (.region 1 [⟨some 12, .mv (.t 6), none, 0⟩,
          ⟨some 4, .newl 59 19, none, 0⟩,
          ⟨some 5, .mv (.t 12), none, 0⟩] false [])
      .ret)
      .skip)))
  (.seq
    (.region 0 [⟨some 13, .load 1 true (.t 2), none, 0⟩,
      ⟨some 14, .clo 55 [.t 3], none, 0⟩,
      ⟨some 15, .callR (.c (.clo 46 [])) [.t 13, .t 14] true, none, 0⟩,
      ⟨some 16, .callR (.c (.clo 54 [])) [.t 15] true, none, 0⟩,
      ⟨some 4, .mv (.t 16), none, 0⟩,
      ⟨some 5, .mv (.c (.int .i64 0)), none, 0⟩] false [])
  .ret))),
  true⟩
theorem c23 : cFunc Tryd.prog G f23 Tryd.f23 = some f23 := by kernel_rfl
/-- slices.Equal[[]junctionbox/api.Row,junctionbox/api.Row] -/
def f24 : AFunc :=
⟨2, [.t 4],
  (.seq
    (.region 0 [⟨some 4, .mv (.c (.bool false)), none, 0⟩] false [])
  (.seq
    (.seq
      (.region 0 [⟨some 6, .mv (.t 0), none, 0⟩,
        ⟨some 7, .len (.t 6), none, 0⟩,
        ⟨some 8, .mv (.t 1), none, 0⟩,
        ⟨some 9, .len (.t 8), none, 0⟩,
        ⟨some 10, .bin .neq (.t 7) (.t 9), none, 0⟩] false [])
    (.cond (.t 10)
      (.seq
        (.region 0 [⟨some 4, .mv (.c (.bool false)), none, 0⟩] false [])
      .ret)
      .skip))
  (.seq
    (.seq
      (.region 0 [⟨some 11, .mv (.t 0), none, 0⟩,
        ⟨some 12, .len (.t 11), none, 0⟩,
        ⟨some 13, .mv (.c (.int .i64 0)), none, 0⟩] false [])
    (.block 0
      (.loop [0, 1, 12, 13]
        (.seq
          (.region 0 [⟨some 14, .bin .lss (.t 13) (.t 12), none, 0⟩] false [])
        (.seq
          (.cond (.t 14)
            .skip
            (.exit 0))
        (.seq
          (.block 1
            (.seq
              (.region 0 [⟨some 15, .mv (.t 13), none, 0⟩,
                ⟨some 5, .mv (.t 15), none, 0⟩] false [])
            (.seq
              (.region 0 [⟨some 16, .mv (.t 0), none, 0⟩,
                ⟨some 17, .mv (.t 5), none, 0⟩,
                ⟨some 18, .iaddr 19 none (.t 16) (.t 17), none, 0⟩,
                ⟨some 19, .load 19 true (.t 18), none, 0⟩,
                ⟨some 20, .mv (.t 1), none, 0⟩,
                ⟨some 21, .mv (.t 5), none, 0⟩,
                ⟨some 22, .iaddr 19 none (.t 20) (.t 21), none, 0⟩,
                ⟨some 23, .load 19 true (.t 22), none, 0⟩,
                ⟨some 24, .eqagg true [1, 1, 1, 1, 1, 1, 1, 1, 1, 1, 1, 1, 1, 1, 1, 1, 1, 1, 1] (.t 19) (.t 23), none, 0⟩] true [])
            (.cond (.t 24)
              (.seq
                (.region 0 [⟨some 4, .mv (.c (.bool false)), none, 0⟩] false [])
              .ret)
              .skip))))
        (.region 0 [⟨some 25, .bin .add (.t 13) (.c (.int .i64 1)), none, 0⟩,
          ⟨some 13, .mv (.t 25), none, 0⟩] false [])))))))
  (.seq
    (.region 0 [⟨some 4, .mv (.c (.bool true)), none, 0⟩] false [])
  .ret)))),
  false⟩
theorem c24 : cFunc Tryd.prog G f24 Tryd.f24 = some f24 := by kernel_rfl
/-- junctionbox/query.Above -/
def f25 : AFunc :=
⟨2, [.t 4, .t 5],
  (.seq
    (.region 3 [⟨some 2, .box 24 1 (.t 0) [], none, 0⟩,
      ⟨some 3, .box 32 18 (.t 1) [], none, 1⟩,
      ⟨some 4, .newl 59 19, none, 2⟩,
      ⟨some 5, .mv (.c (.int .i64 0)), none, 0⟩] false [])
  (.seq
    (.seq
      (.region 0 [⟨some 7, .load 1 true (.t 2), none, 0⟩,
        ⟨some 8, .load 18 true (.t 3), none, 0⟩,
        ⟨some 9, .callV 44 [.t 7, .t 8] false, none, 0⟩,
        ⟨some 6, .mv (.t 9), none, 0⟩] false [])
    (.seq
      (.region 0 [⟨some 10, .mv (.t 6), none, 0⟩,
        ⟨some 11, .bin .neq (.t 10) (.c (.int .i64 0)), none, 0⟩] false [])
    (.cond (.t 11)
      (.seq
        (.region 1 [⟨some 12, .mv (.t 6), none, 0⟩,
          ⟨some 4, .newl 59 19, none, 0⟩,
          ⟨some 5, .mv (.t 12), none, 0⟩] false [])
      .ret)
      .skip)))
  (.seq
    (.region 0 [⟨some 13, .load 1 true (.t 2), none, 0⟩,
      ⟨some 14, .clo 56 [.t 3], none, 0⟩,
      ⟨some 15, .callR (.c (.clo 46 [])) [.t 13, .t 14] true, none, 0⟩,
      ⟨some 16, .callR (.c (.clo 54 [])) [.t 15] true, none, 0⟩,
      ⟨some 4, .mv (.t 16), none, 0⟩,
      ⟨some 5, .mv (.c (.int .i64 0)), none, 0⟩] false [])
  .ret))),
  true⟩
theorem c25 : cFunc Tryd.prog G f25 Tryd.f25 = some f25 := by kernel_rfl
/-- junctionbox/query.Parent -/
def f26 : AFunc :=
⟨2, [.cell 4 19 true, .t 5, .t 6],
  (.seq
    (.region 3 [⟨some 2, .box 24 1 (.t 0) [], none, 0⟩,
      ⟨some 3, .box 32 18 (.t 1) [], none, 1⟩,
      ⟨some 4, .alloc 59 [.int .i64 0, .int .u8 0, .int .u8 0, .int .u8 0, .int .u8 0, .int .u8 0, .int .u8 0, .int .u8 0, .int .u8 0, .int .u8 0, .int .u8 0, .int .u8 0, .int .u8 0, .int .u8 0, .int .u8 0, .int .u8 0, .int .u8 0, .int .i64 0, .int .i64 0] [], none, 2⟩,
      ⟨some 5, .mv (.c (.bool false)), none, 0⟩,
      ⟨some 6, .mv (.c (.int .i64 0)), none, 0⟩] false [])
  (.seq
    (.region 1 [⟨some 10, .load 1 true (.t 2), none, 0⟩,
      ⟨some 11, .load 18 true (.t 3), none, 0⟩,
      ⟨some 12, .callV 25 [.t 10, .t 11] true, none, 0⟩,
      ⟨some 9, .mv (.t 12), none, 0⟩,
      ⟨some 13, .extr (.t 9) 0, none, 0⟩,
      ⟨some 14, .extr (.t 9) 1, none, 0⟩,
      ⟨some 7, .mv (.t 13), none, 0⟩,
      ⟨some 8, .mv (.t 14), none, 0⟩] false [])
  (.seq
    (.region 0 [⟨some 15, .mv (.t 7), none, 0⟩,
      ⟨some 16, .clo 58 [.t 3], none, 0⟩,
      ⟨some 17, .callR (.c (.clo 57 [])) [.t 15, .t 16] true, none, 0⟩,
      ⟨some 7, .mv (.t 17), none, 0⟩] false [])
  (.seq
    (.seq
      (.region 0 [⟨some 18, .mv (.t 8), none, 0⟩,
        ⟨some 19, .bin .neq (.t 18) (.c (.int .i64 0)), none, 0⟩,
        ⟨some 20, .mv (.t 19), none, 0⟩,
        ⟨some 21, .mv (.t 7), some (20, false), 0⟩,
        ⟨some 22, .len (.t 21), some (20, false), 0⟩,
        ⟨some 23, .bin .eql (.t 22) (.c (.int .i64 0)), some (20, false), 0⟩,
        ⟨some 24, .pick (.t 20) (.c (.bool true)) (.t 23), none, 0⟩] false [])
    (.cond (.t 24)
      (.seq
        (.region 0 [⟨some 25, .build [.int .i64 0, .int .u8 0, .int .u8 0, .int .u8 0, .int .u8 0, .int .u8 0, .int .u8 0, .int .u8 0, .int .u8 0, .int .u8 0, .int .u8 0, .int .u8 0, .int .u8 0, .int .u8 0, .int .u8 0, .int .u8 0, .int .u8 0, .int .i64 0, .int .i64 0] [] [], none, 0⟩,
          ⟨some 26, .mv (.t 8), none, 0⟩,
          ⟨none, .store 19 (.t 4) (.t 25), none, 0⟩,
          ⟨some 5, .mv (.c (.bool false)), none, 0⟩,
          ⟨some 6, .mv (.t 26), none, 0⟩] false [])
      .ret)
      .skip))
  (.seq
    (.region 0 [⟨some 27, .mv (.t 7), none, 0⟩,
      ⟨some 28, .mv (.t 7), none, 0⟩,
      ⟨some 29, .len (.t 28), none, 0⟩,
      ⟨some 30, .bin .sub (.t 29) (.c (.int .i64 1)), none, 0⟩,
      ⟨some 31, .iaddr 19 none (.t 27) (.t 30), none, 0⟩,
      ⟨some 32, .load 19 true (.t 31), none, 0⟩,
      ⟨none, .store 19 (.t 4) (.t 32), none, 0⟩,
      ⟨some 5, .mv (.c (.bool true)), none, 0⟩,
      ⟨some 6, .mv (.c (.int .i64 0)), none, 0⟩] false [])
  .ret))))),
  false⟩
theorem c26 : cFunc Tryd.prog G f26 Tryd.f26 = some f26 := by kernel_rfl
/-- junctionbox/junctionboxref28.Parent -/
def f27 : AFunc :=
⟨2, [.cell 4 19 true, .t 5],
  (.seq
    (.region 3 [⟨some 2, .box 24 1 (.t 0) [], none, 0⟩,
      ⟨some 3, .box 32 18 (.t 1) [], none, 1⟩,
      ⟨some 4, .alloc 59 [.int .i64 0, .int .u8 0, .int .u8 0, .int .u8 0, .int .u8 0, .int .u8 0, .int .u8 0, .int .u8 0, .int .u8 0, .int .u8 0, .int .u8 0, .int .u8 0, .int .u8 0, .int .u8 0, .int .u8 0, .int .u8 0, .int .u8 0, .int .i64 0, .int .i64 0] [], none, 2⟩,
      ⟨some 5, .mv (.c (.bool false)), none, 0⟩] false [])
  (.seq
    (.region 1 [⟨some 6, .alloc 59 [.int .i64 0, .int .u8 0, .int .u8 0, .int .u8 0, .int .u8 0, .int .u8 0, .int .u8 0, .int .u8 0, .int .u8 0, .int .u8 0, .int .u8 0, .int .u8 0, .int .u8 0, .int .u8 0, .int .u8 0, .int .u8 0, .int .u8 0, .int .i64 0, .int .i64 0] [], none, 0⟩] false [])
  (.seq
    (.region 0 [⟨some 7, .mv (.c (.bool false)), none, 0⟩] false [])
  (.seq
    (.seq
      (.region 0 [⟨some 10, .load 1 true (.t 2), none, 0⟩,
        ⟨some 11, .load 18 true (.t 3), none, 0⟩,
        ⟨some 12, .callV 28 [.t 10, .t 11] false, none, 0⟩,
        ⟨some 13, .len (.t 12), none, 0⟩,
        ⟨some 14, .mv (.c (.int .i64 0)), none, 0⟩] false [])
    (.block 0
      (.loop [3, 4, 6, 7, 12, 13, 14]
        (.seq
          (.region 0 [⟨some 15, .bin .lss (.t 14) (.t 13), none, 0⟩] false [])
        (.seq
          (.cond (.t 15)
            .skip
            (.exit 0))
        (.seq
          (.block 1
            (.seq
              (.region 1 [⟨some 16, .iaddr 19 none (.t 12) (.t 14), none, 0⟩,
                ⟨some 17, .load 19 true (.t 16), none, 0⟩,
                ⟨some 9, .alloc 59 [.int .i64 0, .int .u8 0, .int .u8 0, .int .u8 0, .int .u8 0, .int .u8 0, .int .u8 0, .int .u8 0, .int .u8 0, .int .u8 0, .int .u8 0, .int .u8 0, .int .u8 0, .int .u8 0, .int .u8 0, .int .u8 0, .int .u8 0, .int .i64 0, .int .i64 0] [], none, 0⟩,
                ⟨none, .store 19 (.t 9) (.t 17), none, 0⟩] false [])
            (.seq
              (.region 0 [⟨some 18, .faddr 0 (.t 9), none, 0⟩,
                ⟨some 19, .load 18 true (.t 18), none, 0⟩,
                ⟨some 20, .load 18 true (.t 3), none, 0⟩,
                ⟨some 21, .eqagg true [1, 1, 1, 1, 1, 1, 1, 1, 1, 1, 1, 1, 1, 1, 1, 1, 1, 1] (.t 19) (.t 20), none, 0⟩] false [])
            (.cond (.t 21)
              (.region 0 [⟨some 22, .load 19 true (.t 9), none, 0⟩,
                ⟨none, .store 19 (.t 6) (.t 22), none, 0⟩,
                ⟨some 7, .mv (.c (.bool true)), none, 0⟩] false [])
              .skip))))
        (.region 0 [⟨some 23, .bin .add (.t 14) (.c (.int .i64 1)), none, 0⟩,
          ⟨some 14, .mv (.t 23), none, 0⟩] false [])))))))
  (.seq
    (.region 0 [⟨some 24, .load 19 true (.t 6), none, 0⟩,
      ⟨some 25, .mv (.t 7), none, 0⟩,
      ⟨none, .store 19 (.t 4) (.t 24), none, 0⟩,
      ⟨some 5, .mv (.t 25), none, 0⟩] false [])
  .ret))))),
  false⟩
theorem c27 : cFunc Tryd.prog G f27 Tryd.f27 = some f27 := by kernel_rfl
end Go.Proofs.YtihbammfchnjgaaDoor.F
