/- BeatTwice's walk. No condition. -/
import Derived.Test.YtabadcnpmfafnaaN2
set_option linter.unusedVariables false
set_option linter.unusedSimpArgs false
namespace Go.Proofs.Ytabadcnpmfafnaa
open Go Go.RowKit J

theorem rem_lo {x : Int} (h : 0 ≤ x) : 0 ≤ x % 30 ∧ x % 30 < 30 := by omega

set_option maxRecDepth 20000 in
set_option maxHeartbeats 4000000 in
theorem twice_any (now ta tb : Int) (a : Option Addr) (c : Nat) (l : List Pu) (W : World) (hn : I64 now) (hta : I64 ta) (htb : I64 tb) (hl : ∀ p ∈ l, p.ok) (hs : SlC W 4 a (l.map Pu.enc)) (hlm : l.length ≤ maxLen) :
    Calls Try.prog 5 #[.agg #[.int .i64 now, .slice a l.length c], .int .i64 ta, .int .i64 tb] W fun e w' => e = .returned (.bool true) ∧ Ext W w' := by
  unfold I64 at hta htb
  have E0 := (Ext.refl W).alloc (.cells #[.int .i64 now, .slice a l.length c] 24)
  have b0 := Blk.new W #[.int .i64 now, .slice a l.length c] 24
  go_enter Try.func5, Try.ntmps5
  go_wp2_with fail
  generalize W.alloc (.cells #[.int .i64 now, .slice a l.length c] 24) = W0 at *
  refine (wakes_any W0).mono ?_
  rintro _ w1 ⟨rfl, hE⟩
  have b1 := hE.blk b0
  have E1 := E0.trans hE
  have z0 := b1.cell (i := 0) rfl
  have z1 := b1.cell (i := 1) rfl
  clear hE
  by_cases hbig : 100 < l.length
  · have hb : (100 : Int) < l.length := by omega
    go_wp2
    go_ret
    exact ⟨rfl, E1⟩
  · have hb : (l.length : Int) ≤ 100 := by omega
    go_wp2_with fail
    refine (check_any now a c l w1 hn hl (hs.ext E1) hlm).mono ?_
    rintro _ w2 ⟨rfl, hE⟩
    have b2 := hE.blk b1
    have E2 := E1.trans hE
    have z0 := b2.cell (i := 0) rfl
    have z1 := b2.cell (i := 1) rfl
    clear hE
    by_cases hP : CheckP now l
    rotate_left
    · have hc : checkE now l = 390 := if_neg hP
      rw [hc]
      clear hc hP
      go_wp2
      go_ret
      exact ⟨rfl, E2⟩
    have hc : checkE now l = 0 := if_pos hP
    rw [hc]
    clear hc
    have hnow := hP.1
    have hnow2 := hP.2.1
    have HP := Lib.hid hP
    clear hP
    go_wp2_with fail
    · have gA : 0 ≤ (0 : Int) ∧ (0 : Int) < 30 := by omega
      have gB : 0 ≤ (0 : Int) ∧ (0 : Int) < 30 := by omega
      obtain ⟨gA0, gA1⟩ := gA
      obtain ⟨gB0, gB1⟩ := gB
      by_cases hG : now ≤ 1099511627776
      · have hn1 : I64 (now) := ⟨by omega, by omega⟩
        refine (pass_ok (t := (0 : Int)) (n' := now) (by omega) HP.out gA0 (by omega) a c w2 hl (hs.ext E2) (by omega)).mono ?_
        rintro _ w3 ⟨a3, c3, a4, c4, d1, hd1, rfl, s3, hE⟩
        have Hd1 := Lib.hid hd1
        clear hd1
        have hB7 := (hE.blk b2).lt
        have EA := (Ext.refl w3).alloc (.cells #[.int .i64 (now), .slice a3 l.length c3] 24)
        have b7 := Blk.new w3 #[.int .i64 (now), .slice a3 l.length c3] 24
        have b2 := EA.blk (hE.blk b2)
        have s3 := s3.ext EA
        have E3 := E2.trans (hE.trans EA)
        clear hE EA E2 z0 z1
        go_wp2_with fail
        generalize w3.alloc (.cells #[.int .i64 (now), .slice a3 l.length c3] 24) = W3 at *
        generalize w3.heap.size = B7 at *
        have hc3 := check_later (n := now) HP.out (by omega) (by omega)
        have hP2 := pass_ok (t := (0 : Int)) (n' := now) (by omega) hc3 gB0 hG a3 c3 W3 (ok_later _ hl) s3 (by rw [List.length_map]; omega)
        rw [List.length_map] at hP2
        refine hP2.mono ?_
        clear hP2 hc3
        rintro _ w4 ⟨a5, c5, a6, c6, d2, hd2, rfl, s5, hE⟩
        have Hd2 := Lib.hid hd2
        clear hd2
        have EA := (Ext.refl w4).alloc (.cells #[.int .i64 (now), .slice a5 l.length c5] 24)
        have b10 := Blk.new w4 #[.int .i64 (now), .slice a5 l.length c5] 24
        have b2 := EA.blk (hE.blk b2)
        have b7 := EA.blk (hE.blk b7)
        have s3 := s3.ext (hE.trans EA)
        have s5 := s5.ext EA
        have E4 := E3.trans (hE.trans EA)
        clear hE EA E3
        have z0 := b2.cell (i := 0) rfl
        have z1 := b2.cell (i := 1) rfl
        go_wp2_with fail
        generalize w4.alloc (.cells #[.int .i64 (now), .slice a5 l.length c5] 24) = W4 at *
        generalize w4.heap.size = B10 at *
        refine (pass_ok (n' := now) (by omega) HP.out (by omega) hG a c W4 hl (hs.ext E4) (by omega)).mono ?_
        rintro _ w5 ⟨a7, c7, a8, c8, d3, hd3, rfl, s7, hE⟩
        have hsum : d3 = d1 + d2 := by rw [hd3, Hd1.out, Hd2.out]; exact (down_sum (by omega) l).symm
        have hll : (l.map (later (now))).map (later (now)) = l.map (later (now)) := by
          rw [List.map_map]; exact List.map_congr_left (fun p _ => later_later (by omega) p)
        rw [hll] at s5
        have hd3' : d3 ≤ 100 := by have := List.length_filter_le (goesDown (now)) l; rw [hd3]; unfold downOf; rw [List.length_map]; omega
        have hdI : ((d1 : Int) + (d2 : Int) != (d3 : Int)) = false := by rw [bne_eq_false_iff_eq]; omega
        have hdI2 : (d1 : Int) + (d2 : Int) ≤ 100 := by omega
        clear hd3 hll
        have Hsum := Lib.hid hsum
        clear hsum
        have EA := (Ext.refl w5).alloc (.cells #[.int .i64 (now), .slice a7 l.length c7] 24)
        have b13 := Blk.new w5 #[.int .i64 (now), .slice a7 l.length c7] 24
        have b2 := EA.blk (hE.blk b2)
        have b7 := EA.blk (hE.blk b7)
        have b10 := EA.blk (hE.blk b10)
        have s3 := s3.ext (hE.trans EA)
        have s5 := s5.ext (hE.trans EA)
        have s7 := s7.ext EA
        have E5 := E4.trans (hE.trans EA)
        clear hE EA E4 z0 z1
        have y0 := b10.cell (i := 0) rfl
        have y1 := b10.cell (i := 1) rfl
        have x0 := b13.cell (i := 0) rfl
        have x1 := b13.cell (i := 1) rfl
        go_wp2_with fail
        generalize w5.alloc (.cells #[.int .i64 (now), .slice a7 l.length c7] 24) = W5 at *
        generalize w5.heap.size = B13 at *
        have hS := bsame_eq (now) a5 a7 c5 c7 (l.map (later (now))) W5 s5 s7 (by rw [List.length_map]; omega)
        rw [List.length_map] at hS
        refine hS.mono ?_
        clear hS
        rintro _ w6 ⟨rfl, hE⟩
        have b2 := hE.blk b2
        have b7 := hE.blk b7
        have s3 := s3.ext hE
        have E6 := E5.trans hE
        clear hE E5 y0 y1 x0 x1
        have z0 := b2.cell (i := 0) rfl
        have z1 := b2.cell (i := 1) rfl
        go_wp2_with fail
        refine (next_any now a c l w6 hn hl (hs.ext E6) (by omega)).mono ?_
        have Hnx : Hid (nextP now l = nextL now l) := Lib.hid (by unfold nextP; rw [if_pos HP.out])
        rw [Hnx.out]
        have hst : ((nextL now l).2 = true → now < (nextL now l).1) → l.map (later (now)) = l := still_later HP.out (by omega)
        have Hst := Lib.hid hst
        clear hst
        generalize nextL now l = N at *
        obtain ⟨nx, any⟩ := N
        rintro _ w7 ⟨rfl, hE⟩
        have b2 := hE.blk b2
        have b7 := hE.blk b7
        have s3 := s3.ext hE
        have E7 := E6.trans hE
        clear hE E6 z0 z1
        have y0 := b7.cell (i := 0) rfl
        have y1 := b7.cell (i := 1) rfl
        have yf := b7.free 0
        have z0 := b2.cell (i := 0) rfl
        have z1 := b2.cell (i := 1) rfl
        dsimp only
        by_cases hx : any = true ∧ nx ≤ now
        · obtain ⟨rfl, hx⟩ := hx
          go_wp2
          go_ret
          exact ⟨rfl, E7⟩
        · have hsame := Hst.out (fun h => by
            rcases Int.lt_or_le (now) nx with h' | h'
            · exact h'
            · exact absurd ⟨h, h'⟩ hx)
          rw [hsame] at s3
          clear hsame
          have hSm := fun w' hw hw' => bsame_eq now a3 a c3 c l w' hw hw' (by omega)
          have s9 := SlC.far s3 b7 (by simp) 0 (.int .i64 now)
          have s8 := SlC.far (hs.ext E7) b7 (by simp) 0 (.int .i64 now)
          have E8 : Ext W (w7.setCell ⟨B7, 0, none⟩ (.int .i64 now)) := E7.setC (by dsimp only; omega) _
          have hne : W.heap.size ≠ B7 := by omega
          have hSS := hSm _ s9 s8
          have HSS := Lib.hid hSS
          clear hSS hSm
          cases any
          · go_wp2_with fail
            refine HSS.out.mono ?_
            rintro _ w8 ⟨rfl, hE⟩
            go_wp2
            go_ret
            exact ⟨rfl, E8.trans hE⟩
          · have hx' : now < nx := by
              rcases Int.lt_or_le (now) nx with h' | h'
              · exact h'
              · exact absurd ⟨rfl, h'⟩ hx
            go_wp2_with fail
            refine HSS.out.mono ?_
            rintro _ w8 ⟨rfl, hE⟩
            go_wp2
            go_ret
            exact ⟨rfl, E8.trans hE⟩
      · by_cases hA : now ≤ 1099511627776
        · exact absurd hA hG
        · exact absurd hnow2 hA
    · have gA : 0 ≤ (0 : Int) ∧ (0 : Int) < 30 := by omega
      have gB : 0 ≤ (tb % 30) ∧ (tb % 30) < 30 := by omega
      obtain ⟨gA0, gA1⟩ := gA
      obtain ⟨gB0, gB1⟩ := gB
      by_cases hG : now + (tb % 30) ≤ 1099511627776
      · have hn1 : I64 (now) := ⟨by omega, by omega⟩
        refine (pass_ok (t := (0 : Int)) (n' := now) (by omega) HP.out gA0 (by omega) a c w2 hl (hs.ext E2) (by omega)).mono ?_
        rintro _ w3 ⟨a3, c3, a4, c4, d1, hd1, rfl, s3, hE⟩
        have Hd1 := Lib.hid hd1
        clear hd1
        have hB7 := (hE.blk b2).lt
        have EA := (Ext.refl w3).alloc (.cells #[.int .i64 (now), .slice a3 l.length c3] 24)
        have b7 := Blk.new w3 #[.int .i64 (now), .slice a3 l.length c3] 24
        have b2 := EA.blk (hE.blk b2)
        have s3 := s3.ext EA
        have E3 := E2.trans (hE.trans EA)
        clear hE EA E2 z0 z1
        go_wp2_with fail
        generalize w3.alloc (.cells #[.int .i64 (now), .slice a3 l.length c3] 24) = W3 at *
        generalize w3.heap.size = B7 at *
        have hc3 := check_later (n := now) HP.out (by omega) (by omega)
        have hP2 := pass_ok (t := (tb % 30)) (n' := now + (tb % 30)) (by omega) hc3 gB0 hG a3 c3 W3 (ok_later _ hl) s3 (by rw [List.length_map]; omega)
        rw [List.length_map] at hP2
        refine hP2.mono ?_
        clear hP2 hc3
        rintro _ w4 ⟨a5, c5, a6, c6, d2, hd2, rfl, s5, hE⟩
        have Hd2 := Lib.hid hd2
        clear hd2
        have EA := (Ext.refl w4).alloc (.cells #[.int .i64 (now + (tb % 30)), .slice a5 l.length c5] 24)
        have b10 := Blk.new w4 #[.int .i64 (now + (tb % 30)), .slice a5 l.length c5] 24
        have b2 := EA.blk (hE.blk b2)
        have b7 := EA.blk (hE.blk b7)
        have s3 := s3.ext (hE.trans EA)
        have s5 := s5.ext EA
        have E4 := E3.trans (hE.trans EA)
        clear hE EA E3
        have z0 := b2.cell (i := 0) rfl
        have z1 := b2.cell (i := 1) rfl
        go_wp2_with fail
        generalize w4.alloc (.cells #[.int .i64 (now + (tb % 30)), .slice a5 l.length c5] 24) = W4 at *
        generalize w4.heap.size = B10 at *
        refine (pass_ok (n' := now + (tb % 30)) (by omega) HP.out (by omega) hG a c W4 hl (hs.ext E4) (by omega)).mono ?_
        rintro _ w5 ⟨a7, c7, a8, c8, d3, hd3, rfl, s7, hE⟩
        have hsum : d3 = d1 + d2 := by rw [hd3, Hd1.out, Hd2.out]; exact (down_sum (by omega) l).symm
        have hll : (l.map (later (now))).map (later (now + (tb % 30))) = l.map (later (now + (tb % 30))) := by
          rw [List.map_map]; exact List.map_congr_left (fun p _ => later_later (by omega) p)
        rw [hll] at s5
        have hd3' : d3 ≤ 100 := by have := List.length_filter_le (goesDown (now + (tb % 30))) l; rw [hd3]; unfold downOf; rw [List.length_map]; omega
        have hdI : ((d1 : Int) + (d2 : Int) != (d3 : Int)) = false := by rw [bne_eq_false_iff_eq]; omega
        have hdI2 : (d1 : Int) + (d2 : Int) ≤ 100 := by omega
        clear hd3 hll
        have Hsum := Lib.hid hsum
        clear hsum
        have EA := (Ext.refl w5).alloc (.cells #[.int .i64 (now + (tb % 30)), .slice a7 l.length c7] 24)
        have b13 := Blk.new w5 #[.int .i64 (now + (tb % 30)), .slice a7 l.length c7] 24
        have b2 := EA.blk (hE.blk b2)
        have b7 := EA.blk (hE.blk b7)
        have b10 := EA.blk (hE.blk b10)
        have s3 := s3.ext (hE.trans EA)
        have s5 := s5.ext (hE.trans EA)
        have s7 := s7.ext EA
        have E5 := E4.trans (hE.trans EA)
        clear hE EA E4 z0 z1
        have y0 := b10.cell (i := 0) rfl
        have y1 := b10.cell (i := 1) rfl
        have x0 := b13.cell (i := 0) rfl
        have x1 := b13.cell (i := 1) rfl
        go_wp2_with fail
        generalize w5.alloc (.cells #[.int .i64 (now + (tb % 30)), .slice a7 l.length c7] 24) = W5 at *
        generalize w5.heap.size = B13 at *
        have hS := bsame_eq (now + (tb % 30)) a5 a7 c5 c7 (l.map (later (now + (tb % 30)))) W5 s5 s7 (by rw [List.length_map]; omega)
        rw [List.length_map] at hS
        refine hS.mono ?_
        clear hS
        rintro _ w6 ⟨rfl, hE⟩
        have b2 := hE.blk b2
        have b7 := hE.blk b7
        have s3 := s3.ext hE
        have E6 := E5.trans hE
        clear hE E5 y0 y1 x0 x1
        have z0 := b2.cell (i := 0) rfl
        have z1 := b2.cell (i := 1) rfl
        go_wp2_with fail
        refine (next_any now a c l w6 hn hl (hs.ext E6) (by omega)).mono ?_
        have Hnx : Hid (nextP now l = nextL now l) := Lib.hid (by unfold nextP; rw [if_pos HP.out])
        rw [Hnx.out]
        have hst : ((nextL now l).2 = true → now < (nextL now l).1) → l.map (later (now)) = l := still_later HP.out (by omega)
        have Hst := Lib.hid hst
        clear hst
        generalize nextL now l = N at *
        obtain ⟨nx, any⟩ := N
        rintro _ w7 ⟨rfl, hE⟩
        have b2 := hE.blk b2
        have b7 := hE.blk b7
        have s3 := s3.ext hE
        have E7 := E6.trans hE
        clear hE E6 z0 z1
        have y0 := b7.cell (i := 0) rfl
        have y1 := b7.cell (i := 1) rfl
        have yf := b7.free 0
        have z0 := b2.cell (i := 0) rfl
        have z1 := b2.cell (i := 1) rfl
        dsimp only
        by_cases hx : any = true ∧ nx ≤ now
        · obtain ⟨rfl, hx⟩ := hx
          go_wp2
          go_ret
          exact ⟨rfl, E7⟩
        · have hsame := Hst.out (fun h => by
            rcases Int.lt_or_le (now) nx with h' | h'
            · exact h'
            · exact absurd ⟨h, h'⟩ hx)
          rw [hsame] at s3
          clear hsame
          have hSm := fun w' hw hw' => bsame_eq now a3 a c3 c l w' hw hw' (by omega)
          have s9 := SlC.far s3 b7 (by simp) 0 (.int .i64 now)
          have s8 := SlC.far (hs.ext E7) b7 (by simp) 0 (.int .i64 now)
          have E8 : Ext W (w7.setCell ⟨B7, 0, none⟩ (.int .i64 now)) := E7.setC (by dsimp only; omega) _
          have hne : W.heap.size ≠ B7 := by omega
          have hSS := hSm _ s9 s8
          have HSS := Lib.hid hSS
          clear hSS hSm
          cases any
          · go_wp2_with fail
            refine HSS.out.mono ?_
            rintro _ w8 ⟨rfl, hE⟩
            go_wp2
            go_ret
            exact ⟨rfl, E8.trans hE⟩
          · have hx' : now < nx := by
              rcases Int.lt_or_le (now) nx with h' | h'
              · exact h'
              · exact absurd ⟨rfl, h'⟩ hx
            go_wp2_with fail
            refine HSS.out.mono ?_
            rintro _ w8 ⟨rfl, hE⟩
            go_wp2
            go_ret
            exact ⟨rfl, E8.trans hE⟩
      · by_cases hA : now ≤ 1099511627776
        · refine (pass_ok (t := (0 : Int)) (n' := now) (by omega) HP.out gA0 hA a c w2 hl (hs.ext E2) (by omega)).mono ?_
          rintro _ w3 ⟨a3, c3, a4, c4, d1, -, rfl, s3, hE⟩
          have EA := (Ext.refl w3).alloc (.cells #[.int .i64 (now), .slice a3 l.length c3] 24)
          have b2 := EA.blk (hE.blk b2)
          have s3 := s3.ext EA
          have E3 := E2.trans (hE.trans EA)
          clear hE EA E2 z0 z1
          go_wp2_with fail
          generalize w3.alloc (.cells #[.int .i64 (now), .slice a3 l.length c3] 24) = W3 at *
          have hP2 := pass_bad (check_later (n := now) HP.out (by omega) hA) gB0 (by omega) (by omega) a3 c3 W3 (ok_later _ hl) s3 (by rw [List.length_map]; omega)
          rw [List.length_map] at hP2
          refine hP2.mono ?_
          clear hP2 s3
          rintro _ w4 ⟨a5, c5, a6, c6, rfl, hE⟩
          have EA := (Ext.refl w4).alloc (.cells #[.int .i64 0, .slice a5 0 c5] 24)
          have b2 := EA.blk (hE.blk b2)
          have E4 := E3.trans (hE.trans EA)
          clear hE EA E3
          have z0 := b2.cell (i := 0) rfl
          have z1 := b2.cell (i := 1) rfl
          go_wp2_with fail
          generalize w4.alloc (.cells #[.int .i64 0, .slice a5 0 c5] 24) = W4 at *
          refine (pass_bad HP.out (by omega) (by omega) (by omega) a c W4 hl (hs.ext E4) (by omega)).mono ?_
          rintro _ w5 ⟨a7, c7, a8, c8, rfl, hE⟩
          go_wp2
          go_ret
          exact ⟨rfl, (E4.trans hE).alloc _⟩
        · exact absurd hnow2 hA
    · have gA : 0 ≤ (ta % 30) ∧ (ta % 30) < 30 := by omega
      have gB : 0 ≤ (0 : Int) ∧ (0 : Int) < 30 := by omega
      obtain ⟨gA0, gA1⟩ := gA
      obtain ⟨gB0, gB1⟩ := gB
      by_cases hG : now + (ta % 30) ≤ 1099511627776
      · have hn1 : I64 (now + (ta % 30)) := ⟨by omega, by omega⟩
        refine (pass_ok (t := (ta % 30)) (n' := now + (ta % 30)) (by omega) HP.out gA0 (by omega) a c w2 hl (hs.ext E2) (by omega)).mono ?_
        rintro _ w3 ⟨a3, c3, a4, c4, d1, hd1, rfl, s3, hE⟩
        have Hd1 := Lib.hid hd1
        clear hd1
        have hB7 := (hE.blk b2).lt
        have EA := (Ext.refl w3).alloc (.cells #[.int .i64 (now + (ta % 30)), .slice a3 l.length c3] 24)
        have b7 := Blk.new w3 #[.int .i64 (now + (ta % 30)), .slice a3 l.length c3] 24
        have b2 := EA.blk (hE.blk b2)
        have s3 := s3.ext EA
        have E3 := E2.trans (hE.trans EA)
        clear hE EA E2 z0 z1
        go_wp2_with fail
        generalize w3.alloc (.cells #[.int .i64 (now + (ta % 30)), .slice a3 l.length c3] 24) = W3 at *
        generalize w3.heap.size = B7 at *
        have hc3 := check_later (n := now + (ta % 30)) HP.out (by omega) (by omega)
        have hP2 := pass_ok (t := (0 : Int)) (n' := now + (ta % 30)) (by omega) hc3 gB0 hG a3 c3 W3 (ok_later _ hl) s3 (by rw [List.length_map]; omega)
        rw [List.length_map] at hP2
        refine hP2.mono ?_
        clear hP2 hc3
        rintro _ w4 ⟨a5, c5, a6, c6, d2, hd2, rfl, s5, hE⟩
        have Hd2 := Lib.hid hd2
        clear hd2
        have EA := (Ext.refl w4).alloc (.cells #[.int .i64 (now + (ta % 30)), .slice a5 l.length c5] 24)
        have b10 := Blk.new w4 #[.int .i64 (now + (ta % 30)), .slice a5 l.length c5] 24
        have b2 := EA.blk (hE.blk b2)
        have b7 := EA.blk (hE.blk b7)
        have s3 := s3.ext (hE.trans EA)
        have s5 := s5.ext EA
        have E4 := E3.trans (hE.trans EA)
        clear hE EA E3
        have z0 := b2.cell (i := 0) rfl
        have z1 := b2.cell (i := 1) rfl
        go_wp2_with fail
        generalize w4.alloc (.cells #[.int .i64 (now + (ta % 30)), .slice a5 l.length c5] 24) = W4 at *
        generalize w4.heap.size = B10 at *
        refine (pass_ok (n' := now + (ta % 30)) (by omega) HP.out (by omega) hG a c W4 hl (hs.ext E4) (by omega)).mono ?_
        rintro _ w5 ⟨a7, c7, a8, c8, d3, hd3, rfl, s7, hE⟩
        have hsum : d3 = d1 + d2 := by rw [hd3, Hd1.out, Hd2.out]; exact (down_sum (by omega) l).symm
        have hll : (l.map (later (now + (ta % 30)))).map (later (now + (ta % 30))) = l.map (later (now + (ta % 30))) := by
          rw [List.map_map]; exact List.map_congr_left (fun p _ => later_later (by omega) p)
        rw [hll] at s5
        have hd3' : d3 ≤ 100 := by have := List.length_filter_le (goesDown (now + (ta % 30))) l; rw [hd3]; unfold downOf; rw [List.length_map]; omega
        have hdI : ((d1 : Int) + (d2 : Int) != (d3 : Int)) = false := by rw [bne_eq_false_iff_eq]; omega
        have hdI2 : (d1 : Int) + (d2 : Int) ≤ 100 := by omega
        clear hd3 hll
        have Hsum := Lib.hid hsum
        clear hsum
        have EA := (Ext.refl w5).alloc (.cells #[.int .i64 (now + (ta % 30)), .slice a7 l.length c7] 24)
        have b13 := Blk.new w5 #[.int .i64 (now + (ta % 30)), .slice a7 l.length c7] 24
        have b2 := EA.blk (hE.blk b2)
        have b7 := EA.blk (hE.blk b7)
        have b10 := EA.blk (hE.blk b10)
        have s3 := s3.ext (hE.trans EA)
        have s5 := s5.ext (hE.trans EA)
        have s7 := s7.ext EA
        have E5 := E4.trans (hE.trans EA)
        clear hE EA E4 z0 z1
        have y0 := b10.cell (i := 0) rfl
        have y1 := b10.cell (i := 1) rfl
        have x0 := b13.cell (i := 0) rfl
        have x1 := b13.cell (i := 1) rfl
        go_wp2_with fail
        generalize w5.alloc (.cells #[.int .i64 (now + (ta % 30)), .slice a7 l.length c7] 24) = W5 at *
        generalize w5.heap.size = B13 at *
        have hS := bsame_eq (now + (ta % 30)) a5 a7 c5 c7 (l.map (later (now + (ta % 30)))) W5 s5 s7 (by rw [List.length_map]; omega)
        rw [List.length_map] at hS
        refine hS.mono ?_
        clear hS
        rintro _ w6 ⟨rfl, hE⟩
        have b2 := hE.blk b2
        have b7 := hE.blk b7
        have s3 := s3.ext hE
        have E6 := E5.trans hE
        clear hE E5 y0 y1 x0 x1
        have z0 := b2.cell (i := 0) rfl
        have z1 := b2.cell (i := 1) rfl
        go_wp2_with fail
        refine (next_any now a c l w6 hn hl (hs.ext E6) (by omega)).mono ?_
        have Hnx : Hid (nextP now l = nextL now l) := Lib.hid (by unfold nextP; rw [if_pos HP.out])
        rw [Hnx.out]
        have hst : ((nextL now l).2 = true → now + (ta % 30) < (nextL now l).1) → l.map (later (now + (ta % 30))) = l := still_later HP.out (by omega)
        have Hst := Lib.hid hst
        clear hst
        generalize nextL now l = N at *
        obtain ⟨nx, any⟩ := N
        rintro _ w7 ⟨rfl, hE⟩
        have b2 := hE.blk b2
        have b7 := hE.blk b7
        have s3 := s3.ext hE
        have E7 := E6.trans hE
        clear hE E6 z0 z1
        have y0 := b7.cell (i := 0) rfl
        have y1 := b7.cell (i := 1) rfl
        have yf := b7.free 0
        have z0 := b2.cell (i := 0) rfl
        have z1 := b2.cell (i := 1) rfl
        dsimp only
        by_cases hx : any = true ∧ nx ≤ now + (ta % 30)
        · obtain ⟨rfl, hx⟩ := hx
          go_wp2
          go_ret
          exact ⟨rfl, E7⟩
        · have hsame := Hst.out (fun h => by
            rcases Int.lt_or_le (now + (ta % 30)) nx with h' | h'
            · exact h'
            · exact absurd ⟨h, h'⟩ hx)
          rw [hsame] at s3
          clear hsame
          have hSm := fun w' hw hw' => bsame_eq now a3 a c3 c l w' hw hw' (by omega)
          have s9 := SlC.far s3 b7 (by simp) 0 (.int .i64 now)
          have s8 := SlC.far (hs.ext E7) b7 (by simp) 0 (.int .i64 now)
          have E8 : Ext W (w7.setCell ⟨B7, 0, none⟩ (.int .i64 now)) := E7.setC (by dsimp only; omega) _
          have hne : W.heap.size ≠ B7 := by omega
          have hSS := hSm _ s9 s8
          have HSS := Lib.hid hSS
          clear hSS hSm
          cases any
          · go_wp2_with fail
            refine HSS.out.mono ?_
            rintro _ w8 ⟨rfl, hE⟩
            go_wp2
            go_ret
            exact ⟨rfl, E8.trans hE⟩
          · have hx' : now + (ta % 30) < nx := by
              rcases Int.lt_or_le (now + (ta % 30)) nx with h' | h'
              · exact h'
              · exact absurd ⟨rfl, h'⟩ hx
            go_wp2_with fail
            refine HSS.out.mono ?_
            rintro _ w8 ⟨rfl, hE⟩
            go_wp2
            go_ret
            exact ⟨rfl, E8.trans hE⟩
      · by_cases hA : now + (ta % 30) ≤ 1099511627776
        · exact absurd hA hG
        · refine (pass_bad HP.out gA0 (by omega) (by omega) a c w2 hl (hs.ext E2) (by omega)).mono ?_
          rintro _ w3 ⟨a3, c3, a4, c4, rfl, hE⟩
          have EA := (Ext.refl w3).alloc (.cells #[.int .i64 0, .slice a3 0 c3] 24)
          have b2 := EA.blk (hE.blk b2)
          have E3 := E2.trans (hE.trans EA)
          clear hE EA E2 z0 z1
          go_wp2_with fail
          generalize w3.alloc (.cells #[.int .i64 0, .slice a3 0 c3] 24) = W3 at *
          refine (pass_nil (0 : Int) gB0 (by omega) a3 c3 W3).mono ?_
          rintro _ w4 ⟨a5, c5, a6, c6, rfl, hE⟩
          have EA := (Ext.refl w4).alloc (.cells #[.int .i64 (0 : Int), .slice a5 0 c5] 24)
          have b2 := EA.blk (hE.blk b2)
          have E4 := E3.trans (hE.trans EA)
          clear hE EA E3
          have z0 := b2.cell (i := 0) rfl
          have z1 := b2.cell (i := 1) rfl
          go_wp2_with fail
          generalize w4.alloc (.cells #[.int .i64 (0 : Int), .slice a5 0 c5] 24) = W4 at *
          refine (pass_bad HP.out (by omega) (by omega) (by omega) a c W4 hl (hs.ext E4) (by omega)).mono ?_
          rintro _ w5 ⟨a7, c7, a8, c8, rfl, hE⟩
          go_wp2
          go_ret
          exact ⟨rfl, (E4.trans hE).alloc _⟩
    · have gA : 0 ≤ (ta % 30) ∧ (ta % 30) < 30 := by omega
      have gB : 0 ≤ (tb % 30) ∧ (tb % 30) < 30 := by omega
      obtain ⟨gA0, gA1⟩ := gA
      obtain ⟨gB0, gB1⟩ := gB
      by_cases hG : now + (ta % 30) + (tb % 30) ≤ 1099511627776
      · have hn1 : I64 (now + (ta % 30)) := ⟨by omega, by omega⟩
        refine (pass_ok (t := (ta % 30)) (n' := now + (ta % 30)) (by omega) HP.out gA0 (by omega) a c w2 hl (hs.ext E2) (by omega)).mono ?_
        rintro _ w3 ⟨a3, c3, a4, c4, d1, hd1, rfl, s3, hE⟩
        have Hd1 := Lib.hid hd1
        clear hd1
        have hB7 := (hE.blk b2).lt
        have EA := (Ext.refl w3).alloc (.cells #[.int .i64 (now + (ta % 30)), .slice a3 l.length c3] 24)
        have b7 := Blk.new w3 #[.int .i64 (now + (ta % 30)), .slice a3 l.length c3] 24
        have b2 := EA.blk (hE.blk b2)
        have s3 := s3.ext EA
        have E3 := E2.trans (hE.trans EA)
        clear hE EA E2 z0 z1
        go_wp2_with fail
        generalize w3.alloc (.cells #[.int .i64 (now + (ta % 30)), .slice a3 l.length c3] 24) = W3 at *
        generalize w3.heap.size = B7 at *
        have hc3 := check_later (n := now + (ta % 30)) HP.out (by omega) (by omega)
        have hP2 := pass_ok (t := (tb % 30)) (n' := now + (ta % 30) + (tb % 30)) (by omega) hc3 gB0 hG a3 c3 W3 (ok_later _ hl) s3 (by rw [List.length_map]; omega)
        rw [List.length_map] at hP2
        refine hP2.mono ?_
        clear hP2 hc3
        rintro _ w4 ⟨a5, c5, a6, c6, d2, hd2, rfl, s5, hE⟩
        have Hd2 := Lib.hid hd2
        clear hd2
        have EA := (Ext.refl w4).alloc (.cells #[.int .i64 (now + (ta % 30) + (tb % 30)), .slice a5 l.length c5] 24)
        have b10 := Blk.new w4 #[.int .i64 (now + (ta % 30) + (tb % 30)), .slice a5 l.length c5] 24
        have b2 := EA.blk (hE.blk b2)
        have b7 := EA.blk (hE.blk b7)
        have s3 := s3.ext (hE.trans EA)
        have s5 := s5.ext EA
        have E4 := E3.trans (hE.trans EA)
        clear hE EA E3
        have z0 := b2.cell (i := 0) rfl
        have z1 := b2.cell (i := 1) rfl
        go_wp2_with fail
        generalize w4.alloc (.cells #[.int .i64 (now + (ta % 30) + (tb % 30)), .slice a5 l.length c5] 24) = W4 at *
        generalize w4.heap.size = B10 at *
        refine (pass_ok (n' := now + (ta % 30) + (tb % 30)) (by omega) HP.out (by omega) hG a c W4 hl (hs.ext E4) (by omega)).mono ?_
        rintro _ w5 ⟨a7, c7, a8, c8, d3, hd3, rfl, s7, hE⟩
        have hsum : d3 = d1 + d2 := by rw [hd3, Hd1.out, Hd2.out]; exact (down_sum (by omega) l).symm
        have hll : (l.map (later (now + (ta % 30)))).map (later (now + (ta % 30) + (tb % 30))) = l.map (later (now + (ta % 30) + (tb % 30))) := by
          rw [List.map_map]; exact List.map_congr_left (fun p _ => later_later (by omega) p)
        rw [hll] at s5
        have hd3' : d3 ≤ 100 := by have := List.length_filter_le (goesDown (now + (ta % 30) + (tb % 30))) l; rw [hd3]; unfold downOf; rw [List.length_map]; omega
        have hdI : ((d1 : Int) + (d2 : Int) != (d3 : Int)) = false := by rw [bne_eq_false_iff_eq]; omega
        have hdI2 : (d1 : Int) + (d2 : Int) ≤ 100 := by omega
        clear hd3 hll
        have Hsum := Lib.hid hsum
        clear hsum
        have EA := (Ext.refl w5).alloc (.cells #[.int .i64 (now + (ta % 30) + (tb % 30)), .slice a7 l.length c7] 24)
        have b13 := Blk.new w5 #[.int .i64 (now + (ta % 30) + (tb % 30)), .slice a7 l.length c7] 24
        have b2 := EA.blk (hE.blk b2)
        have b7 := EA.blk (hE.blk b7)
        have b10 := EA.blk (hE.blk b10)
        have s3 := s3.ext (hE.trans EA)
        have s5 := s5.ext (hE.trans EA)
        have s7 := s7.ext EA
        have E5 := E4.trans (hE.trans EA)
        clear hE EA E4 z0 z1
        have y0 := b10.cell (i := 0) rfl
        have y1 := b10.cell (i := 1) rfl
        have x0 := b13.cell (i := 0) rfl
        have x1 := b13.cell (i := 1) rfl
        go_wp2_with fail
        generalize w5.alloc (.cells #[.int .i64 (now + (ta % 30) + (tb % 30)), .slice a7 l.length c7] 24) = W5 at *
        generalize w5.heap.size = B13 at *
        have hS := bsame_eq (now + (ta % 30) + (tb % 30)) a5 a7 c5 c7 (l.map (later (now + (ta % 30) + (tb % 30)))) W5 s5 s7 (by rw [List.length_map]; omega)
        rw [List.length_map] at hS
        refine hS.mono ?_
        clear hS
        rintro _ w6 ⟨rfl, hE⟩
        have b2 := hE.blk b2
        have b7 := hE.blk b7
        have s3 := s3.ext hE
        have E6 := E5.trans hE
        clear hE E5 y0 y1 x0 x1
        have z0 := b2.cell (i := 0) rfl
        have z1 := b2.cell (i := 1) rfl
        go_wp2_with fail
        refine (next_any now a c l w6 hn hl (hs.ext E6) (by omega)).mono ?_
        have Hnx : Hid (nextP now l = nextL now l) := Lib.hid (by unfold nextP; rw [if_pos HP.out])
        rw [Hnx.out]
        have hst : ((nextL now l).2 = true → now + (ta % 30) < (nextL now l).1) → l.map (later (now + (ta % 30))) = l := still_later HP.out (by omega)
        have Hst := Lib.hid hst
        clear hst
        generalize nextL now l = N at *
        obtain ⟨nx, any⟩ := N
        rintro _ w7 ⟨rfl, hE⟩
        have b2 := hE.blk b2
        have b7 := hE.blk b7
        have s3 := s3.ext hE
        have E7 := E6.trans hE
        clear hE E6 z0 z1
        have y0 := b7.cell (i := 0) rfl
        have y1 := b7.cell (i := 1) rfl
        have yf := b7.free 0
        have z0 := b2.cell (i := 0) rfl
        have z1 := b2.cell (i := 1) rfl
        dsimp only
        by_cases hx : any = true ∧ nx ≤ now + (ta % 30)
        · obtain ⟨rfl, hx⟩ := hx
          go_wp2
          go_ret
          exact ⟨rfl, E7⟩
        · have hsame := Hst.out (fun h => by
            rcases Int.lt_or_le (now + (ta % 30)) nx with h' | h'
            · exact h'
            · exact absurd ⟨h, h'⟩ hx)
          rw [hsame] at s3
          clear hsame
          have hSm := fun w' hw hw' => bsame_eq now a3 a c3 c l w' hw hw' (by omega)
          have s9 := SlC.far s3 b7 (by simp) 0 (.int .i64 now)
          have s8 := SlC.far (hs.ext E7) b7 (by simp) 0 (.int .i64 now)
          have E8 : Ext W (w7.setCell ⟨B7, 0, none⟩ (.int .i64 now)) := E7.setC (by dsimp only; omega) _
          have hne : W.heap.size ≠ B7 := by omega
          have hSS := hSm _ s9 s8
          have HSS := Lib.hid hSS
          clear hSS hSm
          cases any
          · go_wp2_with fail
            refine HSS.out.mono ?_
            rintro _ w8 ⟨rfl, hE⟩
            go_wp2
            go_ret
            exact ⟨rfl, E8.trans hE⟩
          · have hx' : now + (ta % 30) < nx := by
              rcases Int.lt_or_le (now + (ta % 30)) nx with h' | h'
              · exact h'
              · exact absurd ⟨rfl, h'⟩ hx
            go_wp2_with fail
            refine HSS.out.mono ?_
            rintro _ w8 ⟨rfl, hE⟩
            go_wp2
            go_ret
            exact ⟨rfl, E8.trans hE⟩
      · by_cases hA : now + (ta % 30) ≤ 1099511627776
        · refine (pass_ok (t := (ta % 30)) (n' := now + (ta % 30)) (by omega) HP.out gA0 hA a c w2 hl (hs.ext E2) (by omega)).mono ?_
          rintro _ w3 ⟨a3, c3, a4, c4, d1, -, rfl, s3, hE⟩
          have EA := (Ext.refl w3).alloc (.cells #[.int .i64 (now + (ta % 30)), .slice a3 l.length c3] 24)
          have b2 := EA.blk (hE.blk b2)
          have s3 := s3.ext EA
          have E3 := E2.trans (hE.trans EA)
          clear hE EA E2 z0 z1
          go_wp2_with fail
          generalize w3.alloc (.cells #[.int .i64 (now + (ta % 30)), .slice a3 l.length c3] 24) = W3 at *
          have hP2 := pass_bad (check_later (n := now + (ta % 30)) HP.out (by omega) hA) gB0 (by omega) (by omega) a3 c3 W3 (ok_later _ hl) s3 (by rw [List.length_map]; omega)
          rw [List.length_map] at hP2
          refine hP2.mono ?_
          clear hP2 s3
          rintro _ w4 ⟨a5, c5, a6, c6, rfl, hE⟩
          have EA := (Ext.refl w4).alloc (.cells #[.int .i64 0, .slice a5 0 c5] 24)
          have b2 := EA.blk (hE.blk b2)
          have E4 := E3.trans (hE.trans EA)
          clear hE EA E3
          have z0 := b2.cell (i := 0) rfl
          have z1 := b2.cell (i := 1) rfl
          go_wp2_with fail
          generalize w4.alloc (.cells #[.int .i64 0, .slice a5 0 c5] 24) = W4 at *
          refine (pass_bad HP.out (by omega) (by omega) (by omega) a c W4 hl (hs.ext E4) (by omega)).mono ?_
          rintro _ w5 ⟨a7, c7, a8, c8, rfl, hE⟩
          go_wp2
          go_ret
          exact ⟨rfl, (E4.trans hE).alloc _⟩
        · refine (pass_bad HP.out gA0 (by omega) (by omega) a c w2 hl (hs.ext E2) (by omega)).mono ?_
          rintro _ w3 ⟨a3, c3, a4, c4, rfl, hE⟩
          have EA := (Ext.refl w3).alloc (.cells #[.int .i64 0, .slice a3 0 c3] 24)
          have b2 := EA.blk (hE.blk b2)
          have E3 := E2.trans (hE.trans EA)
          clear hE EA E2 z0 z1
          go_wp2_with fail
          generalize w3.alloc (.cells #[.int .i64 0, .slice a3 0 c3] 24) = W3 at *
          refine (pass_nil (tb % 30) gB0 (by omega) a3 c3 W3).mono ?_
          rintro _ w4 ⟨a5, c5, a6, c6, rfl, hE⟩
          have EA := (Ext.refl w4).alloc (.cells #[.int .i64 (tb % 30), .slice a5 0 c5] 24)
          have b2 := EA.blk (hE.blk b2)
          have E4 := E3.trans (hE.trans EA)
          clear hE EA E3
          have z0 := b2.cell (i := 0) rfl
          have z1 := b2.cell (i := 1) rfl
          go_wp2_with fail
          generalize w4.alloc (.cells #[.int .i64 (tb % 30), .slice a5 0 c5] 24) = W4 at *
          refine (pass_bad HP.out (by omega) (by omega) (by omega) a c W4 hl (hs.ext E4) (by omega)).mono ?_
          rintro _ w5 ⟨a7, c7, a8, c8, rfl, hE⟩
          go_wp2
          go_ret
          exact ⟨rfl, (E4.trans hE).alloc _⟩
end Go.Proofs.Ytabadcnpmfafnaa
