/- Part R3 of the proofs of these statements. No condition. -/
import Derived.Test.YtabadcnpmfafnaaR2
set_option linter.unusedVariables false
set_option linter.unusedSimpArgs false
namespace Go.Proofs.Ytabadcnpmfafnaa
open Go Go.RowKit J

theorem intime_v (now a b c d : Int) (v : Bool) (w : World) (hn0 : 0 ≤ now) (hn : now ≤ 1099511627776) (hb : I64 b) (hb0 : 0 ≤ b) (h : decide (now - b ≤ 4) = v) :
    Calls Try.prog 30 #[.int .i64 now, .agg #[.int .i64 a, .int .i64 b, .int .i64 c, .int .i64 d]] w fun e w' => e = .returned (.bool v) ∧ Ext w w' := by
  subst h
  unfold I64 at hb
  go_enter Try.func30, Try.ntmps30
  go_wp2
  go_ret
  exact ⟨rfl, by repeat (first | exact Ext.refl _ | assumption | apply Ext.alloc | apply Ext.drewN | apply Ext.drew)⟩
theorem isgone_v (now a b c d : Int) (v : Bool) (w : World) (hn0 : 0 ≤ now) (hn : now ≤ 1099511627776) (hb : I64 b) (hb0 : 0 ≤ b) (h : decide (9 < now - b) = v) :
    Calls Try.prog 31 #[.int .i64 now, .agg #[.int .i64 a, .int .i64 b, .int .i64 c, .int .i64 d]] w fun e w' => e = .returned (.bool v) ∧ Ext w w' := by
  subst h
  unfold I64 at hb
  go_enter Try.func31, Try.ntmps31
  go_wp2
  go_ret
  exact ⟨rfl, by repeat (first | exact Ext.refl _ | assumption | apply Ext.alloc | apply Ext.drewN | apply Ext.drew)⟩

theorem later_any (now : Int) (p : Pu) (w : World) (hn0 : 0 ≤ now) (hn : now ≤ 1099511627776) (hb : I64 p.h) (hb0 : 0 ≤ p.h) :
    Calls Try.prog 35 #[.int .i64 now, .agg #[.int .i64 p.n, .int .i64 p.h, .int .i64 p.g, .int .i64 p.s]] w fun e w' => e = .returned (.agg #[.int .i64 (later now p).n, .int .i64 (later now p).h, .int .i64 (later now p).g, .int .i64 (later now p).s]) ∧ Ext w w' := by
  obtain ⟨a, b, c, d⟩ := p
  dsimp only at *
  have EA := ((Ext.refl w).alloc (.cells #[.int .i64 a, .int .i64 b, .int .i64 c, .int .i64 d] 40)).alloc (.cells #[.int .i64 0, .int .i64 0, .int .i64 0, .int .i64 0] 40)
  have b3 := (Blk.new w #[.int .i64 a, .int .i64 b, .int .i64 c, .int .i64 d] 40).alloc (.cells #[.int .i64 0, .int .i64 0, .int .i64 0, .int .i64 0] 40)
  have b4 := Blk.new (w.alloc (.cells #[.int .i64 a, .int .i64 b, .int .i64 c, .int .i64 d] 40)) #[.int .i64 0, .int .i64 0, .int .i64 0, .int .i64 0] 40
  simp only [World.size_alloc] at b4
  go_enter Try.func35, Try.ntmps35
  have hz : w.heap.size = w.heap.size := rfl
  by_cases h4 : now - b ≤ 4
  · have hl : later now ⟨a, b, c, d⟩ = ⟨a, b, c, d⟩ := by unfold later; rw [if_neg (by dsimp only; omega), if_neg (by dsimp only; omega)]
    rw [hl]
    clear hl
    go_wp2_with fail
    refine (intime_v now a b c d true _ hn0 hn hb hb0 (by simpa using h4)).mono ?_
    rintro _ w1 ⟨rfl, hE⟩
    have b3 := hE.blk b3
    have b4 := hE.blk b4
    have E1 := EA.trans hE
    have z0 := b3.cell (i := 0) rfl
    have z1 := b3.cell (i := 1) rfl
    have z2 := b3.cell (i := 2) rfl
    have z3 := b3.cell (i := 3) rfl
    have y0 := b4.cell (i := 0) rfl
    have y1 := b4.cell (i := 1) rfl
    have y2 := b4.cell (i := 2) rfl
    have y3 := b4.cell (i := 3) rfl
    have f0 := b4.free 0
    have f1 := b4.free 1
    have f2 := b4.free 2
    have f3 := b4.free 3
    go_wp2
    have b9 := (((b4.set 0 (.int .i64 a)).set 1 (.int .i64 b)).set 2 (.int .i64 c)).set 3 (.int .i64 d)
    exact ⟨rfl, .agg #[.int .i64 a, .int .i64 b, .int .i64 c, .int .i64 d], by simp [results, Try.f35, go_sem, b9.cell (i := 0) rfl, b9.cell (i := 1) rfl, b9.cell (i := 2) rfl, b9.cell (i := 3) rfl], rfl, (((E1.setC (p := ⟨w.heap.size + 1, 0, none⟩) (by dsimp only; omega) (.int .i64 a)).setC (p := ⟨w.heap.size + 1, 1, none⟩) (by dsimp only; omega) (.int .i64 b)).setC (p := ⟨w.heap.size + 1, 2, none⟩) (by dsimp only; omega) (.int .i64 c)).setC (p := ⟨w.heap.size + 1, 3, none⟩) (by dsimp only; omega) (.int .i64 d)⟩
  by_cases h9 : 9 < now - b
  · have hl : later now ⟨a, b, c, d⟩ = ⟨a, b, 0, 3⟩ := by unfold later; rw [if_pos h9]
    rw [hl]
    clear hl
    go_wp2_with fail
    refine (intime_v now a b c d false _ hn0 hn hb hb0 (by simpa using h4)).mono ?_
    rintro _ w1 ⟨rfl, hE⟩
    have b3 := hE.blk b3
    have b4 := hE.blk b4
    have E1 := EA.trans hE
    have z0 := b3.cell (i := 0) rfl
    have z1 := b3.cell (i := 1) rfl
    have z2 := b3.cell (i := 2) rfl
    have z3 := b3.cell (i := 3) rfl
    have x0 := b3.free 0
    have x1 := b3.free 1
    have x2 := b3.free 2
    have x3 := b3.free 3
    have y0 := b4.cell (i := 0) rfl
    have y1 := b4.cell (i := 1) rfl
    have y2 := b4.cell (i := 2) rfl
    have y3 := b4.cell (i := 3) rfl
    have f0 := b4.free 0
    have f1 := b4.free 1
    have f2 := b4.free 2
    have f3 := b4.free 3
    go_wp2_with fail
    have b3 := b3.set 2 (.int .i64 0)
    have b4 := b4.other (a := ⟨w.heap.size, 2, none⟩) (by simp) (.int .i64 0)
    have E1 := E1.setC (p := ⟨w.heap.size, 2, none⟩) (Nat.le_refl _) (.int .i64 0)
    generalize w1.setCell ⟨w.heap.size, 2, none⟩ (.int .i64 0) = W1 at *
    clear z0 z1 z2 z3 x0 x1 x2 x3 y0 y1 y2 y3 f0 f1 f2 f3 hE
    refine (isgone_v now a b 0 d true _ hn0 hn hb hb0 (by simpa using h9)).mono ?_
    rintro _ w2 ⟨rfl, hE⟩
    have b3 := hE.blk b3
    have b4 := hE.blk b4
    have E1 := E1.trans hE
    have z0 := b3.cell (i := 0) rfl
    have z1 := b3.cell (i := 1) rfl
    have z2 := b3.cell (i := 2) rfl
    have z3 := b3.cell (i := 3) rfl
    have x0 := b3.free 0
    have x1 := b3.free 1
    have x2 := b3.free 2
    have x3 := b3.free 3
    have y0 := b4.cell (i := 0) rfl
    have y1 := b4.cell (i := 1) rfl
    have y2 := b4.cell (i := 2) rfl
    have y3 := b4.cell (i := 3) rfl
    have f0 := b4.free 0
    have f1 := b4.free 1
    have f2 := b4.free 2
    have f3 := b4.free 3
    go_wp2
    have b4 := b4.other (a := ⟨w.heap.size, 3, none⟩) (by simp) (.int .i64 3)
    have E1 := E1.setC (p := ⟨w.heap.size, 3, none⟩) (Nat.le_refl _) (.int .i64 3)
    have b9 := (((b4.set 0 (.int .i64 a)).set 1 (.int .i64 b)).set 2 (.int .i64 0)).set 3 (.int .i64 3)
    exact ⟨rfl, .agg #[.int .i64 a, .int .i64 b, .int .i64 0, .int .i64 3], by simp [results, Try.f35, go_sem, b9.cell (i := 0) rfl, b9.cell (i := 1) rfl, b9.cell (i := 2) rfl, b9.cell (i := 3) rfl], rfl, (((E1.setC (p := ⟨w.heap.size + 1, 0, none⟩) (by dsimp only; omega) (.int .i64 a)).setC (p := ⟨w.heap.size + 1, 1, none⟩) (by dsimp only; omega) (.int .i64 b)).setC (p := ⟨w.heap.size + 1, 2, none⟩) (by dsimp only; omega) (.int .i64 0)).setC (p := ⟨w.heap.size + 1, 3, none⟩) (by dsimp only; omega) (.int .i64 3)⟩
  by_cases hd : d = 1
  · subst hd
    have hl : later now ⟨a, b, c, 1⟩ = ⟨a, b, 0, 2⟩ := by unfold later; rw [if_neg h9, if_pos (by dsimp only; omega)]; rfl
    rw [hl]
    clear hl
    go_wp2_with fail
    refine (intime_v now a b c 1 false _ hn0 hn hb hb0 (by simpa using h4)).mono ?_
    rintro _ w1 ⟨rfl, hE⟩
    have b3 := hE.blk b3
    have b4 := hE.blk b4
    have E1 := EA.trans hE
    have z0 := b3.cell (i := 0) rfl
    have z1 := b3.cell (i := 1) rfl
    have z2 := b3.cell (i := 2) rfl
    have z3 := b3.cell (i := 3) rfl
    have x0 := b3.free 0
    have x1 := b3.free 1
    have x2 := b3.free 2
    have x3 := b3.free 3
    have y0 := b4.cell (i := 0) rfl
    have y1 := b4.cell (i := 1) rfl
    have y2 := b4.cell (i := 2) rfl
    have y3 := b4.cell (i := 3) rfl
    have f0 := b4.free 0
    have f1 := b4.free 1
    have f2 := b4.free 2
    have f3 := b4.free 3
    go_wp2_with fail
    have b3 := b3.set 2 (.int .i64 0)
    have b4 := b4.other (a := ⟨w.heap.size, 2, none⟩) (by simp) (.int .i64 0)
    have E1 := E1.setC (p := ⟨w.heap.size, 2, none⟩) (Nat.le_refl _) (.int .i64 0)
    generalize w1.setCell ⟨w.heap.size, 2, none⟩ (.int .i64 0) = W1 at *
    clear z0 z1 z2 z3 x0 x1 x2 x3 y0 y1 y2 y3 f0 f1 f2 f3 hE
    refine (isgone_v now a b 0 1 false _ hn0 hn hb hb0 (by simpa using h9)).mono ?_
    rintro _ w2 ⟨rfl, hE⟩
    have b3 := hE.blk b3
    have b4 := hE.blk b4
    have E1 := E1.trans hE
    have z0 := b3.cell (i := 0) rfl
    have z1 := b3.cell (i := 1) rfl
    have z2 := b3.cell (i := 2) rfl
    have z3 := b3.cell (i := 3) rfl
    have x0 := b3.free 0
    have x1 := b3.free 1
    have x2 := b3.free 2
    have x3 := b3.free 3
    have y0 := b4.cell (i := 0) rfl
    have y1 := b4.cell (i := 1) rfl
    have y2 := b4.cell (i := 2) rfl
    have y3 := b4.cell (i := 3) rfl
    have f0 := b4.free 0
    have f1 := b4.free 1
    have f2 := b4.free 2
    have f3 := b4.free 3
    go_wp2
    have b4 := b4.other (a := ⟨w.heap.size, 3, none⟩) (by simp) (.int .i64 2)
    have E1 := E1.setC (p := ⟨w.heap.size, 3, none⟩) (Nat.le_refl _) (.int .i64 2)
    have b9 := (((b4.set 0 (.int .i64 a)).set 1 (.int .i64 b)).set 2 (.int .i64 0)).set 3 (.int .i64 2)
    exact ⟨rfl, .agg #[.int .i64 a, .int .i64 b, .int .i64 0, .int .i64 2], by simp [results, Try.f35, go_sem, b9.cell (i := 0) rfl, b9.cell (i := 1) rfl, b9.cell (i := 2) rfl, b9.cell (i := 3) rfl], rfl, (((E1.setC (p := ⟨w.heap.size + 1, 0, none⟩) (by dsimp only; omega) (.int .i64 a)).setC (p := ⟨w.heap.size + 1, 1, none⟩) (by dsimp only; omega) (.int .i64 b)).setC (p := ⟨w.heap.size + 1, 2, none⟩) (by dsimp only; omega) (.int .i64 0)).setC (p := ⟨w.heap.size + 1, 3, none⟩) (by dsimp only; omega) (.int .i64 2)⟩
  · have hd' : (d == 1) = false := by simpa using hd
    have hl : later now ⟨a, b, c, d⟩ = ⟨a, b, 0, d⟩ := by unfold later; rw [if_neg h9, if_pos (by dsimp only; omega)]; simp [hd]
    rw [hl]
    clear hl
    go_wp2_with fail
    refine (intime_v now a b c d false _ hn0 hn hb hb0 (by simpa using h4)).mono ?_
    rintro _ w1 ⟨rfl, hE⟩
    have b3 := hE.blk b3
    have b4 := hE.blk b4
    have E1 := EA.trans hE
    have z0 := b3.cell (i := 0) rfl
    have z1 := b3.cell (i := 1) rfl
    have z2 := b3.cell (i := 2) rfl
    have z3 := b3.cell (i := 3) rfl
    have x0 := b3.free 0
    have x1 := b3.free 1
    have x2 := b3.free 2
    have x3 := b3.free 3
    have y0 := b4.cell (i := 0) rfl
    have y1 := b4.cell (i := 1) rfl
    have y2 := b4.cell (i := 2) rfl
    have y3 := b4.cell (i := 3) rfl
    have f0 := b4.free 0
    have f1 := b4.free 1
    have f2 := b4.free 2
    have f3 := b4.free 3
    go_wp2_with fail
    have b3 := b3.set 2 (.int .i64 0)
    have b4 := b4.other (a := ⟨w.heap.size, 2, none⟩) (by simp) (.int .i64 0)
    have E1 := E1.setC (p := ⟨w.heap.size, 2, none⟩) (Nat.le_refl _) (.int .i64 0)
    generalize w1.setCell ⟨w.heap.size, 2, none⟩ (.int .i64 0) = W1 at *
    clear z0 z1 z2 z3 x0 x1 x2 x3 y0 y1 y2 y3 f0 f1 f2 f3 hE
    refine (isgone_v now a b 0 d false _ hn0 hn hb hb0 (by simpa using h9)).mono ?_
    rintro _ w2 ⟨rfl, hE⟩
    have b3 := hE.blk b3
    have b4 := hE.blk b4
    have E1 := E1.trans hE
    have z0 := b3.cell (i := 0) rfl
    have z1 := b3.cell (i := 1) rfl
    have z2 := b3.cell (i := 2) rfl
    have z3 := b3.cell (i := 3) rfl
    have x0 := b3.free 0
    have x1 := b3.free 1
    have x2 := b3.free 2
    have x3 := b3.free 3
    have y0 := b4.cell (i := 0) rfl
    have y1 := b4.cell (i := 1) rfl
    have y2 := b4.cell (i := 2) rfl
    have y3 := b4.cell (i := 3) rfl
    have f0 := b4.free 0
    have f1 := b4.free 1
    have f2 := b4.free 2
    have f3 := b4.free 3
    go_wp2
    have b9 := (((b4.set 0 (.int .i64 a)).set 1 (.int .i64 b)).set 2 (.int .i64 0)).set 3 (.int .i64 d)
    exact ⟨rfl, .agg #[.int .i64 a, .int .i64 b, .int .i64 0, .int .i64 d], by simp [results, Try.f35, go_sem, b9.cell (i := 0) rfl, b9.cell (i := 1) rfl, b9.cell (i := 2) rfl, b9.cell (i := 3) rfl], rfl, (((E1.setC (p := ⟨w.heap.size + 1, 0, none⟩) (by dsimp only; omega) (.int .i64 a)).setC (p := ⟨w.heap.size + 1, 1, none⟩) (by dsimp only; omega) (.int .i64 b)).setC (p := ⟨w.heap.size + 1, 2, none⟩) (by dsimp only; omega) (.int .i64 0)).setC (p := ⟨w.heap.size + 1, 3, none⟩) (by dsimp only; omega) (.int .i64 d)⟩
end Go.Proofs.Ytabadcnpmfafnaa
