/- Part B12 of the proofs of these statements. No condition. -/
import Derived.Test.YtabadcnpmfafnaaB11
set_option linter.unusedVariables false
set_option linter.unusedSimpArgs false
namespace Go.Proofs.Ytabadcnpmfafnaa
open Go Go.RowKit J

theorem a1 : addP 0 [] 1 = (0, 0, [⟨1, 0, 0, 0⟩]) := by kernel_rfl
theorem a2 : hearP 0 [⟨1, 0, 0, 0⟩] 1 = (0, 0, [⟨1, 0, 1, 0⟩], false) := by kernel_rfl
theorem a3 : hearP 0 [⟨1, 0, 1, 0⟩] 1 = (0, 0, [⟨1, 0, 2, 0⟩], false) := by kernel_rfl
theorem a4 : hearP 0 [⟨1, 0, 2, 0⟩] 1 = (0, 0, [⟨1, 0, 3, 1⟩], true) := by kernel_rfl
theorem a5 : passP 0 10 [⟨1, 0, 3, 1⟩] = (0, 10, [⟨1, 0, 0, 3⟩], [1]) := by kernel_rfl
theorem i64_0 : I64 0 := ⟨by decide, by decide⟩
theorem i64_1 : I64 1 := ⟨by decide, by decide⟩
theorem i64_10 : I64 10 := ⟨by decide, by decide⟩
theorem okp {a b c d : Int} (ha : I64 a) (hb : I64 b) (hc : I64 c) (hd : I64 d) : ∀ p ∈ [(⟨a, b, c, d⟩ : Pu)], p.ok := by
  intro p hp
  simp at hp; subst hp; exact ⟨ha, hb, hc, hd⟩
theorem hear_step {gd st gd' st' : Int} {b : Bool} (h : hearP 0 [⟨1, 0, gd, st⟩] 1 = (0, 0, [⟨1, 0, gd', st'⟩], b)) (hg : I64 gd) (hs : I64 st) (a : Option Addr) (c : Nat) (w : World) (hc : SlC w 4 a ([⟨1, 0, gd, st⟩].map Pu.enc)) :
    Calls Try.prog 16 #[.agg #[.int .i64 0, .slice a 1 c], .int .i64 1] w fun e w' => ∃ a' c', e = .returned (.tuple #[.agg #[.int .i64 0, .slice a' 1 c'], .bool b, .int .i64 0]) ∧ SlC w' 4 a' ([⟨1, 0, gd', st'⟩].map Pu.enc) ∧ Ext w w' :=
  (hear_any 0 1 a c [⟨1, 0, gd, st⟩] w i64_0 i64_1 (okp i64_1 i64_0 hg hs) hc (by simp)).mono fun e w' hP => by
    unfold HearPost at hP
    rw [h] at hP
    obtain ⟨_, rfl, ⟨a', c', rfl, h1, -⟩, h2⟩ := hP
    exact ⟨a', c', rfl, h1, h2⟩
theorem add_step (w : World) : Calls Try.prog 14 #[.agg #[.int .i64 0, .slice none 0 0], .int .i64 1] w fun e w' => ∃ a' c', e = .returned (.tuple #[.agg #[.int .i64 0, .slice a' 1 c'], .int .i64 0]) ∧ SlC w' 4 a' ([⟨1, 0, 0, 0⟩].map Pu.enc) ∧ Ext w w' :=
  (add_any 0 1 none 0 [] w i64_0 i64_1 (by simp) (SlC.nil _ _ _) (by decide) (fun _ _ _ => rfl)).mono fun e w' hP => by
    unfold AddPost at hP
    rw [a1] at hP
    obtain ⟨_, rfl, ⟨a', c', rfl, h1, -⟩, h2⟩ := hP
    exact ⟨a', c', rfl, h1, h2⟩
theorem pass_step (a : Option Addr) (c : Nat) (w : World) (hc : SlC w 4 a ([⟨1, 0, 3, 1⟩].map Pu.enc)) :
    Calls Try.prog 10 #[.agg #[.int .i64 0, .slice a 1 c], .int .i64 10] w fun e w' => ∃ a' c' b o d, e = .returned (.tuple #[.agg #[.int .i64 10, .slice a' 1 c'], .slice (some ⟨b, o, none⟩) 1 d, .int .i64 0]) ∧ w'.cell? ⟨b, o, none⟩ = some (.int .i64 1) ∧ Ext w w' :=
  (pass_any 0 10 a c [⟨1, 0, 3, 1⟩] w i64_0 i64_10 (okp i64_1 i64_0 ⟨by decide, by decide⟩ i64_1) hc (by simp)).mono fun e w' hP => by
    unfold PassPost at hP
    rw [a5] at hP
    obtain ⟨_, _, rfl, ⟨a', c', rfl, h1, -⟩, ⟨a2, c2, rfl, h3, -⟩, h2⟩ := hP
    obtain ⟨-, b, o, rfl, h4⟩ := h3 0 [.int .i64 1] rfl
    exact ⟨a', c', b, o, c2, rfl, by simpa using h4 0 _ rfl, h2⟩
set_option maxRecDepth 20000 in
set_option maxHeartbeats 1000000 in
theorem wakes_any (w : World) : Calls Try.prog 8 #[] w fun e w' => e = .returned (.bool true) ∧ Ext w w' := by
  go_enter Try.func8, Try.ntmps8
  go_wp2_with fail
  refine (add_step w).mono ?_
  rintro _ w1 ⟨a, c, rfl, hs, hE⟩
  have b1 := Blk.new w1 #[.int .i64 0, .slice a 1 c] 24
  have hb1 : w.heap.size ≤ w1.heap.size := hE.size
  have hs := hs.ext ((Ext.refl w1).alloc (.cells #[.int .i64 0, .slice a 1 c] 24))
  have hE := hE.trans ((Ext.refl w1).alloc (.cells #[.int .i64 0, .slice a 1 c] 24))
  go_wp2_with fail
  generalize w1.alloc (.cells #[.int .i64 0, .slice a 1 c] 24) = W1 at *
  generalize w1.heap.size = B at *
  refine (hear_step a2 i64_0 i64_0 _ _ W1 hs).mono ?_
  rintro _ w2 ⟨a, c, rfl, hs2, hE2⟩
  have b2 := hE2.blk b1
  have E2 := hE.trans hE2
  have z0 := b2.cell (i := 0) rfl
  have z1 := b2.cell (i := 1) rfl
  have f0 := b2.free 0
  have f1 := b2.free 1
  have hs' := (hs2.far b2 (by simp) 0 (.int .i64 0)).far (b2.set 0 (.int .i64 0)) (by simp) 1 (.slice a 1 c)
  have hE' := (E2.setC (p := ⟨B, 0, none⟩) hb1 (.int .i64 0)).setC (p := ⟨B, 1, none⟩) hb1 (.slice a 1 c)
  have b1' := (b2.set 0 (.int .i64 0)).set 1 (.slice a 1 c)
  clear hE2 hs b1 hE E2 hs2
  go_wp2_with fail
  generalize (w2.setCell ⟨B, 0, none⟩ (.int .i64 0)).setCell ⟨B, 1, none⟩ (.slice a 1 c) = W2 at *
  clear z0 z1 f0 f1 b2
  have hs := hs'
  have hE := hE'
  have b1 := b1'
  clear hs' hE' b1'
  refine (hear_step a3 i64_1 i64_0 _ _ W2 hs).mono ?_
  rintro _ w2 ⟨a, c, rfl, hs2, hE2⟩
  have b2 := hE2.blk b1
  have E2 := hE.trans hE2
  have z0 := b2.cell (i := 0) rfl
  have z1 := b2.cell (i := 1) rfl
  have f0 := b2.free 0
  have f1 := b2.free 1
  have hs' := (hs2.far b2 (by simp) 0 (.int .i64 0)).far (b2.set 0 (.int .i64 0)) (by simp) 1 (.slice a 1 c)
  have hE' := (E2.setC (p := ⟨B, 0, none⟩) hb1 (.int .i64 0)).setC (p := ⟨B, 1, none⟩) hb1 (.slice a 1 c)
  have b1' := (b2.set 0 (.int .i64 0)).set 1 (.slice a 1 c)
  clear hE2 hs b1 hE E2 hs2
  go_wp2_with fail
  generalize (w2.setCell ⟨B, 0, none⟩ (.int .i64 0)).setCell ⟨B, 1, none⟩ (.slice a 1 c) = W3 at *
  clear z0 z1 f0 f1 b2
  have hs := hs'
  have hE := hE'
  have b1 := b1'
  clear hs' hE' b1'
  refine (hear_step a4 ⟨by decide, by decide⟩ i64_0 _ _ W3 hs).mono ?_
  rintro _ w2 ⟨a, c, rfl, hs2, hE2⟩
  have b2 := hE2.blk b1
  have E2 := hE.trans hE2
  have z0 := b2.cell (i := 0) rfl
  have z1 := b2.cell (i := 1) rfl
  have f0 := b2.free 0
  have f1 := b2.free 1
  have hs' := (hs2.far b2 (by simp) 0 (.int .i64 0)).far (b2.set 0 (.int .i64 0)) (by simp) 1 (.slice a 1 c)
  have hE' := (E2.setC (p := ⟨B, 0, none⟩) hb1 (.int .i64 0)).setC (p := ⟨B, 1, none⟩) hb1 (.slice a 1 c)
  have b1' := (b2.set 0 (.int .i64 0)).set 1 (.slice a 1 c)
  clear hE2 hs b1 hE E2 hs2
  go_wp2_with fail
  generalize (w2.setCell ⟨B, 0, none⟩ (.int .i64 0)).setCell ⟨B, 1, none⟩ (.slice a 1 c) = W4 at *
  clear z0 z1 f0 f1 b2
  have hs := hs'
  have hE := hE'
  have b1 := b1'
  clear hs' hE' b1'
  refine (pass_step _ _ W4 hs).mono ?_
  rintro _ w2 ⟨a, c, b, o, d, rfl, hc, hE2⟩
  have hc2 := ((Ext.refl w2).alloc (.cells #[.int .i64 10, .slice a 1 c] 24)).cell hc
  go_wp2
  go_ret
  exact ⟨rfl, (hE.trans hE2).alloc _⟩
end Go.Proofs.Ytabadcnpmfafnaa
