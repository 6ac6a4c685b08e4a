/- Part T2 of the proofs of these statements. No condition. -/
import Derived.Test.YtabadcnpmfafnaaRows
import Derived.Test.YtabadcnpmfafnaaR5
import Derived.ChangeOld
import Derived.ShutString
set_option linter.unusedVariables false
set_option linter.unusedSimpArgs false
namespace Go.Proofs.Ytabadcnpmfafnaa
open Go Go.RowKit J

/-- How a watch reads. -/
theorem reads_watch {W : World} {v : Value} (h : Reads Try.prog W 24 v) :
    ∃ (now : Int) (a : Option Addr) (c : Nat) (l : List Pu), v = .agg #[.int .i64 now, .slice a l.length c] ∧ I64 now ∧ (∀ p ∈ l, p.ok) ∧ SlC W 4 a (l.map Pu.enc) ∧ l.length ≤ c ∧ c ≤ maxLen := by
  obtain ⟨cs, rfl, hr⟩ := h.agg Try.underlying24
  obtain ⟨h1, h2⟩ := hr.struct Try.underlying24
  have hc : Try.prog.cellsOf 24 = 2 := by kernel_rfl
  have hc2 : Try.prog.cellsOf 2 = 1 := by kernel_rfl
  have hc3 : Try.prog.cellsOf 22 = 1 := by kernel_rfl
  rw [hc] at h1
  match cs, h1 with
  | [x, y], _ =>
    simp only [List.forall_mem_cons, List.mem_cons, List.not_mem_nil, or_false, forall_eq_or_imp, forall_eq] at h2
    obtain ⟨h3, h4⟩ := h2
    rw [hc2] at h3
    rw [hc3] at h4
    obtain ⟨n, hn, hw⟩ := RdC.int h3 Try.underlying2
    obtain ⟨a, cap, css, he, hl1, hl2, hs, hcs⟩ := RdC.slice h4 Try.underlying22 (k := 4) (by kernel_rfl) (by decide)
    simp at hn he
    subst hn he
    have key : ∀ css : List (List Value), (∀ c ∈ css, RdC Try.prog W 40 c) → ∃ l : List Pu, css = l.map Pu.enc ∧ ∀ p ∈ l, p.ok := by
      intro css
      induction css with
      | nil => intro _; exact ⟨[], rfl, fun p hp => by cases hp⟩
      | cons c css ih =>
        intro hall
        obtain ⟨l, rfl, hl⟩ := ih (fun c hc => hall c (List.mem_cons_of_mem _ hc))
        have hf := (hall c (by simp)).flat (n := 2) (ks := [.i .i64, .i .i64, .i .i64, .i .i64]) (by kernel_rfl)
        obtain ⟨x0, x1, x2, x3, rfl⟩ : ∃ x0 x1 x2 x3, c = [x0, x1, x2, x3] := by
          have h4 := hf.length
          match c, h4 with
          | [x0, x1, x2, x3], _ => exact ⟨x0, x1, x2, x3, rfl⟩
        obtain ⟨⟨n1, e1, w1⟩, ⟨n2, e2, w2⟩, ⟨n3, e3, w3⟩, ⟨n4, e4, w4⟩, _⟩ := hf
        subst e1 e2 e3 e4
        refine ⟨⟨n1, n2, n3, n4⟩ :: l, rfl, fun p hp => ?_⟩
        rcases List.mem_cons.1 hp with rfl | hp
        · exact ⟨wf_i64 w1, wf_i64 w2, wf_i64 w3, wf_i64 w4⟩
        · exact hl p hp
    obtain ⟨l, rfl, hok⟩ := key css hcs
    exact ⟨n, a, cap, l, by rw [List.length_map], wf_i64 hw, hok, hs, by simpa using hl1, hl2⟩

theorem wtv_pass {now ticks : Int} {l : List Pu} {w w' : World} {e : Ending} (h : PassPost now ticks l w e w') : ∃ (now' : Int) (a' : Option Addr) (c' : Nat) (l' : List Pu) (ds : List Int) (a2 : Option Addr) (c2 : Nat) (code : Int), passP now ticks l = (code, now', l', ds) ∧ e = .returned (.tuple #[.agg #[.int .i64 now', .slice a' l'.length c'], .slice a2 ds.length c2, .int .i64 code]) ∧
    SlC w' 4 a' (l'.map Pu.enc) ∧ SlC w' 1 a2 (encI ds) ∧ Ext w w' := by
  unfold PassPost at h
  obtain ⟨vw, vd, rfl, ⟨a', c', rfl, h1, -⟩, ⟨a2, c2, rfl, h2, -⟩, h3⟩ := h
  exact ⟨_, a', c', _, _, a2, c2, _, rfl, rfl, h1, h2, h3⟩
theorem pass_len (now ticks : Int) (l : List Pu) : (passP now ticks l).2.2.1.length ≤ l.length ∧ (passP now ticks l).2.2.2.length ≤ l.length := by
  unfold passP
  split
  · simp
  · split
    · simp
    · refine ⟨by simp, ?_⟩
      unfold downOf
      rw [List.length_map]
      exact List.length_filter_le _ _

set_option maxRecDepth 20000 in
set_option maxHeartbeats 2000000 in
theorem passes_any (now ticks : Int) (a : Option Addr) (c : Nat) (l : List Pu) (W : World) (hn : I64 now) (ht : I64 ticks) (hl : ∀ p ∈ l, p.ok) (hs : SlC W 4 a (l.map Pu.enc)) :
    Calls Try.prog 3 #[.agg #[.int .i64 now, .slice a l.length c], .int .i64 ticks] W fun e w' => e = .returned (.bool true) ∧ Ext W w' := by
  have E0 := (Ext.refl W).alloc (.cells #[.int .i64 now, .slice a l.length c] 24)
  have b0 := Blk.new W #[.int .i64 now, .slice a l.length c] 24
  go_enter Try.func3, Try.ntmps3
  go_wp2_with fail
  generalize W.alloc (.cells #[.int .i64 now, .slice a l.length c] 24) = W0 at *
  refine (wakes_any W0).mono ?_
  rintro _ w1 ⟨rfl, hE⟩
  have b1 := hE.blk b0
  have E1 := E0.trans hE
  have z0 := b1.cell (i := 0) rfl
  have z1 := b1.cell (i := 1) rfl
  clear hE
  by_cases hbig : 100 < l.length
  · have hb : (100 : Int) < l.length := by omega
    go_wp2
    go_ret
    exact ⟨rfl, E1⟩
  · have hb : (l.length : Int) ≤ 100 := by omega
    go_wp2_with fail
    refine (copied_any now a c l w1 (hs.ext E1) (by omega)).mono ?_
    rintro _ w2 ⟨a2, c2, rfl, O2, hE⟩
    have E2 := (E1.trans hE).alloc (.cells #[.int .i64 now, .slice a2 l.length c2] 24)
    have EA := (Ext.refl w2).alloc (.cells #[.int .i64 now, .slice a2 l.length c2] 24)
    have s2 := O2.slc.ext EA
    have b5 := Blk.new w2 #[.int .i64 now, .slice a2 l.length c2] 24
    have b1 := EA.blk (hE.blk b1)
    clear hE EA O2 E1
    go_wp2_with fail
    generalize w2.alloc (.cells #[.int .i64 now, .slice a2 l.length c2] 24) = W3 at *
    generalize w2.heap.size = B5 at *
    refine (pass_any now ticks a2 c2 l W3 hn ht hl s2 (by omega)).mono ?_
    intro e w4 hP
    obtain ⟨now', a3, c3, l', ds, a4, c4, code, hpp, rfl, s3, d3, hE⟩ := wtv_pass hP
    clear hP
    have hln := pass_len now ticks l
    rw [hpp] at hln
    obtain ⟨hl1, hl2⟩ := hln
    dsimp only at hl1 hl2
    have Hpp := Lib.hid hpp
    clear hpp
    have EA := (Ext.refl w4).alloc (.cells #[.int .i64 now', .slice a3 l'.length c3] 24)
    have b6 := Blk.new w4 #[.int .i64 now', .slice a3 l'.length c3] 24
    have b1 := EA.blk (hE.blk b1)
    have b5 := EA.blk (hE.blk b5)
    have s2 := s2.ext (hE.trans EA)
    have s3 := s3.ext EA
    have d3 := d3.ext EA
    have E4 := E2.trans (hE.trans EA)
    clear hE EA E2
    have z0 := b1.cell (i := 0) rfl
    have z1 := b1.cell (i := 1) rfl
    go_wp2_with fail
    generalize w4.alloc (.cells #[.int .i64 now', .slice a3 l'.length c3] 24) = W5 at *
    generalize w4.heap.size = B6 at *
    refine (refpass_any now ticks a c l W5 hn ht hl (hs.ext E4) (by omega)).mono ?_
    intro e w6 hP
    obtain ⟨now'', a5, c5, l'', ds', a6, c6, code', hpp, rfl, s5, d5, hE⟩ := wtv_pass hP
    rw [Hpp.out] at hpp
    injection hpp with e1 hpp
    injection hpp with e2 hpp
    injection hpp with e3 e4
    subst e1 e2 e3 e4
    clear hP
    have EA := (Ext.refl w6).alloc (.cells #[.int .i64 now', .slice a5 l'.length c5] 24)
    have b9 := Blk.new w6 #[.int .i64 now', .slice a5 l'.length c5] 24
    have b1 := EA.blk (hE.blk b1)
    have b5 := EA.blk (hE.blk b5)
    have b6 := EA.blk (hE.blk b6)
    have s2 := s2.ext (hE.trans EA)
    have s3 := s3.ext (hE.trans EA)
    have d3 := d3.ext (hE.trans EA)
    have s5 := s5.ext EA
    have d5 := d5.ext EA
    have E6 := E4.trans (hE.trans EA)
    clear hE EA E4 z0 z1
    have x0 := b6.cell (i := 0) rfl
    have x1 := b6.cell (i := 1) rfl
    have y0 := b9.cell (i := 0) rfl
    have y1 := b9.cell (i := 1) rfl
    go_wp2_with fail
    generalize w6.alloc (.cells #[.int .i64 now', .slice a5 l'.length c5] 24) = W7 at *
    generalize w6.heap.size = B9 at *
    refine (refsame_eq now' a3 a5 c3 c5 l' W7 s3 s5 (by omega)).mono ?_
    rintro _ w8 ⟨rfl, hE⟩
    have d3 := d3.ext hE
    have d5 := d5.ext hE
    have s2 := s2.ext hE
    have b1 := hE.blk b1
    have b5 := hE.blk b5
    have E8 := E6.trans hE
    clear hE E6 x0 x1 y0 y1
    go_wp2_with fail
    refine (same_eq a4 a6 c4 c6 ds w8 d3 d5 (by omega)).mono ?_
    rintro _ w9 ⟨rfl, hE⟩
    have s2 := s2.ext hE
    have b1 := hE.blk b1
    have b5 := hE.blk b5
    have E9 := E8.trans hE
    clear hE E8
    have z0 := b1.cell (i := 0) rfl
    have z1 := b1.cell (i := 1) rfl
    have y0 := b5.cell (i := 0) rfl
    have y1 := b5.cell (i := 1) rfl
    go_wp2_with fail
    refine (refsame_eq now a2 a c2 c l w9 s2 (hs.ext E9) (by omega)).mono ?_
    rintro _ w10 ⟨rfl, hE⟩
    go_wp2
    go_ret
    exact ⟨rfl, E9.trans hE⟩
end Go.Proofs.Ytabadcnpmfafnaa
