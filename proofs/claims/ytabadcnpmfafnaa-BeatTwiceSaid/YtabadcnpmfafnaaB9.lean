/- Part B9 of the proofs of these statements. No condition. -/
import Derived.Test.YtabadcnpmfafnaaB8
set_option linter.unusedVariables false
set_option linter.unusedSimpArgs false
namespace Go.Proofs.Ytabadcnpmfafnaa
open Go Go.RowKit J

set_option maxRecDepth 20000 in
set_option maxHeartbeats 1000000 in
/-- Insert of one row behind the last one. -/
theorem insert_end (W : World) (base : Nat) (a A : Option Addr) (c : Nat) (css : List (List Value)) (cs : List Value) (ho : OwnL W base 40 4 (.slice a css.length c) css) (hs : SlC W 4 A [cs]) (h1 : ∀ u ∈ cs, u.oneCell' = true) (hlen : css.length ≤ 1000) (hb : base ≤ W.heap.size) :
    Calls Try.prog 38 #[.slice a css.length c, .int .i64 css.length, .slice A 1 1] W fun e W' => ∃ v, e = .returned v ∧ OwnL W' base 40 4 v (css ++ [cs]) ∧ W.grownBy W' (Value.slice a css.length c).ownBlock := by
  obtain ⟨a', c', he, hc1, hc2⟩ := ho.form
  cases he
  unfold maxLen at hc2
  rcases Nat.lt_or_ge css.length c with hcc | hcc
  rotate_left
  obtain rfl : css.length = c := by omega
  all_goals go_enter Try.func38, Try.ntmps38
  all_goals go_wp2_with (at_builtin; refine wpl_append rfl _ _ 22 rfl elemT_22 base rfl ho (news := [cs]) rfl rfl hs (by simpa using h1) (by simp; omega) (by decide) hb ?_; intro v' W' ho' hg')
  all_goals
    go_ret
    exact ⟨v', rfl, ho', hg'⟩

def addL (now : Int) (l : List Pu) (x : Int) : List Pu := l.take (posN l x) ++ [⟨x, now, 0, 0⟩] ++ l.drop (posN l x)
/-- What Add's closure does. -/
def addS (now : Int) (l : List Pu) (x : Int) (code now' : Int) (l' : List Pu) (_ : World) : Prop :=
  (code = 2 ∧ (x < 1 ∨ 8 < x)) ∨ (code = 5 ∧ 1 ≤ x ∧ x ≤ 8 ∧ foundN l x = true) ∨ (code = 0 ∧ 1 ≤ x ∧ x ≤ 8 ∧ foundN l x = false ∧ now' = now ∧ l' = addL now l x)

set_option maxRecDepth 20000 in
set_option maxHeartbeats 1000000 in
theorem add1_any (now x : Int) (l : List Pu) (bw base B3 : Nat) (v : Value) (W : World) (hn : CheckP now l) (hx : I64 x) (hl : ∀ p ∈ l, p.ok) (hlen : l.length ≤ 100)
    (hpos : foundN l x = false → 1 ≤ x → x ≤ 8 → posN l x = l.length)
    (hB : Blk W bw 24 #[.int .i64 now, v]) (hO : OwnL W base 40 4 v (l.map Pu.enc)) (hb : bw < base) (hbs : base ≤ W.heap.size) (h3 : B3 < bw)
    (c3 : Blk W B3 3 #[.int .i64 x]) :
    Calls Try.prog 36 #[.pointer (some ⟨bw, 0, none⟩), .pointer (some ⟨B3, 0, none⟩)] W (DoesPost bw bw base (addS now l x) W) := by
  unfold I64 at hx
  obtain ⟨a, c, rfl, hc1, hc2⟩ := hO.form
  rw [List.length_map] at *
  have w0 := cell_gw (hB.cell (i := 0) rfl)
  have w1 := cell_gw (hB.cell (i := 1) rfl)
  have t0 := cell_gw (c3.cell (i := 0) rfl)
  have hr := hn.rising
  have Hn := Lib.hid hn
  clear hn
  have hpl : ∀ w', Ext W w' → Calls Try.prog 37 #[.agg #[.int .i64 now, .slice a l.length c], .int .i64 x] w' fun e w'' => e = .returned (.tuple #[.int .i64 (posN l x), .bool (foundN l x)]) ∧ Ext w' w'' := fun w' he => place_any now a c l x w' hr (hO.ext he).slc (by omega)
  have Hpl := Lib.hid hpl
  clear hpl
  have hend : ∀ (code : Int) wq, Ext W wq → addS now l x code now l wq → DoesPost bw bw base (addS now l x) W (.returned (.int .i64 code)) wq := fun code wq he hS => ⟨code, now, _, l, rfl, he.blk hB, by exact hO.ext he, he.below.mono (by omega), fun k _ _ => he.block k (by omega), hS⟩
  have Hend := Lib.hid hend
  clear hend
  by_cases h1 : x < 1
  · go_enter Try.func36, Try.ntmps36
    go_wp2
    refine wp_region_gw (by kernel_rfl) (by kernel_rfl) ?_
    repeat (first | go_big_quiet_step ((go_at_call 37; exact cgw (Hpl.out _ (ext_gw _ _)))) | quiet_step ((go_at_call 37; exact cgw (Hpl.out _ (ext_gw _ _)))) | (refine wpQuiet_step (fun K hK => ?_); go_simp; split <;> (refine hK _ ?_; clear hK K)))
    all_goals (refine wpQuiet_nil ?_; intro wq hwq; have eq_ := ext_of_gw hwq; clear hwq)
    have t0' := eq_.cell (c3.cell (i := 0) rfl)
    go_wp2
    go_ret
    exact Hend.out _ _ eq_ (.inl ⟨rfl, .inl h1⟩)
  by_cases h2 : 8 < x
  · go_enter Try.func36, Try.ntmps36
    go_wp2
    refine wp_region_gw (by kernel_rfl) (by kernel_rfl) ?_
    repeat (first | go_big_quiet_step ((go_at_call 37; exact cgw (Hpl.out _ (ext_gw _ _)))) | quiet_step ((go_at_call 37; exact cgw (Hpl.out _ (ext_gw _ _)))) | (refine wpQuiet_step (fun K hK => ?_); go_simp; split <;> (refine hK _ ?_; clear hK K)))
    all_goals (refine wpQuiet_nil ?_; intro wq hwq; have eq_ := ext_of_gw hwq; clear hwq)
    have t0' := eq_.cell (c3.cell (i := 0) rfl)
    go_wp2
    go_ret
    exact Hend.out _ _ eq_ (.inl ⟨rfl, .inr h2⟩)
  cases hf : foundN l x
  rotate_left
  · rw [hf] at Hpl
    have Hf := Lib.hid hf
    clear hf
    go_enter Try.func36, Try.ntmps36
    go_wp2
    refine wp_region_gw (by kernel_rfl) (by kernel_rfl) ?_
    repeat (first | go_big_quiet_step ((go_at_call 37; exact cgw (Hpl.out _ (ext_gw _ _)))) | quiet_step ((go_at_call 37; exact cgw (Hpl.out _ (ext_gw _ _)))) | (refine wpQuiet_step (fun K hK => ?_); go_simp; split <;> (refine hK _ ?_; clear hK K)))
    all_goals (refine wpQuiet_nil ?_; intro wq hwq; have eq_ := ext_of_gw hwq; clear hwq)
    have t0' := eq_.cell (c3.cell (i := 0) rfl)
    go_wp2
    go_ret
    exact Hend.out _ _ eq_ (.inr (.inl ⟨rfl, by omega, by omega, Hf.out⟩))
  · have hp := hpos hf (by omega) (by omega)
    rw [hf, hp] at Hpl
    have Hf := Lib.hid hf
    have Hp := Lib.hid hp
    clear hf hp hpos
    go_enter Try.func36, Try.ntmps36
    go_wp2
    refine wp_region_gw (by kernel_rfl) (by kernel_rfl) ?_
    repeat (first | go_big_quiet_step ((go_at_call 37; exact cgw (Hpl.out _ (ext_gw _ _)))) | quiet_step ((go_at_call 37; exact cgw (Hpl.out _ (ext_gw _ _)))) | (refine wpQuiet_step (fun K hK => ?_); go_simp; split <;> (refine hK _ ?_; clear hK K)))
    all_goals (refine wpQuiet_nil ?_; intro wq hwq; have eq_ := ext_of_gw hwq; clear hwq)
    have t0' := eq_.cell (c3.cell (i := 0) rfl)
    have B2 := eq_.blk hB
    have O2 := hO.ext eq_
    have z0 := B2.cell (i := 0) rfl
    have z1 := B2.cell (i := 1) rfl
    have f1 := B2.free 1
    have EA0 := (Ext.refl wq).alloc (.cells #[.int .i64 x, .int .i64 now, .int .i64 0, .int .i64 0] 40)
    have y0 := EA0.cell z0
    have y1 := EA0.cell z1
    have y2 := EA0.cell t0'
    have OA := (O2.ext EA0).ext (Ext.refl _).drew
    have BA := ((EA0.blk B2)).drew
    have sA := slc_new (Blk.new wq [.int .i64 x, .int .i64 now, .int .i64 0, .int .i64 0].toArray 40).drew
    have bA : base ≤ (wq.alloc (.cells #[.int .i64 x, .int .i64 now, .int .i64 0, .int .i64 0] 40)).drew.heap.size := by have := eq_.size; simp; omega
    have hI := insert_end (wq.alloc (.cells #[.int .i64 x, .int .i64 now, .int .i64 0, .int .i64 0] 40)).drew base a _ c (l.map Pu.enc) [.int .i64 x, .int .i64 now, .int .i64 0, .int .i64 0] (by rwa [List.length_map]) sA (by simp [Value.oneCell']) (by simp; omega) bA
    rw [List.length_map] at hI
    have HI := Lib.hid hI
    clear hI
    go_wp2
    go_region_law ((go_simp; go_at_call 38; refine HI.out.mono ?_; rintro _ w3 ⟨v3, rfl, O3, G3⟩; obtain ⟨a3, n3, c3, rfl⟩ := O3.form'; have B3 := BA.grown G3 (fun h => by have := (OA.base_le _ h).1; omega); have q1 := B3.cell (i := 1) rfl; have f1 := B3.free 1))
    all_goals
      go_wp2
      go_ret
      have ne : ∀ k, k < base → (Value.slice a l.length c).ownBlock ≠ some k := fun k hk h => by have := (OA.base_le _ h).1; omega
      have EA := eq_.trans (EA0.trans (Ext.refl _).drew)
      have hbw : bw ≤ W.heap.size := by omega
      have EB : Below bw W _ := EA.below.mono hbw
      refine ⟨0, now, .slice a3 n3 c3, addL now l x, rfl, B3.set 1 _, ?_, ?_, fun k h1 h2 => ?_, .inr (.inr ⟨rfl, by omega, by omega, Hf.out, rfl, rfl⟩)⟩
      · have := own_far' O3 (b := bw) hb 1 (.slice a3 n3 c3)
        unfold addL
        rw [Hp.out, List.take_length, List.drop_length, List.append_nil, List.map_append]
        exact this
      · exact (EB.grown G3 (by have := EA.size; omega) (fun j hj => by have := (OA.base_le _ hj).1; omega)).setCell (Nat.le_refl _) _
      · exact (Below.heap_setCell _ _ _ _ (by dsimp only; omega)).trans ((G3.block k (by have := EA.size; omega) (fun h => ne k h2 h.symm)).trans (EA.block k (by omega)))
end Go.Proofs.Ytabadcnpmfafnaa
