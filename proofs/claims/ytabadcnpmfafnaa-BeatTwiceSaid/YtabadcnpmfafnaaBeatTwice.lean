/- BeatTwice: to pass two spans is to pass both at once; ahead of Next nothing changes. No condition. -/
import Derived.Test.YtabadcnpmfafnaaT3
set_option linter.unusedVariables false
set_option linter.unusedSimpArgs false
namespace Go.Proofs.Ytabadcnpmfafnaa.Twice
open Go.ChangeShapes Go.WideShapes Go.ChangeAt Go.RowKit J
theorem own : ownKnob Try.prog.godebug = none := by kernel_rfl
theorem laidOut : laidOutB Try.prog = true := by kernel_rfl
theorem walk (W : World) (v0 v1 v2 : Value) (h0 : Reads Try.prog W 24 v0) (h1 : Reads Try.prog W 2 v1) (h2 : Reads Try.prog W 2 v2) :
    Calls Try.prog 5 #[v0, v1, v2] W fun e w' => e = .returned (.bool true) ∧ Below W.heap.size W w' := by
  obtain ⟨now, a, c, l, rfl, hn, hl, hs, h3, h4⟩ := reads_watch h0
  obtain ⟨n, rfl, hw⟩ := h1.int Try.underlying2
  obtain ⟨m, rfl, hw2⟩ := h2.int Try.underlying2
  exact twice_any now n m a c l W hn (wf_i64 hw) (wf_i64 hw2) hl hs (Nat.le_trans h3 h4)
set_option maxRecDepth 100000 in
theorem beatTwice_lifted (os : Os) (started : os.Started) (H : Type) (enc : TypeId × Value → H) :
    ReturnsInHanded {} Try.checked os 5 .any (Rows.beatTwiceSpec.pre6 enc Try.prog Try.f5 Rows.beatTwiceRow.domain false) (Rows.beatTwiceSpec.post enc Try.prog Try.f5 false true false false) := by
  refine returnsInHanded_of_change (C := Try.checked) own started (by kernel_rfl) Try.func5
    (ChangeSpec.witness6 (enc := enc) (C := Try.checked) false ⟨#[], #[.agg #[.int .i64 0, .slice none 0 0], .int .i64 0, .int .i64 0], []⟩ 8 (by kernel_rfl) (by kernel_rfl) (by kernel_rfl) (by kernel_rfl)) ?_
  intro W base args ds gs before hval0 hW hcnd _
  have hval : ∀ (j : Nat) t v, Try.f5.params[j]? = some t → args[j]? = some v → Value.okWide Try.prog W .any base t v := hval0
  have hW' := hW
  obtain ⟨p, q, hA0, hV, rfl, hfz, hnd⟩ := hW
  have hA : DataW.TrodAll enc Try.prog W 0 (fun _ => true) true Try.f5.params.toList args.toList ds p := hA0
  rw [Try.params5] at hA hval
  obtain ⟨v0, vs0, d0, ds0, p0, q0, hargs, rfl, rfl, h0, r0⟩ := trodAll_cons hA
  obtain ⟨v1, vs1, d1, ds1, p1, q1, rfl, rfl, rfl, h1, r1⟩ := trodAll_cons r0
  obtain ⟨v2, vs2, d2, ds2, p2, q2, rfl, rfl, rfl, h2, r2⟩ := trodAll_cons r1
  obtain ⟨rfl, rfl, rfl⟩ := trodAll_nil r2
  obtain rfl : args = #[v0, v1, v2] := by cases args; simp_all
  obtain ⟨rfl, rfl⟩ := trodVars_none hV
  have lt0 : ∀ x ∈ p0, x.block < W.heap.size := by obtain ⟨m, hm⟩ := h0; exact DataW.trod_lt m _ _ _ hm
  have k0 : Reads Try.prog W 24 v0 := ⟨⟨base, hval 0 _ v0 rfl rfl⟩, by obtain ⟨m, hm⟩ := h0; exact ⟨H, enc, _, m, _, hm⟩⟩
  have lt1 : ∀ x ∈ p1, x.block < W.heap.size := by obtain ⟨m, hm⟩ := h1; exact DataW.trod_lt m _ _ _ hm
  have k1 : Reads Try.prog W 2 v1 := ⟨⟨base, hval 1 _ v1 rfl rfl⟩, by obtain ⟨m, hm⟩ := h1; exact ⟨H, enc, _, m, _, hm⟩⟩
  have lt2 : ∀ x ∈ p2, x.block < W.heap.size := by obtain ⟨m, hm⟩ := h2; exact DataW.trod_lt m _ _ _ hm
  have k2 : Reads Try.prog W 2 v2 := ⟨⟨base, hval 2 _ v2 rfl rfl⟩, by obtain ⟨m, hm⟩ := h2; exact ⟨H, enc, _, m, _, hm⟩⟩
  clear hA0 hval0
  refine (walk W v0 v1 v2 k0 k1 k2).mono fun e W' ⟨he, bel⟩ => ?_
  subst he
  exact ⟨_, rfl, _, _, _, [], _, [], hW', trodAll_mk1 (shut_bool Try.underlying4 _), (trodAll_cons_mk (Below.trod laidOut (by kernel_rfl) (of_decide_eq_true (by kernel_rfl)) h0 bel lt0) (trodAll_cons_mk (Below.trod laidOut (by kernel_rfl) (of_decide_eq_true (by kernel_rfl)) h1 bel lt1) (trodAll_cons_mk (Below.trod laidOut (by kernel_rfl) (of_decide_eq_true (by kernel_rfl)) h2 bel lt2) trodAll_mk0))), rfl, bel.frame _, fun h => by cases h⟩
theorem beatTwice_over : Rows.beatTwiceRow.holds Try.pinned (OpenSpec.ofChange Rows.beatTwiceSpec) :=
  OpenClaim.holds_of_wide 5 Try.f5 rfl rfl rfl rfl rfl rfl rfl ⟨rfl, rfl, rfl, rfl, rfl⟩ rfl rfl rfl rfl rfl (by kernel_rfl) Try.func5 (by kernel_rfl)
    (of_decide_eq_true (by kernel_rfl)) (by unfold Func.isWrapper; rw [if_neg (of_decide_eq_false (by kernel_rfl))]; exact ⟨rfl, rfl⟩)
    (fun os started H enc _ => beatTwice_lifted os started H enc)
theorem BeatTwice : Rows.BeatTwiceSaid := beatTwice_over
end Go.Proofs.Ytabadcnpmfafnaa.Twice
