/- ArenaNone: which sizes may be, and that a nil arena tells nothing. No condition. -/
import Derived.Test.YtncppbkhnafpnaaM7
import Derived.Test.YtncppbkhnafpnaaRows
import Derived.ChangeOld
import Derived.ShutString
set_option linter.unusedSimpArgs false
namespace Go.Proofs.Ytncppbkhnafpnaa.None_
open Go.ChangeShapes Go.WideShapes Go.ChangeAt Go.RowKit J
open Go Go.Proofs.Ytncppbkhnafpnaa.A Go.Proofs.Ytncppbkhnafpnaa.D
theorem own : ownKnob Try.prog.godebug = none := by kernel_rfl
theorem laidOut : laidOutB Try.prog = true := by kernel_rfl
theorem walk (W : World) (v0 v1 v2 : Value) (h0 : Reads Try.prog W 41 v0) (h1 : Reads Try.prog W 3 v1) (h2 : Reads Try.prog W 3 v2) :
    Calls Try.prog 4 #[v0, v1, v2] W fun e w' => e = .returned (.bool true) ∧ Below W.heap.size W w' := by
  obtain ⟨ns, _, hn, r0⟩ := reads_slice h0 Try.underlying41 (k := 1) (by kernel_rfl) (by decide) (n := 2) (by kernel_rfl) (fun cs h => fits_int h)
  obtain ⟨p, e1, _⟩ := h1.int Try.underlying3
  have r1 : Rep W (Old W) [] [] [] (.int .i64 p) v1 := by rw [e1]; exact .int _ _
  obtain ⟨i, e2, _⟩ := h2.int Try.underlying3
  have r2 : Rep W (Old W) [] [] [] (.int .i64 i) v2 := by rw [e2]; exact .int _ _
  exact law_walk (args := [.ro (nums ns), .int .i64 p, .int .i64 i]) (vs := [v0, v1, v2]) F.envOk (F.none_run ns hn p i) ⟨_, rfl, rfl⟩ gNone (RepL.cons r0 (RepL.cons r1 (RepL.cons r2 RepL.nil)))
set_option maxRecDepth 100000 in
theorem arenaNone_lifted (os : Os) (started : os.Started) (H : Type) (enc : TypeId × Value → H) :
    ReturnsInHanded {} Try.checked os 4 .any (Rows.arenaNoneSpec.pre6 enc Try.prog Try.f4 Rows.arenaNoneRow.domain false) (Rows.arenaNoneSpec.post enc Try.prog Try.f4 false true false false) := by
  refine returnsInHanded_of_change (C := Try.checked) own started (by kernel_rfl) Try.func4
    (ChangeSpec.witness6 (enc := enc) (C := Try.checked) false ⟨#[], #[.slice none 0 0, .int .i64 0, .int .i64 0], []⟩ 8 (by kernel_rfl) (by kernel_rfl) (by kernel_rfl) (by kernel_rfl)) ?_
  intro W base args ds gs before hval0 hW hcnd _
  have hval : ∀ (j : Nat) t v, Try.f4.params[j]? = some t → args[j]? = some v → Value.okWide Try.prog W .any base t v := hval0
  have hW' := hW
  obtain ⟨p, q, hA0, hV, rfl, hfz, hnd⟩ := hW
  have hA : DataW.TrodAll enc Try.prog W 0 (fun _ => true) true Try.f4.params.toList args.toList ds p := hA0
  rw [Try.params4] at hA hval
  obtain ⟨v0, vs0, d0, ds0, p0, q0, hargs, rfl, rfl, h0, r0⟩ := trodAll_cons hA
  obtain ⟨v1, vs1, d1, ds1, p1, q1, rfl, rfl, rfl, h1, r1⟩ := trodAll_cons r0
  obtain ⟨v2, vs2, d2, ds2, p2, q2, rfl, rfl, rfl, h2, r2⟩ := trodAll_cons r1
  obtain ⟨rfl, rfl, rfl⟩ := trodAll_nil r2
  obtain rfl : args = #[v0, v1, v2] := by cases args; simp_all
  obtain ⟨rfl, rfl⟩ := trodVars_none hV
  have lt0 : ∀ x ∈ p0, x.block < W.heap.size := by obtain ⟨m, hm⟩ := h0; exact DataW.trod_lt m _ _ _ hm
  have k0 : Reads Try.prog W 41 v0 := ⟨⟨base, hval 0 _ v0 rfl rfl⟩, by obtain ⟨m, hm⟩ := h0; exact ⟨H, enc, _, m, _, hm⟩⟩
  have lt1 : ∀ x ∈ p1, x.block < W.heap.size := by obtain ⟨m, hm⟩ := h1; exact DataW.trod_lt m _ _ _ hm
  have k1 : Reads Try.prog W 3 v1 := ⟨⟨base, hval 1 _ v1 rfl rfl⟩, by obtain ⟨m, hm⟩ := h1; exact ⟨H, enc, _, m, _, hm⟩⟩
  have lt2 : ∀ x ∈ p2, x.block < W.heap.size := by obtain ⟨m, hm⟩ := h2; exact DataW.trod_lt m _ _ _ hm
  have k2 : Reads Try.prog W 3 v2 := ⟨⟨base, hval 2 _ v2 rfl rfl⟩, by obtain ⟨m, hm⟩ := h2; exact ⟨H, enc, _, m, _, hm⟩⟩
  clear hA0 hval0
  refine (walk W v0 v1 v2 k0 k1 k2).mono fun e W' ⟨he, bel⟩ => ?_
  subst he
  exact ⟨_, rfl, _, _, _, [], _, [], hW', trodAll_mk1 (shut_bool Try.underlying4 _), (trodAll_cons_mk (Below.trod laidOut (by kernel_rfl) (of_decide_eq_true (by kernel_rfl)) h0 bel lt0) (trodAll_cons_mk (Below.trod laidOut (by kernel_rfl) (of_decide_eq_true (by kernel_rfl)) h1 bel lt1) (trodAll_cons_mk (Below.trod laidOut (by kernel_rfl) (of_decide_eq_true (by kernel_rfl)) h2 bel lt2) trodAll_mk0))), rfl, bel.frame _, fun h => by cases h⟩
theorem arenaNone_over : Rows.arenaNoneRow.holds Try.pinned (OpenSpec.ofChange Rows.arenaNoneSpec) :=
  OpenClaim.holds_of_wide 4 Try.f4 rfl rfl rfl rfl rfl rfl rfl ⟨rfl, rfl, rfl, rfl, rfl⟩ rfl rfl rfl rfl rfl (by kernel_rfl) Try.func4 (by kernel_rfl)
    (of_decide_eq_true (by kernel_rfl)) (by unfold Func.isWrapper; rw [if_neg (of_decide_eq_false (by kernel_rfl))]; exact ⟨rfl, rfl⟩)
    (fun os started H enc _ => arenaNone_lifted os started H enc)
theorem ArenaNone : Rows.ArenaNoneSaid := arenaNone_over
end Go.Proofs.Ytncppbkhnafpnaa.None_
