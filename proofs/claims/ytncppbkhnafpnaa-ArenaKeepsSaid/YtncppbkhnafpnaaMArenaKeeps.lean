/- ArenaKeeps: what was stored is loaded, whatever happens to other blocks. No condition. -/
import Derived.Test.YtncppbkhnafpnaaM7
import Derived.Test.YtncppbkhnafpnaaRows
import Derived.ChangeOld
import Derived.ShutString
set_option linter.unusedSimpArgs false
namespace Go.Proofs.Ytncppbkhnafpnaa.Keeps
open Go.ChangeShapes Go.WideShapes Go.ChangeAt Go.RowKit J
open Go Go.Proofs.Ytncppbkhnafpnaa.A Go.Proofs.Ytncppbkhnafpnaa.D
theorem own : ownKnob Try.prog.godebug = none := by kernel_rfl
theorem laidOut : laidOutB Try.prog = true := by kernel_rfl
theorem walk (W : World) (v0 v1 v2 : Value) (h0 : Reads Try.prog W 3 v0) (h1 : Reads Try.prog W 22 v1) (h2 : Reads Try.prog W 23 v2) :
    Calls Try.prog 3 #[v0, v1, v2] W fun e w' => e = .returned (.bool true) ∧ Below W.heap.size W w' := by
  obtain ⟨n, e0, _⟩ := h0.int Try.underlying3
  have r0 : Rep W (Old W) [] [] [] (.int .i64 n) v0 := by rw [e0]; exact .int _ _
  obtain ⟨ops, _, ho, r1⟩ := reads_slice h1 Try.underlying22 (k := 7) (by kernel_rfl) (by decide) (n := 3) (by kernel_rfl) (fun cs h => fits_op h)
  obtain ⟨x, e2, hx⟩ := h2.int Try.underlying23
  have r2 : Rep W (Old W) [] [] [] (.int .u32 x) v2 := by rw [e2]; exact .int _ _
  have hx : 0 ≤ x ∧ x ≤ 4294967295 := wf_u32 hx
  exact law_walk (args := [.int .i64 n, .ro (oprows ops), .int .u32 x]) (vs := [v0, v1, v2]) F.envOk (F.keeps n ops x hx ho) ⟨_, rfl, rfl⟩ gNone (RepL.cons r0 (RepL.cons r1 (RepL.cons r2 RepL.nil)))
set_option maxRecDepth 100000 in
theorem arenaKeeps_lifted (os : Os) (started : os.Started) (H : Type) (enc : TypeId × Value → H) :
    ReturnsInHanded {} Try.checked os 3 .any (Rows.arenaKeepsSpec.pre6 enc Try.prog Try.f3 Rows.arenaKeepsRow.domain false) (Rows.arenaKeepsSpec.post enc Try.prog Try.f3 false true false false) := by
  refine returnsInHanded_of_change (C := Try.checked) own started (by kernel_rfl) Try.func3
    (ChangeSpec.witness6 (enc := enc) (C := Try.checked) false ⟨#[], #[.int .i64 0, .slice none 0 0, .int .u32 0], []⟩ 8 (by kernel_rfl) (by kernel_rfl) (by kernel_rfl) (by kernel_rfl)) ?_
  intro W base args ds gs before hval0 hW hcnd _
  have hval : ∀ (j : Nat) t v, Try.f3.params[j]? = some t → args[j]? = some v → Value.okWide Try.prog W .any base t v := hval0
  have hW' := hW
  obtain ⟨p, q, hA0, hV, rfl, hfz, hnd⟩ := hW
  have hA : DataW.TrodAll enc Try.prog W 0 (fun _ => true) true Try.f3.params.toList args.toList ds p := hA0
  rw [Try.params3] at hA hval
  obtain ⟨v0, vs0, d0, ds0, p0, q0, hargs, rfl, rfl, h0, r0⟩ := trodAll_cons hA
  obtain ⟨v1, vs1, d1, ds1, p1, q1, rfl, rfl, rfl, h1, r1⟩ := trodAll_cons r0
  obtain ⟨v2, vs2, d2, ds2, p2, q2, rfl, rfl, rfl, h2, r2⟩ := trodAll_cons r1
  obtain ⟨rfl, rfl, rfl⟩ := trodAll_nil r2
  obtain rfl : args = #[v0, v1, v2] := by cases args; simp_all
  obtain ⟨rfl, rfl⟩ := trodVars_none hV
  have lt0 : ∀ x ∈ p0, x.block < W.heap.size := by obtain ⟨m, hm⟩ := h0; exact DataW.trod_lt m _ _ _ hm
  have k0 : Reads Try.prog W 3 v0 := ⟨⟨base, hval 0 _ v0 rfl rfl⟩, by obtain ⟨m, hm⟩ := h0; exact ⟨H, enc, _, m, _, hm⟩⟩
  have lt1 : ∀ x ∈ p1, x.block < W.heap.size := by obtain ⟨m, hm⟩ := h1; exact DataW.trod_lt m _ _ _ hm
  have k1 : Reads Try.prog W 22 v1 := ⟨⟨base, hval 1 _ v1 rfl rfl⟩, by obtain ⟨m, hm⟩ := h1; exact ⟨H, enc, _, m, _, hm⟩⟩
  have lt2 : ∀ x ∈ p2, x.block < W.heap.size := by obtain ⟨m, hm⟩ := h2; exact DataW.trod_lt m _ _ _ hm
  have k2 : Reads Try.prog W 23 v2 := ⟨⟨base, hval 2 _ v2 rfl rfl⟩, by obtain ⟨m, hm⟩ := h2; exact ⟨H, enc, _, m, _, hm⟩⟩
  clear hA0 hval0
  refine (walk W v0 v1 v2 k0 k1 k2).mono fun e W' ⟨he, bel⟩ => ?_
  subst he
  exact ⟨_, rfl, _, _, _, [], _, [], hW', trodAll_mk1 (shut_bool Try.underlying4 _), (trodAll_cons_mk (Below.trod laidOut (by kernel_rfl) (of_decide_eq_true (by kernel_rfl)) h0 bel lt0) (trodAll_cons_mk (Below.trod laidOut (by kernel_rfl) (of_decide_eq_true (by kernel_rfl)) h1 bel lt1) (trodAll_cons_mk (Below.trod laidOut (by kernel_rfl) (of_decide_eq_true (by kernel_rfl)) h2 bel lt2) trodAll_mk0))), rfl, bel.frame _, fun h => by cases h⟩
theorem arenaKeeps_over : Rows.arenaKeepsRow.holds Try.pinned (OpenSpec.ofChange Rows.arenaKeepsSpec) :=
  OpenClaim.holds_of_wide 3 Try.f3 rfl rfl rfl rfl rfl rfl rfl ⟨rfl, rfl, rfl, rfl, rfl⟩ rfl rfl rfl rfl rfl (by kernel_rfl) Try.func3 (by kernel_rfl)
    (of_decide_eq_true (by kernel_rfl)) (by unfold Func.isWrapper; rw [if_neg (of_decide_eq_false (by kernel_rfl))]; exact ⟨rfl, rfl⟩)
    (fun os started H enc _ => arenaKeeps_lifted os started H enc)
theorem ArenaKeeps : Rows.ArenaKeepsSaid := arenaKeeps_over
end Go.Proofs.Ytncppbkhnafpnaa.Keeps
