/- ArenaAgain: what is given back is taken again, empty. No condition. -/
import Derived.Test.YtncppbkhnafpnaaM8
import Derived.Test.YtncppbkhnafpnaaRows
import Derived.ChangeOld
import Derived.ShutString
set_option linter.unusedSimpArgs false
namespace Go.Proofs.Ytncppbkhnafpnaa.Again
open Go.ChangeShapes Go.WideShapes Go.ChangeAt Go.RowKit J
open Go Go.Proofs.Ytncppbkhnafpnaa.A Go.Proofs.Ytncppbkhnafpnaa.D
theorem own : ownKnob Try.prog.godebug = none := by kernel_rfl
theorem laidOut : laidOutB Try.prog = true := by kernel_rfl
theorem walk (W : World) (v0 v1 : Value) (h0 : Reads Try.prog W 3 v0) (h1 : Reads Try.prog W 41 v1) :
    Calls Try.prog 5 #[v0, v1] W fun e w' => e = .returned (.bool true) ∧ Below W.heap.size W w' := by
  obtain ⟨n, e0, _⟩ := h0.int Try.underlying3
  have r0 : Rep W (Old W) [] [] [] (.int .i64 n) v0 := by rw [e0]; exact .int _ _
  obtain ⟨ns, _, hn, r1⟩ := reads_slice h1 Try.underlying41 (k := 1) (by kernel_rfl) (by decide) (n := 2) (by kernel_rfl) (fun cs h => fits_int h)
  exact law_walk (args := [.int .i64 n, .ro (nums ns)]) (vs := [v0, v1]) F.envOk (F.again n ns) ⟨_, rfl, rfl⟩ gNone (RepL.cons r0 (RepL.cons r1 RepL.nil))
set_option maxRecDepth 100000 in
theorem arenaAgain_lifted (os : Os) (started : os.Started) (H : Type) (enc : TypeId × Value → H) :
    ReturnsInHanded {} Try.checked os 5 .any (Rows.arenaAgainSpec.pre6 enc Try.prog Try.f5 Rows.arenaAgainRow.domain false) (Rows.arenaAgainSpec.post enc Try.prog Try.f5 false true false false) := by
  refine returnsInHanded_of_change (C := Try.checked) own started (by kernel_rfl) Try.func5
    (ChangeSpec.witness6 (enc := enc) (C := Try.checked) false ⟨#[], #[.int .i64 0, .slice none 0 0], []⟩ 8 (by kernel_rfl) (by kernel_rfl) (by kernel_rfl) (by kernel_rfl)) ?_
  intro W base args ds gs before hval0 hW hcnd _
  have hval : ∀ (j : Nat) t v, Try.f5.params[j]? = some t → args[j]? = some v → Value.okWide Try.prog W .any base t v := hval0
  have hW' := hW
  obtain ⟨p, q, hA0, hV, rfl, hfz, hnd⟩ := hW
  have hA : DataW.TrodAll enc Try.prog W 0 (fun _ => true) true Try.f5.params.toList args.toList ds p := hA0
  rw [Try.params5] at hA hval
  obtain ⟨v0, vs0, d0, ds0, p0, q0, hargs, rfl, rfl, h0, r0⟩ := trodAll_cons hA
  obtain ⟨v1, vs1, d1, ds1, p1, q1, rfl, rfl, rfl, h1, r1⟩ := trodAll_cons r0
  obtain ⟨rfl, rfl, rfl⟩ := trodAll_nil r1
  obtain rfl : args = #[v0, v1] := by cases args; simp_all
  obtain ⟨rfl, rfl⟩ := trodVars_none hV
  have lt0 : ∀ x ∈ p0, x.block < W.heap.size := by obtain ⟨m, hm⟩ := h0; exact DataW.trod_lt m _ _ _ hm
  have k0 : Reads Try.prog W 3 v0 := ⟨⟨base, hval 0 _ v0 rfl rfl⟩, by obtain ⟨m, hm⟩ := h0; exact ⟨H, enc, _, m, _, hm⟩⟩
  have lt1 : ∀ x ∈ p1, x.block < W.heap.size := by obtain ⟨m, hm⟩ := h1; exact DataW.trod_lt m _ _ _ hm
  have k1 : Reads Try.prog W 41 v1 := ⟨⟨base, hval 1 _ v1 rfl rfl⟩, by obtain ⟨m, hm⟩ := h1; exact ⟨H, enc, _, m, _, hm⟩⟩
  clear hA0 hval0
  refine (walk W v0 v1 k0 k1).mono fun e W' ⟨he, bel⟩ => ?_
  subst he
  exact ⟨_, rfl, _, _, _, [], _, [], hW', trodAll_mk1 (shut_bool Try.underlying4 _), (trodAll_cons_mk (Below.trod laidOut (by kernel_rfl) (of_decide_eq_true (by kernel_rfl)) h0 bel lt0) (trodAll_cons_mk (Below.trod laidOut (by kernel_rfl) (of_decide_eq_true (by kernel_rfl)) h1 bel lt1) trodAll_mk0)), rfl, bel.frame _, fun h => by cases h⟩
theorem arenaAgain_over : Rows.arenaAgainRow.holds Try.pinned (OpenSpec.ofChange Rows.arenaAgainSpec) :=
  OpenClaim.holds_of_wide 5 Try.f5 rfl rfl rfl rfl rfl rfl rfl ⟨rfl, rfl, rfl, rfl, rfl⟩ rfl rfl rfl rfl rfl (by kernel_rfl) Try.func5 (by kernel_rfl)
    (of_decide_eq_true (by kernel_rfl)) (by unfold Func.isWrapper; rw [if_neg (of_decide_eq_false (by kernel_rfl))]; exact ⟨rfl, rfl⟩)
    (fun os started H enc _ => arenaAgain_lifted os started H enc)
theorem ArenaAgain : Rows.ArenaAgainSaid := arenaAgain_over
end Go.Proofs.Ytncppbkhnafpnaa.Again
