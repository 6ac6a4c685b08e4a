/- Part B3 of the proofs of these statements. No condition. -/
import Derived.Test.YtabadcnpmfafnaaB2
import Derived.Test.YtabadcnpmfafnaaSl
set_option linter.unusedVariables false
set_option linter.unusedSimpArgs false
namespace Go.Proofs.Ytabadcnpmfafnaa
open Go Go.RowKit J
theorem elemT_22 : ElemT Try.prog 22 40 4 (.agg #[.int .i64 0, .int .i64 0, .int .i64 0, .int .i64 0]) 32 := ⟨Try.underlying22, by kernel_rfl, rfl, by decide⟩
set_option maxHeartbeats 1000000 in
theorem clone_22 (a : Option Addr) (c : Nat) (css : List (List Value)) (w : World) (hs : SlC w 4 a css) (h1 : ∀ cs ∈ css, ∀ u ∈ cs, u.oneCell' = true) (hb : css.length * 32 ≤ 140737488355328) :
    Calls Try.prog 45 #[.slice a css.length c] w fun e w' => ∃ v, e = .returned v ∧ OwnL w' w.heap.size 40 4 v css ∧ Ext w w' := by
  have keq := eql_slice_nil Try.underlying22
  cases a with
  | none =>
    have hnil : css = [] := by
      cases css with
      | nil => rfl
      | cons c r => obtain ⟨_, b, o, h2, _⟩ := hs 0 c rfl; cases h2
    subst hnil
    have kn := fun (w : World) (l c : Nat) => keq w none l c
    simp only [Option.isNone_none] at kn
    clear keq
    go_enter Try.func45, Try.ntmps45
    go_wp2
    go_ret
    exact ⟨_, rfl, OwnL.nil _ _ _ _, by repeat (first | exact Ext.refl _ | assumption | apply Ext.alloc | apply Ext.drewN | apply Ext.drew)⟩
  | some ad =>
    have kn := fun (w : World) (l c : Nat) => keq w (some ad) l c
    simp only [Option.isNone_some] at kn
    clear keq
    have ho : OwnL (w.alloc (.cells #[] 40)) w.heap.size 40 4 (.slice (some ⟨w.heap.size, 0, none⟩) 0 0) [] := ⟨World.ownsRow_lit w #[] 0 (Nat.le_refl _) (Nat.zero_le _) (by simp), fun c hc => by cases hc⟩
    go_enter Try.func45, Try.ntmps45
    go_wp2_with (at_builtin; refine wpl_append rfl _ _ 22 rfl elemT_22 w.heap.size rfl ho rfl rfl (hs.ext ((Ext.refl w).alloc _)) h1 (by simpa using hb) (by decide) (by simp) ?_; intro v' W' ho' hg'; have he' := ext_own ((Ext.refl w).alloc _) ho (Nat.le_refl _) hg'; clear hg')
    go_ret
    exact ⟨_, rfl, by simpa using ho', he'⟩
end Go.Proofs.Ytabadcnpmfafnaa
