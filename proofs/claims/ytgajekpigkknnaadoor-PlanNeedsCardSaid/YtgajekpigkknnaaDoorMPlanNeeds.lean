/- PlanNeeds: for every two RIBs without any one of the updates it does not lead there. Condition: the package's table of widths starts as the program's text lays it (tied). -/
import Derived.Test.YtgajekpigkknnaaDoorM10
import Derived.Test.YtgajekpigkknnaaDoorCards
import Derived.Test.YtgajekpigkknnaaDoorTie
import Derived.ProofKit
import Derived.OpenShut
import Derived.Deep.DeepHandedRow
import Derived.Lib.LaidTab
set_option linter.unusedSimpArgs false
set_option linter.unusedVariables false
namespace Go.Proofs.YtgajekpigkknnaaDoor
open Go.ChangeShapes Go.WideShapes Go.ChangeAt Go.RowKit
open Go Go.Proofs.YtgajekpigkknnaaDoor.A Go.Proofs.YtgajekpigkknnaaDoor.D
theorem walk (W : World) (v0 v1 : Value) (h0 : J.Reads Tryd.prog W 46 v0) (h1 : J.Reads Tryd.prog W 46 v1) (hG : GOk F.G W (Old W)) :
    Calls Tryd.prog 5 #[v0, v1] W fun e w' => e = .returned (.bool true) ∧ Below W.heap.size W w' := by
  obtain ⟨x0, s0, _, r0⟩ := reads_one h0 Tryd.underlying46 rfl rfl (by kernel_rfl) (by kernel_rfl) Tryd.underlying44 (k := 21) (by kernel_rfl) (by decide) (n := 6) (by kernel_rfl) (fun cs h => fits_rt h)
  obtain ⟨x1, s1, _, r1⟩ := reads_one h1 Tryd.underlying46 rfl rfl (by kernel_rfl) (by kernel_rfl) Tryd.underlying44 (k := 21) (by kernel_rfl) (by decide) (n := 6) (by kernel_rfl) (fun cs h => fits_rt h)
  exact law_walk (args := [.agg [.ro (trows x0)], .agg [.ro (trows x1)]]) (vs := [v0, v1]) F.envOk (F.e5 x0 x1 s0 s1) ⟨_, rfl, rfl⟩ hG (RepL.cons r0 (RepL.cons r1 RepL.nil))
theorem own : ownKnob Tryd.prog.godebug = none := by kernel_rfl
theorem laidOut : laidOutB Tryd.prog = true := by kernel_rfl
theorem gTab : Tryd.prog.globalNamed "junctionbox/prefix.widths" = some 0 := by kernel_rfl
theorem gTabType : (Tryd.prog.globals[0]?).map (·.type) = some 141 := by kernel_rfl
theorem cellsT : Tryd.prog.cellsOf 141 = 7 := by kernel_rfl
theorem cellsE : Tryd.prog.cellsOf 3 = 1 := by kernel_rfl
theorem table {W : World} (h : laidMetH Tryd.prog Rows.planNeedsRow.laid W) : Lib.TabIs Tryd.prog W "junctionbox/prefix.widths" .i64 [0, 0, 0, 0, 32, 0, 128] :=
  Lib.tabIs_of_head (rest := []) gTab gTabType Tryd.underlying141 Tryd.underlying3 cellsE cellsT h
theorem gOk {W : World} (h : laidMetH Tryd.prog Rows.planNeedsRow.laid W) : GOk F.G W (Old W) := by
  intro g row hg
  have hc : ∀ i, i < 7 → W.cell? ⟨0, i, none⟩ = some (.int .i64 (([0, 0, 0, 0, 32, 0, 128] : List Int).getD i 0)) := fun i hi => (table h).cell gTab i hi
  unfold F.G at hg
  split at hg
  · cases hg
    have := Rep.rp (w := W) (Pr := Old W) (σ := []) (γ := []) (ls := []) ([.int .i64 0, .int .i64 0, .int .i64 0, .int .i64 0, .int .i64 32, .int .i64 0, .int .i64 128]) 0 0 0 ([.int .i64 0, .int .i64 0, .int .i64 0, .int .i64 0, .int .i64 32, .int .i64 0, .int .i64 128]) rfl ?_ rfl ?_
    · exact this
    · intro i v hv
      have hi : i < 7 := (List.getElem?_eq_some_iff.1 hv).1
      have h1 := hc i hi
      have h2 : v = .int .i64 (([0, 0, 0, 0, 32, 0, 128] : List Int).getD i 0) := by
        match i, hi with
        | 0, _ => simpa using hv.symm
        | 1, _ => simpa using hv.symm
        | 2, _ => simpa using hv.symm
        | 3, _ => simpa using hv.symm
        | 4, _ => simpa using hv.symm
        | 5, _ => simpa using hv.symm
        | 6, _ => simpa using hv.symm
      subst h2
      rw [Nat.zero_add]
      exact ⟨World.block_lt_of_cell? W _ h1, h1⟩
    · intro i a v ha hv
      have hi : i < 7 := (List.getElem?_eq_some_iff.1 hv).1
      match i, hi with
      | 0, _ => simp at ha hv; subst ha; subst hv; exact .int _ _
      | 1, _ => simp at ha hv; subst ha; subst hv; exact .int _ _
      | 2, _ => simp at ha hv; subst ha; subst hv; exact .int _ _
      | 3, _ => simp at ha hv; subst ha; subst hv; exact .int _ _
      | 4, _ => simp at ha hv; subst ha; subst hv; exact .int _ _
      | 5, _ => simp at ha hv; subst ha; subst hv; exact .int _ _
      | 6, _ => simp at ha hv; subst ha; subst hv; exact .int _ _
  · cases hg
set_option maxRecDepth 100000 in
theorem contract (H : Type) (enc : TypeId × Value → H) (W : World) (base : Nat) (args : Array Value) (ds gs : List (DataW H)) (before : List MemPlace)
    (hval : ∀ (j : Nat) t v, Tryd.f5.params[j]? = some t → args[j]? = some v → Value.okWide Tryd.prog W .any base t v)
    (hW : DataW.Whole enc Tryd.prog Tryd.f5.params.toList Rows.planNeedsSpec.vars false W args.toList ds gs before) (hL : laidMetH Tryd.prog Rows.planNeedsRow.laid W) :
    Calls Tryd.prog 5 args W fun e W' => ∃ v, e = .returned v ∧ Rows.planNeedsSpec.post enc Tryd.prog Tryd.f5 false true false false W args v W' := by
  have hW' := hW
  obtain ⟨p, q, hA0, hV, rfl, hfz, hnd⟩ := hW
  have hA : DataW.TrodAll enc Tryd.prog W 0 (fun _ => true) true Tryd.f5.params.toList args.toList ds p := hA0
  rw [Tryd.params5] at hA hval
  obtain ⟨v0, vs0, d0, ds0, p0, q0, hargs, rfl, rfl, h0, r0⟩ := trodAll_cons hA
  obtain ⟨v1, vs1, d1, ds1, p1, q1, rfl, rfl, rfl, h1, r1⟩ := trodAll_cons r0
  obtain ⟨rfl, rfl, rfl⟩ := trodAll_nil r1
  obtain rfl : args = #[v0, v1] := by cases args; simp_all
  obtain ⟨rfl, rfl⟩ := trodVars_none hV
  have lt0 : ∀ x ∈ p0, x.block < W.heap.size := by obtain ⟨m, hm⟩ := h0; exact DataW.trod_lt m _ _ _ hm
  have k0 : J.Reads Tryd.prog W 46 v0 := ⟨⟨base, hval 0 _ v0 rfl rfl⟩, by obtain ⟨m, hm⟩ := h0; exact ⟨H, enc, _, m, _, hm⟩⟩
  have lt1 : ∀ x ∈ p1, x.block < W.heap.size := by obtain ⟨m, hm⟩ := h1; exact DataW.trod_lt m _ _ _ hm
  have k1 : J.Reads Tryd.prog W 46 v1 := ⟨⟨base, hval 1 _ v1 rfl rfl⟩, by obtain ⟨m, hm⟩ := h1; exact ⟨H, enc, _, m, _, hm⟩⟩
  clear hA0 hval
  refine (walk W v0 v1 k0 k1 (gOk hL)).mono fun e W' ⟨he, bel⟩ => ?_
  subst he
  exact ⟨_, rfl, _, _, _, [], _, [], hW', trodAll_mk1 (shut_bool Tryd.underlying4 _), (trodAll_cons_mk (Below.trod laidOut (by kernel_rfl) (of_decide_eq_true (by kernel_rfl)) h0 bel lt0) (trodAll_cons_mk (Below.trod laidOut (by kernel_rfl) (of_decide_eq_true (by kernel_rfl)) h1 bel lt1) trodAll_mk0)), rfl, bel.frame _, fun h => by cases h⟩
noncomputable def laidWorld (os : Os) : World :=
  { World.holding Tryd.prog os ⟨#[], #[], []⟩ with heap := (World.holding Tryd.prog os ⟨#[], #[], []⟩).heap.modify 0 fun
      | .cells _ t frozen => .cells #[.int .i64 0, .int .i64 0, .int .i64 0, .int .i64 0, .int .i64 32, .int .i64 0, .int .i64 128] t frozen
      | o => o }
theorem laid_met (os : Os) : laidMet Tryd.prog Rows.planNeedsRow.laid ((laidWorld os).forCall (fun _ _ => 0) ⟨#[], #[.agg #[.slice none 0 0], .agg #[.slice none 0 0]], []⟩).memory :=
  laidMet_of_run' 8 (by kernel_rfl) (by kernel_rfl)
theorem reads (os : Os) {H : Type} (enc : TypeId × Value → H) : ∃ places, DataW.whole enc Tryd.prog ((laidWorld os).forCall (fun _ _ => 0) ⟨#[], #[.agg #[.slice none 0 0], .agg #[.slice none 0 0]], []⟩).memory Tryd.f5.params.toList Rows.planNeedsSpec.vars false (#[.agg #[.slice none 0 0], .agg #[.slice none 0 0]] : Array Value).toList 8 = some ([.agg [.nil], .agg [.nil]], [], places) :=
  ⟨[], by kernel_rfl⟩
set_option maxRecDepth 100000 in
theorem lifted (os : Os) (started : os.Started) (H : Type) (enc : TypeId × Value → H) (F : Stop.Interp) :
    ReturnsInHanded {} Tryd.checked os 5 .any ((OpenSpec.ofChange Rows.planNeedsSpec).preRow enc Tryd.prog Tryd.f5 Rows.planNeedsRow.domain false Rows.planNeedsRow.laid) (((OpenSpec.ofChange Rows.planNeedsSpec).at F).post enc Tryd.prog Tryd.f5 false true false false) := by
  obtain ⟨places, hx⟩ := reads os enc
  refine returnsInHanded_of_row (C := Tryd.checked) (s := OpenSpec.ofChange Rows.planNeedsSpec) own started (by kernel_rfl) Tryd.func5
    (witness_row_at (enc := enc) (C := Tryd.checked) false (laidWorld os) #[.agg #[.slice none 0 0], .agg #[.slice none 0 0]] rfl (by kernel_rfl) (by kernel_rfl) (by kernel_rfl)
      (OpenSpec.preRow_of_cond 8 hx (by kernel_rfl) (fun k hk => by cases hk) (by kernel_rfl) (laid_met os))) ?_
  intro W base args ds gs before hval hW _ _ _ hL _ _
  exact contract H enc W base args ds gs before hval hW hL
theorem said : Rows.PlanNeedsSaid :=
  OpenClaim.holds_of_cond 5 Tryd.f5 rfl rfl rfl rfl rfl rfl rfl ⟨rfl, rfl, rfl, rfl, rfl⟩ rfl rfl rfl rfl rfl (by kernel_rfl) Tryd.func5 (by kernel_rfl)
    (of_decide_eq_true (by kernel_rfl)) (by unfold Func.isWrapper; rw [if_neg (of_decide_eq_false (by kernel_rfl))]; exact ⟨rfl, rfl⟩)
    (fun os started H enc _ F => by rw [OpenClaim.pre_eq_preRow]; exact lifted os started H enc F)
theorem plain (f : FuncId) (fn : Func) (hf : Tryd.pinned.checked.prog.funcNamed "junctionbox/junctionboxlaw32.PlanNeeds" = some f) (hfn : Tryd.pinned.checked.prog.funcs[f]? = some fn) :
    false = Tryd.pinned.checked.prog.looks [] ∧ ∀ (j : Nat) t, fn.params[j]? = some t → Tryd.pinned.checked.prog.wantsStandIn t = false := by
  obtain rfl : f = 5 := Option.some.inj ((show Tryd.prog.funcNamed "junctionbox/junctionboxlaw32.PlanNeeds" = some 5 by kernel_rfl).symm.trans hf) |>.symm
  obtain rfl : fn = Tryd.f5 := (Option.some.inj (Tryd.func5.symm.trans hfn)).symm
  refine ⟨by kernel_rfl, fun j t ht => ?_⟩
  rw [Tryd.params5] at ht
  have hm : t ∈ [46, 46] := by simpa using Array.mem_of_getElem? ht
  have hall : ([46, 46].all fun u => !Tryd.prog.wantsStandIn u) = true := by kernel_rfl
  exact (show Tryd.prog.wantsStandIn t = false by simpa using List.all_eq_true.1 hall t hm)
theorem PlanNeedsCard : Rows.PlanNeedsCardSaid :=
  Claim7.holds_tied_plain_at .later [] _ _ _ _ said (fun _ h => by cases h) (by kernel_rfl) (fun _ h => by cases h) planNeeds_row_tie rfl ⟨rfl, rfl⟩ (by kernel_rfl) rfl plain (by kernel_rfl)
end Go.Proofs.YtgajekpigkknnaaDoor
