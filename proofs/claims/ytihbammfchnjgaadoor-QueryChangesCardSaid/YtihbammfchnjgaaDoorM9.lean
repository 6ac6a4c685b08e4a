/- Part 9 of the proofs of these statements. No condition. -/
import Derived.Test.YtihbammfchnjgaaDoorM8
set_option linter.unusedVariables false
set_option linter.unusedSimpArgs false
/- table.Drop. No condition. -/
set_option linter.unusedSimpArgs false
namespace Go.Proofs.YtihbammfchnjgaaDoor.F
open Go Go.Proofs.YtihbammfchnjgaaDoor.A Go.Proofs.YtihbammfchnjgaaDoor.D
theorem e41 (x : List Rw) (p : Pfx) (hx : x.length ≤ 1000000) : LV E 41 [.agg [.ro (rrows x)], .agg (pav p)] = some (tupT (dropS x p)) := by
  rw [LV_R (fn := f41) rfl rfl rfl]
  have h60 := e60 x (by omega)
  unfold dropS tupT
  by_cases k1 : TabOk x
  · obtain ⟨i, i1, i2, i3, h69⟩ := e69 x p hx k1.rise.rows
    have ht := there_iff i2 i3 k1.rise.rows
    by_cases k4 : There x p
    · have k5 := ht.1 k4
      have k7 : (row x i).p = p := k5.2
      have f6 : IntKind.i64.wrap ((i : Int) + 1) = ((i + 1 : Nat) : Int) := by rw [IntWalk.i64_in _ (by omega)] <;> omega
      obtain ⟨z, e, h75⟩ := r75 (ys := []) (pend := []) (bs := [.box 0 24 [.ro (rrows x)], .box 0 32 (pav p), .box 0 24 [.lis 3 0 0 0], .lst 0 0 59 19 [], .lst 0 0 59 19 (rrows x)]) (id := 4) (g := 0) (l := x) rfl rfl k5.1 hx (by simp [LPB, pav_below])
      simp only [List.set_cons_succ, List.set_cons_zero, List.cons_append, List.nil_append] at h75
      have hq : D.ahead x p ++ past x p = x.take i ++ x.drop (i + 1) := by
        rw [lo_ahead i2 i3, hi_past k1.rise.rows i2 i3 (if_pos k5).symm]
      have hc : x.length - 1 ≤ (x.take i).length + ((x.drop (i + 1)).length + z.length) := by simp only [List.length_take, List.length_drop]; omega
      have hT : (rrows (x.take i ++ x.drop (i + 1)) ++ z).take (x.length - 1) = rrows (D.ahead x p ++ past x p) := by
        rw [hq]; exact List.take_left' (by simp only [rrows_len, List.length_append, List.length_take, List.length_drop]; omega)
      simp only [f41, ← rav_zer, RB, pickV, eqbV, notV, negV, convV, faddrV, fldV, idxV, eqaggV, iaddrV, isnilV, nilckV, cloV, extrV, slenV, minV, sidxV, abin, cmpInt, params, growLists, fillCells, newAt, rdPtr, wrPtr, AV.cells, asVal, lenOf, boundOf, rowsOf, argIds, freshIn, scalar1, setAll, AV.isData, AV.isYld, Nat.reduceAdd, Nat.reduceMul, Nat.reduceSub, Nat.reduceEqDiff, Nat.reduceLeDiff, Nat.reduceLT, Int.reduceNeg, ↓reduceIte, reduceCtorEq, Int.reduceEq, Int.reduceLT, Int.reduceLE, Int.reduceBEq, Int.reduceBNe, Int.reduceToNat, IntKind.bits, Int.reduceAdd, Int.reduceSub, Int.reduceMul, Int.reduceTDiv, Int.reduceTMod, DB, DB2, R7B, take_add, List.append_assoc, List.length_append, Nat.add_assoc, shrink_lit, ball_app, RG, LPB, h60, k1, h69, e70 x hx, k4, k5.1, k7, f6, h75, expIn_tab, expCell, List.nodup_cons, List.nodup_nil, List.not_mem_nil, not_false_eq_true, not_true_eq_false, and_true, and_false, if_false, List.mem_cons, mutIds, hc, hT]
    · have k5 : decide (i < x.length ∧ (row x i).p = p) = false := decide_eq_false fun h => k4 (ht.2 h)
      simp only [f41, ← rav_zer, RB, pickV, eqbV, notV, negV, convV, faddrV, fldV, idxV, eqaggV, iaddrV, isnilV, nilckV, cloV, extrV, slenV, minV, sidxV, abin, cmpInt, params, growLists, fillCells, newAt, rdPtr, wrPtr, AV.cells, asVal, lenOf, boundOf, rowsOf, argIds, freshIn, scalar1, setAll, AV.isData, AV.isYld, Nat.reduceAdd, Nat.reduceMul, Nat.reduceSub, Nat.reduceEqDiff, Nat.reduceLeDiff, Nat.reduceLT, Int.reduceNeg, ↓reduceIte, reduceCtorEq, Int.reduceEq, Int.reduceLT, Int.reduceLE, Int.reduceBEq, Int.reduceBNe, Int.reduceToNat, IntKind.bits, Int.reduceAdd, Int.reduceSub, Int.reduceMul, Int.reduceTDiv, Int.reduceTMod, DB, DB2, R7B, take_add, List.append_assoc, List.length_append, Nat.add_assoc, shrink_lit, ball_app, RG, LPB, h60, k1, h69, k4, k5, expIn_tab, expCell, List.nodup_cons, List.nodup_nil, List.not_mem_nil, not_false_eq_true, not_true_eq_false, and_true, and_false, if_false, List.mem_cons, mutIds, rrows_nil]
  · simp only [f41, RB, pickV, eqbV, notV, negV, convV, faddrV, fldV, idxV, eqaggV, iaddrV, isnilV, nilckV, cloV, extrV, slenV, minV, sidxV, abin, cmpInt, params, growLists, fillCells, newAt, rdPtr, wrPtr, AV.cells, asVal, lenOf, boundOf, rowsOf, argIds, freshIn, scalar1, setAll, AV.isData, AV.isYld, Nat.reduceAdd, Nat.reduceMul, Nat.reduceSub, Nat.reduceEqDiff, Nat.reduceLeDiff, Nat.reduceLT, Int.reduceNeg, ↓reduceIte, reduceCtorEq, Int.reduceEq, Int.reduceLT, Int.reduceLE, Int.reduceBEq, Int.reduceBNe, Int.reduceToNat, IntKind.bits, Int.reduceAdd, Int.reduceSub, Int.reduceMul, Int.reduceTDiv, Int.reduceTMod, DB, DB2, R7B, take_add, List.append_assoc, List.length_append, Nat.add_assoc, shrink_lit, ball_app, RG, LPB, h60, k1, expIn_tab, expCell, List.nodup_cons, List.nodup_nil, List.not_mem_nil, not_false_eq_true, not_true_eq_false, and_true, and_false, if_false, List.mem_cons, mutIds, rrows_nil]
end Go.Proofs.YtihbammfchnjgaaDoor.F

/- Tables that change ahead of a place: the plain law. No condition. -/
set_option linter.unusedSimpArgs false
set_option linter.unusedSectionVars false
namespace Go.Proofs.YtihbammfchnjgaaDoor.F
open Go Go.Proofs.YtihbammfchnjgaaDoor.A Go.Proofs.YtihbammfchnjgaaDoor.D
/-- Rows within a prefix and behind another one. -/
def tailQ (p q : Pfx) (r : Rw) : Bool := decide (Holds p r.p) && decide (0 < cmpP r.p q)
theorem ap_len (p : Pfx) : ∀ x : List Rw, (D.ahead x p).length + (past x p).length ≤ x.length ∧ (There x p → (D.ahead x p).length + (past x p).length + 1 ≤ x.length)
  | [] => ⟨by simp [D.ahead, past], fun ⟨r, hr, _⟩ => by cases hr⟩
  | r :: x => by
    obtain ⟨h1, h2⟩ := ap_len p x
    unfold D.ahead past There at *
    simp only [List.filter_cons, List.length_cons]
    rcases cmp_range r.p p with h | h | h
    · simp only [h, show ((-1 : Int) < 0) from by decide, show ¬ ((0 : Int) < -1) from by decide, decide_true, decide_false, if_true, Bool.false_eq_true, if_false, List.length_cons]
      refine ⟨by omega, fun ⟨y, hy, e⟩ => ?_⟩
      rcases List.mem_cons.1 hy with rfl | hy
      · rw [e, cmp_self] at h; omega
      · have := h2 ⟨y, hy, e⟩; omega
    · simp only [h, show ¬ ((0 : Int) < 0) from by decide, decide_false, Bool.false_eq_true, if_false]
      exact ⟨by omega, fun _ => by omega⟩
    · simp only [h, show ¬ ((1 : Int) < 0) from by decide, show ((0 : Int) < 1) from by decide, decide_true, decide_false, if_true, Bool.false_eq_true, if_false, List.length_cons]
      refine ⟨by omega, fun ⟨y, hy, e⟩ => ?_⟩
      rcases List.mem_cons.1 hy with rfl | hy
      · rw [e, cmp_self] at h; omega
      · have := h2 ⟨y, hy, e⟩; omega
theorem put_rise {x : List Rw} (hr : Rise x) (r : Rw) : Rise (putR x r) := by
  unfold putR Rise
  rw [List.append_assoc, List.pairwise_append]
  refine ⟨hr.filter _, ?_, fun a ha b hb => ?_⟩
  · rw [List.singleton_append, List.pairwise_cons]
    refine ⟨fun b hb => ?_, hr.filter _⟩
    have := (List.mem_filter.1 hb).2
    have h1 := cmp_anti b.p r.p
    simp at this; omega
  · have h1 : cmpP a.p r.p < 0 := by simpa using (List.mem_filter.1 ha).2
    rcases List.mem_cons.1 hb with rfl | hb
    · exact h1
    · have h2 : 0 < cmpP b.p r.p := by simpa using (List.mem_filter.1 hb).2
      exact cmp_trans h1 (by have := cmp_anti b.p r.p; omega)
theorem drop_rise {x : List Rw} (hr : Rise x) (p : Pfx) : Rise (D.ahead x p ++ past x p) := by
  unfold Rise
  rw [List.pairwise_append]
  refine ⟨hr.filter _, hr.filter _, fun a ha b hb => ?_⟩
  have h1 : cmpP a.p p < 0 := by simpa using (List.mem_filter.1 ha).2
  have h2 : 0 < cmpP b.p p := by simpa using (List.mem_filter.1 hb).2
  exact cmp_trans h1 (by have := cmp_anti b.p p; omega)
theorem set_tab {x : List Rw} {p : Pfx} {h : Int} (he : (setS x p h).2 = 0) : TabOk x ∧ PfxOk p ∧ hopOk h ∧ (setS x p h).1 = putR x ⟨p, h⟩ ∧ TabOk (putR x ⟨p, h⟩) := by
  have key : TabOk x → PfxOk p → hopOk h → (There x p ∨ x.length ≠ 40) → TabOk (putR x ⟨p, h⟩) := fun k1 k2 k3 k4 => by
    obtain ⟨l1, l2⟩ := ap_len p x
    have hl := k1.len
    refine tab_of ?_ (put_rise k1.rise _) fun r hr => ?_
    · unfold putR
      simp only [List.length_append, List.length_singleton]
      rcases k4 with k4 | k4
      · have := l2 k4; omega
      · omega
    · unfold putR at hr
      simp only [List.mem_append, List.mem_singleton] at hr
      rcases hr with (hr | rfl) | hr
      · exact k1.mem (List.mem_filter.1 hr).1
      · exact ⟨k2, k3⟩
      · exact k1.mem (List.mem_filter.1 hr).1
  unfold setS at *
  split at he
  · rename_i k1
    split at he
    · rename_i k2
      split at he
      · rename_i k3
        rw [if_pos k1, if_pos k2, if_pos k3]
        exact ⟨k1, k2.1, k2.2, rfl, key k1 k2.1 k2.2 (.inl k3)⟩
      · rename_i k3
        split at he
        · cases he
        · rename_i k4
          rw [if_pos k1, if_pos k2, if_neg k3, if_neg k4]
          exact ⟨k1, k2.1, k2.2, rfl, key k1 k2.1 k2.2 (.inr k4)⟩
    · cases he
  · cases he
theorem drop_tab {x : List Rw} {p : Pfx} (he : (dropS x p).2 = 0) : TabOk x ∧ (dropS x p).1 = D.ahead x p ++ past x p ∧ TabOk (D.ahead x p ++ past x p) := by
  unfold dropS at *
  split at he
  · rename_i k1
    split at he
    · rename_i k2
      rw [if_pos k1, if_pos k2]
      refine ⟨k1, rfl, tab_of ?_ (drop_rise k1.rise _) fun r hr => ?_⟩
      · have := (ap_len p x).1; have := k1.len
        rw [List.length_append]; omega
      · rcases List.mem_append.1 hr with hr | hr
        · exact k1.mem (List.mem_filter.1 hr).1
        · exact k1.mem (List.mem_filter.1 hr).1
    · cases he
  · cases he
theorem cmp_up {a b c : Pfx} (h1 : 0 < cmpP a b) (h2 : cmpP c b ≤ 0) : 0 < cmpP a c := by
  have h3 := cmp_anti a b
  have h4 := cmp_anti a c
  rcases Int.lt_or_eq_of_le h2 with h | h
  · have := cmp_trans h (show cmpP b a < 0 by omega); omega
  · rw [cmp_zero h]; exact h1
section
variable {x : List Rw} {p q : Pfx} {y : Pfx} (hy : cmpP y q ≤ 0)
include hy
theorem tail_ahead : (D.ahead x y).filter (tailQ p q) = [] := List.filter_eq_nil_iff.2 fun r hr => by
  have h1 : cmpP r.p y < 0 := by simpa using (List.mem_filter.1 hr).2
  unfold tailQ
  simp only [Bool.and_eq_true, decide_eq_true_eq, not_and]
  intro _ h2
  have := cmp_up h2 hy; omega
theorem tail_past : (past x y).filter (tailQ p q) = x.filter (tailQ p q) := by
  unfold past
  rw [List.filter_filter]
  congr 1
  funext r
  unfold tailQ
  by_cases h : 0 < cmpP r.p q
  · have := cmp_up h hy; simp [this]
  · simp [h]
theorem tail_put (h : Int) : (putR x ⟨y, h⟩).filter (tailQ p q) = x.filter (tailQ p q) := by
  unfold putR
  rw [List.filter_append, List.filter_append, tail_ahead hy, tail_past hy]
  have : [(⟨y, h⟩ : Rw)].filter (tailQ p q) = [] := by
    unfold tailQ
    simp
    omega
  rw [this]; rfl
theorem tail_drop : (D.ahead x y ++ past x y).filter (tailQ p q) = x.filter (tailQ p q) := by
  rw [List.filter_append, tail_ahead hy, tail_past hy]; rfl
end
section
variable {T T' : List Rw} {p : Pfx} {r3 : Rw} {j : Nat}
/-- A page of a table that has changed ahead of it. -/
theorem left_on (hT : TabOk T) (h3 : ((within T p).take 3).getLast? = some r3) (hj : 3 ≤ j) (hjl : j ≤ (within T p).length) (ht : T'.filter (tailQ p r3.p) = (within T p).drop 3) : T'.filter (pageOf p (curOf zerC false ((within T p).take j))) = (within T p).drop j := by
  have hR : Rise (within T p) := Rise.filter hT.rise _
  obtain ⟨r, hr⟩ : ∃ r, ((within T p).take j).getLast? = some r := by
    cases h : ((within T p).take j).getLast? with
    | some r => exact ⟨r, rfl⟩
    | none =>
      have : (within T p).take j = [] := by simpa using h
      have := congrArg List.length this
      rw [List.length_take, List.length_nil] at this
      omega
  have e : curOf zerC false ((within T p).take j) = ⟨true, false, r.p⟩ := by unfold curOf; rw [hr]
  have b3 := Rise.behind hR h3
  have bj := Rise.behind hR hr
  have hle : cmpP r3.p r.p ≤ 0 := by
    rw [List.getLast?_eq_getElem?, List.length_take, Nat.min_eq_left (by omega)] at h3 hr
    rw [List.getElem?_take] at h3 hr
    rw [if_pos (by omega)] at h3 hr
    obtain ⟨i3, e3⟩ := List.getElem?_eq_some_iff.1 h3
    obtain ⟨ij, ej⟩ := List.getElem?_eq_some_iff.1 hr
    by_cases h : j = 3
    · subst h; rw [h3] at hr; cases hr; rw [cmp_self]; exact Int.le_refl _
    · have := List.pairwise_iff_getElem.1 hR (3 - 1) (j - 1) i3 ij (by omega)
      rw [e3, ej] at this; omega
  rw [e, ← bj]
  have e1 : T'.filter (pageOf p ⟨true, false, r.p⟩) = (T'.filter (tailQ p r3.p)).filter (fun x => decide (0 < cmpP x.p r.p)) := by
    rw [List.filter_filter]
    congr 1
    funext x
    simp only [pageOf, tailQ, Bool.not_true, Bool.false_or]
    by_cases h : 0 < cmpP x.p r.p
    · simp [h, cmp_up h hle]
    · simp [h]
  rw [e1, ht, ← b3, List.filter_filter]
  congr 1
  funext x
  by_cases h : 0 < cmpP x.p r.p
  · simp [h, cmp_up h hle]
  · simp [h]
theorem page_on (hT : TabOk T) (hT' : TabOk T') (hp : PfxOk p) (h3 : ((within T p).take 3).getLast? = some r3) (hj : 3 ≤ j) (hjl : j ≤ (within T p).length) (ht : T'.filter (tailQ p r3.p) = (within T p).drop 3) :
    page T' p (curOf zerC false ((within T p).take j)) 2 = ⟨((within T p).drop j).take 2, curOf zerC (decide (((within T p).drop j).length ≤ 2)) ((within T p).take (j + 2)), 0⟩ := by
  unfold page
  rw [if_pos hT', if_pos hp, if_pos ⟨goes_on hT, by omega, by omega⟩, left_on hT h3 hj hjl ht, List.take_add]
  rw [← curOf_append]
  rfl
end
/-- Of a row of statements: from the n-th on. -/
def dropC : Nat → ACode → ACode
  | n + 1, .seq _ t => dropC n t
  | _, c => c
/-- The loop that the first statement ends in. -/
def loopC : ACode → ACode
  | .seq (.seq _ (.block _ (.loop _ c))) _ => c
  | c => c
end Go.Proofs.YtihbammfchnjgaaDoor.F

/- QueryChanges: the pages behind what has changed. No condition. -/
set_option linter.unusedSimpArgs false
namespace Go.Proofs.YtihbammfchnjgaaDoor.F
open Go Go.Proofs.YtihbammfchnjgaaDoor.A Go.Proofs.YtihbammfchnjgaaDoor.D
set_option maxRecDepth 4000 in
theorem changes2  (x T T' : List Rw) (p : Pfx) (r3 : Rw) (hT : TabOk T) (hT' : TabOk T') (hp : PfxOk p) (h3 : ((within T p).take 3).getLast? = some r3) (hA3 : 3 < (within T p).length) (ht : T'.filter (tailQ p r3.p) = (within T p).drop 3) :
    W E [] (ZV [.t 6] false) 7 [4, 7, 9, 11, 16, 84] (loopC (dropC 9 f10.body)) [(4, .ptr 1 0 0 0), (7, .ptr 2 0 0 0), (9, .ptr 5 0 0 0), (11, .lis 6 0 0 (within T p).length), (16, .lis 4 0 0 3), (84, .int .i64 0)]
      ⟨[.box 0 24 [.ro (rrows x)], .box 0 32 (pav p), .box 0 24 [.ro (rrows T')], .lst 0 0 59 19 [], .lst 0 0 59 19 (rrows ((within T p).take 3)), .box 0 34 (cav (curOf zerC false ((within T p).take 3))), .lst 0 0 59 19 (rrows (within T p))], []⟩ [.blk 2, .code (dropC 10 f10.body)] = some (.bool true) := by
  simp only [f10, dropC, loopC, ← cav_zer]
  have hA : (within T p).length ≤ 40 := Nat.le_trans (within_len T p) hT.len
  have hpo := fun (j : Nat) (h1 : 3 ≤ j) (h2 : j ≤ (within T p).length) => page_on hT hT' hp h3 h1 h2 ht
  have hT4 : T'.length ≤ 1000000 := by have := hT'.len; omega
  generalize hwA : within T p = A at *
  refine (W_rec2 (β := AV) (ι := {i : Nat // 3 + 2 * i ≤ A.length}) (M := fun i => [(4, .ptr 1 0 0 0), (7, .ptr 2 0 0 0), (9, .ptr 5 0 0 0), (11, .lis 6 0 0 A.length), (16, .lis 4 i.1 0 (3 + 2 * i.1)), (84, .int .i64 (i.1 : Int))])
    (H := fun i => ⟨[.box 0 24 [.ro (rrows x)], .box 0 32 (pav p), .box 0 24 [.ro (rrows T')], .lst 0 0 59 19 [], .lst 0 i.1 59 19 (rrows (A.take (3 + 2 * i.1))), .box 0 34 (cav (curOf zerC false (A.take (3 + 2 * i.1)))), .lst 0 0 59 19 (rrows A)], []⟩)
    (r := fun _ => some (AV.bool true)) (μ := fun i => 40 - i.1) (fun i => ?_) (fun i ih => ?_) ⟨0, by omega⟩ rfl rfl)
  · simp [LPB, pav_below, cav_below]
  · obtain ⟨i, hi⟩ := i
    simp only at ih ⊢
    have f1 : (i : Int) < 40 := by omega
    have f2 : IntKind.i64.wrap ((i : Int) + 1) = ((i + 1 : Nat) : Int) := by rw [IntWalk.i64_in _ (by omega)] <;> omega
    have hpm := hpo (3 + 2 * i) (by omega) hi
    obtain ⟨k, hk⟩ : ∃ k, k = 3 + 2 * i := ⟨_, rfl⟩
    rw [← hk] at hpm hi ⊢
    generalize hR : (A.drop k).take 2 = R at hpm
    have hRl : R.length = min 2 (A.length - k) := by rw [← hR]; simp
    have f7 : (k + R.length) * 40 ≤ 140737488355328 := by omega
    have f8 : k + R.length ≤ 4611686018427387904 := by omega
    have f9 : (rrows (A.take k)).length = k := by rw [rrows_len]; simp; omega
    have f10 : (rrows (A.take k)).take k = rrows (A.take k) := List.take_of_length_le (Nat.le_of_eq f9)
    have f11 : A.take k ++ R = A.take (k + 2) := by rw [← hR, List.take_add]
    have f12 : (rrows R).take R.length = rrows R := by rw [← rrows_len R, List.take_length]
    have f13 : (rrows A).take A.length = rrows A := by rw [← rrows_len A, List.take_length]
    by_cases hd : (A.drop k).length ≤ 2
    · have hd' := hd
      rw [List.length_drop] at hd'
      have f14 : A.take (k + 2) = A := List.take_of_length_le (by omega)
      have f15 : k + R.length = A.length := by omega
      simp only [hd, decide_true] at hpm
      simp only [RB, pickV, eqbV, notV, negV, convV, faddrV, fldV, idxV, eqaggV, iaddrV, isnilV, nilckV, cloV, extrV, slenV, minV, sidxV, abin, cmpInt, params, growLists, fillCells, newAt, rdPtr, wrPtr, AV.cells, asVal, lenOf, boundOf, rowsOf, argIds, freshIn, scalar1, setAll, AV.isData, AV.isYld, Nat.reduceAdd, Nat.reduceMul, Nat.reduceSub, Nat.reduceEqDiff, Nat.reduceLeDiff, Nat.reduceLT, Int.reduceNeg, ↓reduceIte, reduceCtorEq, Int.reduceEq, Int.reduceLT, Int.reduceLE, Int.reduceBEq, Int.reduceBNe, Int.reduceToNat, IntKind.bits, Int.reduceAdd, Int.reduceSub, Int.reduceMul, Int.reduceTDiv, Int.reduceTMod, DB, DB2, R7B, f1, f2, e13 T' hT4 p, hpm, bne_self_eq_false, curOf_done, aappend, f7, f8, f9, f10, f11, f12, f13, f14, f15, pairOk, AV.ids, List.contains_cons, List.contains_nil, Nat.reduceBEq, List.all_cons, List.all_nil, Bool.or_self, Bool.not_false, Bool.and_self, Bool.or_false, mutIds_pav, mutIds_aav, mutIds_rav, mutIds_cav, mutIds_bav, e24 A A (by omega), CW_some, scalar, scalar1, lockAll, lockAt, reduceCtorEq, extrV, List.all_cons, List.all_nil, show A.length * 40 ≤ 140737488355328 by omega, show A.length ≤ 4611686018427387904 by omega]
      done
    · have hd' := hd
      rw [List.length_drop] at hd'
      have f15 : R.length = 2 := by omega
      simp only [hd, decide_false] at hpm
      have ih := ih ⟨i + 1, by omega⟩ (by simp only; omega)
      simp only [show 3 + 2 * (i + 1) = k + 2 by omega] at ih
      simp only [f15] at f7 f8 f12
      simp only [RB, pickV, eqbV, notV, negV, convV, faddrV, fldV, idxV, eqaggV, iaddrV, isnilV, nilckV, cloV, extrV, slenV, minV, sidxV, abin, cmpInt, params, growLists, fillCells, newAt, rdPtr, wrPtr, AV.cells, asVal, lenOf, boundOf, rowsOf, argIds, freshIn, scalar1, setAll, AV.isData, AV.isYld, Nat.reduceAdd, Nat.reduceMul, Nat.reduceSub, Nat.reduceEqDiff, Nat.reduceLeDiff, Nat.reduceLT, Int.reduceNeg, ↓reduceIte, reduceCtorEq, Int.reduceEq, Int.reduceLT, Int.reduceLE, Int.reduceBEq, Int.reduceBNe, Int.reduceToNat, IntKind.bits, Int.reduceAdd, Int.reduceSub, Int.reduceMul, Int.reduceTDiv, Int.reduceTMod, DB, DB2, R7B, f1, f2, e13 T' hT4 p, hpm, bne_self_eq_false, curOf_done, aappend, f7, f8, f9, f10, f11, f12, f13, f15, pairOk, AV.ids, List.contains_cons, List.contains_nil, Nat.reduceBEq, List.all_cons, List.all_nil, Bool.or_self, Bool.not_false, Bool.and_self, Bool.or_false, mutIds_pav, mutIds_aav, mutIds_rav, mutIds_cav, mutIds_bav, CW_some, scalar, scalar1, lockAll, lockAt, reduceCtorEq, extrV, List.all_cons, List.all_nil]
      exact ih
set_option maxRecDepth 4000 in
theorem changes3 (y : Rw) (x T T' : List Rw) (p : Pfx) (r3 : Rw) (hT : TabOk T) (hT' : TabOk T') (hp : PfxOk p) (h3 : ((within T p).take 3).getLast? = some r3) (hA3 : 3 < (within T p).length) (ht : T'.filter (tailQ p r3.p) = (within T p).drop 3) :
    W E [] (ZV [.t 6] false) 8 [4, 7, 9, 11, 16, 84] (loopC (dropC 9 f10.body)) [(4, .ptr 1 0 0 0), (7, .ptr 2 0 0 0), (9, .ptr 5 0 0 0), (11, .lis 6 0 0 (within T p).length), (16, .lis 4 0 0 3), (84, .int .i64 0)]
      ⟨[.box 0 24 [.ro (rrows x)], .box 0 32 (pav p), .box 0 24 [.ro (rrows T')], .lst 0 0 59 19 [], .lst 0 0 59 19 (rrows ((within T p).take 3)), .box 0 34 (cav (curOf zerC false ((within T p).take 3))), .lst 0 0 59 19 (rrows (within T p)), .box 0 59 (rav y)], []⟩ [.blk 2, .code (dropC 10 f10.body)] = some (.bool true) := by
  simp only [f10, dropC, loopC, ← cav_zer]
  have hA : (within T p).length ≤ 40 := Nat.le_trans (within_len T p) hT.len
  have hpo := fun (j : Nat) (h1 : 3 ≤ j) (h2 : j ≤ (within T p).length) => page_on hT hT' hp h3 h1 h2 ht
  have hT4 : T'.length ≤ 1000000 := by have := hT'.len; omega
  generalize hwA : within T p = A at *
  refine (W_rec2 (β := AV) (ι := {i : Nat // 3 + 2 * i ≤ A.length}) (M := fun i => [(4, .ptr 1 0 0 0), (7, .ptr 2 0 0 0), (9, .ptr 5 0 0 0), (11, .lis 6 0 0 A.length), (16, .lis 4 i.1 0 (3 + 2 * i.1)), (84, .int .i64 (i.1 : Int))])
    (H := fun i => ⟨[.box 0 24 [.ro (rrows x)], .box 0 32 (pav p), .box 0 24 [.ro (rrows T')], .lst 0 0 59 19 [], .lst 0 i.1 59 19 (rrows (A.take (3 + 2 * i.1))), .box 0 34 (cav (curOf zerC false (A.take (3 + 2 * i.1)))), .lst 0 0 59 19 (rrows A), .box 0 59 (rav y)], []⟩)
    (r := fun _ => some (AV.bool true)) (μ := fun i => 40 - i.1) (fun i => ?_) (fun i ih => ?_) ⟨0, by omega⟩ rfl rfl)
  · simp [LPB, pav_below, cav_below]
  · obtain ⟨i, hi⟩ := i
    simp only at ih ⊢
    have f1 : (i : Int) < 40 := by omega
    have f2 : IntKind.i64.wrap ((i : Int) + 1) = ((i + 1 : Nat) : Int) := by rw [IntWalk.i64_in _ (by omega)] <;> omega
    have hpm := hpo (3 + 2 * i) (by omega) hi
    obtain ⟨k, hk⟩ : ∃ k, k = 3 + 2 * i := ⟨_, rfl⟩
    rw [← hk] at hpm hi ⊢
    generalize hR : (A.drop k).take 2 = R at hpm
    have hRl : R.length = min 2 (A.length - k) := by rw [← hR]; simp
    have f7 : (k + R.length) * 40 ≤ 140737488355328 := by omega
    have f8 : k + R.length ≤ 4611686018427387904 := by omega
    have f9 : (rrows (A.take k)).length = k := by rw [rrows_len]; simp; omega
    have f10 : (rrows (A.take k)).take k = rrows (A.take k) := List.take_of_length_le (Nat.le_of_eq f9)
    have f11 : A.take k ++ R = A.take (k + 2) := by rw [← hR, List.take_add]
    have f12 : (rrows R).take R.length = rrows R := by rw [← rrows_len R, List.take_length]
    have f13 : (rrows A).take A.length = rrows A := by rw [← rrows_len A, List.take_length]
    by_cases hd : (A.drop k).length ≤ 2
    · have hd' := hd
      rw [List.length_drop] at hd'
      have f14 : A.take (k + 2) = A := List.take_of_length_le (by omega)
      have f15 : k + R.length = A.length := by omega
      simp only [hd, decide_true] at hpm
      simp only [RB, pickV, eqbV, notV, negV, convV, faddrV, fldV, idxV, eqaggV, iaddrV, isnilV, nilckV, cloV, extrV, slenV, minV, sidxV, abin, cmpInt, params, growLists, fillCells, newAt, rdPtr, wrPtr, AV.cells, asVal, lenOf, boundOf, rowsOf, argIds, freshIn, scalar1, setAll, AV.isData, AV.isYld, Nat.reduceAdd, Nat.reduceMul, Nat.reduceSub, Nat.reduceEqDiff, Nat.reduceLeDiff, Nat.reduceLT, Int.reduceNeg, ↓reduceIte, reduceCtorEq, Int.reduceEq, Int.reduceLT, Int.reduceLE, Int.reduceBEq, Int.reduceBNe, Int.reduceToNat, IntKind.bits, Int.reduceAdd, Int.reduceSub, Int.reduceMul, Int.reduceTDiv, Int.reduceTMod, DB, DB2, R7B, f1, f2, e13 T' hT4 p, hpm, bne_self_eq_false, curOf_done, aappend, f7, f8, f9, f10, f11, f12, f13, f14, f15, pairOk, AV.ids, List.contains_cons, List.contains_nil, Nat.reduceBEq, List.all_cons, List.all_nil, Bool.or_self, Bool.not_false, Bool.and_self, Bool.or_false, mutIds_pav, mutIds_aav, mutIds_rav, mutIds_cav, mutIds_bav, e24 A A (by omega), CW_some, scalar, scalar1, lockAll, lockAt, reduceCtorEq, extrV, List.all_cons, List.all_nil, show A.length * 40 ≤ 140737488355328 by omega, show A.length ≤ 4611686018427387904 by omega]
      done
    · have hd' := hd
      rw [List.length_drop] at hd'
      have f15 : R.length = 2 := by omega
      simp only [hd, decide_false] at hpm
      have ih := ih ⟨i + 1, by omega⟩ (by simp only; omega)
      simp only [show 3 + 2 * (i + 1) = k + 2 by omega] at ih
      simp only [f15] at f7 f8 f12
      simp only [RB, pickV, eqbV, notV, negV, convV, faddrV, fldV, idxV, eqaggV, iaddrV, isnilV, nilckV, cloV, extrV, slenV, minV, sidxV, abin, cmpInt, params, growLists, fillCells, newAt, rdPtr, wrPtr, AV.cells, asVal, lenOf, boundOf, rowsOf, argIds, freshIn, scalar1, setAll, AV.isData, AV.isYld, Nat.reduceAdd, Nat.reduceMul, Nat.reduceSub, Nat.reduceEqDiff, Nat.reduceLeDiff, Nat.reduceLT, Int.reduceNeg, ↓reduceIte, reduceCtorEq, Int.reduceEq, Int.reduceLT, Int.reduceLE, Int.reduceBEq, Int.reduceBNe, Int.reduceToNat, IntKind.bits, Int.reduceAdd, Int.reduceSub, Int.reduceMul, Int.reduceTDiv, Int.reduceTMod, DB, DB2, R7B, f1, f2, e13 T' hT4 p, hpm, bne_self_eq_false, curOf_done, aappend, f7, f8, f9, f10, f11, f12, f13, f15, pairOk, AV.ids, List.contains_cons, List.contains_nil, Nat.reduceBEq, List.all_cons, List.all_nil, Bool.or_self, Bool.not_false, Bool.and_self, Bool.or_false, mutIds_pav, mutIds_aav, mutIds_rav, mutIds_cav, mutIds_bav, CW_some, scalar, scalar1, lockAll, lockAt, reduceCtorEq, extrV, List.all_cons, List.all_nil]
      exact ih
end Go.Proofs.YtihbammfchnjgaaDoor.F

/- QueryChanges: the run. No condition. -/
set_option linter.unusedSimpArgs false
namespace Go.Proofs.YtihbammfchnjgaaDoor.F
open Go Go.Proofs.YtihbammfchnjgaaDoor.A Go.Proofs.YtihbammfchnjgaaDoor.D
set_option maxRecDepth 4000 in
theorem changesLaw (x : List Rw) (p : Pfx) (l : List Rw) (hl : l.length ≤ 9223372036854775807) : LV E 10 [.agg [.ro (rrows x)], .agg (pav p), .ro (rrows l)] = some (.bool true) := by
  have hT : (x.take 41).length ≤ 1000000 := by simp; omega
  rw [LV_R (fn := f10) rfl rfl rfl]
  simp only [f10, ← cav_zer]
  simp only [← pav_zer, ← rav_zer, RB, pickV, eqbV, notV, negV, convV, faddrV, fldV, idxV, eqaggV, iaddrV, isnilV, nilckV, cloV, extrV, slenV, minV, sidxV, abin, cmpInt, params, growLists, fillCells, newAt, rdPtr, wrPtr, AV.cells, asVal, lenOf, boundOf, rowsOf, argIds, freshIn, scalar1, setAll, AV.isData, AV.isYld, Nat.reduceAdd, Nat.reduceMul, Nat.reduceSub, Nat.reduceEqDiff, Nat.reduceLeDiff, Nat.reduceLT, Int.reduceNeg, ↓reduceIte, reduceCtorEq, Int.reduceEq, Int.reduceLT, Int.reduceLE, Int.reduceBEq, Int.reduceBNe, Int.reduceToNat, IntKind.bits, Int.reduceAdd, Int.reduceSub, Int.reduceMul, Int.reduceTDiv, Int.reduceTMod, DB, DB2, R7B, e11, e12]
  generalize x.take 41 = T at *
  by_cases h1 : TabOk T
  · by_cases h2 : PfxOk p
    · have hw : T.filter (fun r => decide (Holds p r.p)) = within T p := rfl
      have hA : (within T p).length ≤ 40 := Nat.le_trans (within_len T p) h1.len
      have hpg := page_at (T := T) (p := p) (k := 0) (m := 3) h1 h2 (Nat.zero_le _) (by omega) (by omega)
      rw [List.take_zero, curOf_nil, List.drop_zero, Nat.zero_add, show (⟨zerC.begun, false, zerC.after⟩ : Cur) = zerC from rfl] at hpg
      simp only [Int.cast_ofNat_Int] at hpg
      by_cases h3 : (within T p).length ≤ 3
      · simp only [RB, pickV, eqbV, notV, negV, convV, faddrV, fldV, idxV, eqaggV, iaddrV, isnilV, nilckV, cloV, extrV, slenV, minV, sidxV, abin, cmpInt, params, growLists, fillCells, newAt, rdPtr, wrPtr, AV.cells, asVal, lenOf, boundOf, rowsOf, argIds, freshIn, scalar1, setAll, AV.isData, AV.isYld, Nat.reduceAdd, Nat.reduceMul, Nat.reduceSub, Nat.reduceEqDiff, Nat.reduceLeDiff, Nat.reduceLT, Int.reduceNeg, ↓reduceIte, reduceCtorEq, Int.reduceEq, Int.reduceLT, Int.reduceLE, Int.reduceBEq, Int.reduceBNe, Int.reduceToNat, IntKind.bits, Int.reduceAdd, Int.reduceSub, Int.reduceMul, Int.reduceTDiv, Int.reduceTMod, DB, DB2, R7B, e13 T hT p, hpg, h3, curOf_done, bne_self_eq_false, CW_some, scalar, scalar1, lockAll, lockAt, reduceCtorEq, extrV, List.all_cons, List.all_nil]
      · obtain ⟨r3, hr3⟩ : ∃ r, ((within T p).take 3).getLast? = some r := by
          cases h : ((within T p).take 3).getLast? with
          | some r => exact ⟨r, rfl⟩
          | none =>
            have : (within T p).take 3 = [] := by simpa using h
            have := congrArg List.length this
            rw [List.length_take, List.length_nil] at this
            omega
        have hC : curOf zerC false ((within T p).take 3) = ⟨true, false, r3.p⟩ := by unfold curOf; rw [hr3]
        have ht0 : T.filter (tailQ p r3.p) = (within T p).drop 3 := by
          have := Rise.behind (l := within T p) (Rise.filter h1.rise _) hr3
          rw [← this]
          unfold within
          rw [List.filter_filter]
          congr 1; funext y; unfold tailQ; rw [Bool.and_comm]
        have hl3 : ((within T p).take 3).length = 3 := by rw [List.length_take]; omega
        have h2e := fun T' (hT' : TabOk T') ht => changes2 x T T' p r3 h1 hT' h2 hr3 (by omega) ht
        simp only [RB, pickV, eqbV, notV, negV, convV, faddrV, fldV, idxV, eqaggV, iaddrV, isnilV, nilckV, cloV, extrV, slenV, minV, sidxV, abin, cmpInt, params, growLists, fillCells, newAt, rdPtr, wrPtr, AV.cells, asVal, lenOf, boundOf, rowsOf, argIds, freshIn, scalar1, setAll, AV.isData, AV.isYld, Nat.reduceAdd, Nat.reduceMul, Nat.reduceSub, Nat.reduceEqDiff, Nat.reduceLeDiff, Nat.reduceLT, Int.reduceNeg, ↓reduceIte, reduceCtorEq, Int.reduceEq, Int.reduceLT, Int.reduceLE, Int.reduceBEq, Int.reduceBNe, Int.reduceToNat, IntKind.bits, Int.reduceAdd, Int.reduceSub, Int.reduceMul, Int.reduceTDiv, Int.reduceTMod, DB, DB2, R7B, e13 T hT p, hpg, h3, curOf_done, bne_self_eq_false, CW_some, scalar, scalar1, lockAll, lockAt, reduceCtorEq, extrV, List.all_cons, List.all_nil, e23 T hT p, h1, h2, hw, rrows_len, hl3, hC]
        have h3e := fun y T' (hT' : TabOk T') ht => changes3 y x T T' p r3 h1 hT' h2 hr3 (by omega) ht
        rw [hC] at h2e h3e
        generalize within T p = A at *
        refine (W_rec2 (β := AV) (ι := {s : Nat × List Rw // s.1 ≤ 8 ∧ TabOk s.2 ∧ s.2.filter (tailQ p r3.p) = A.drop 3}) (M := fun s => [(4, .ptr 1 0 0 0), (7, .ptr 2 0 0 0), (8, .lis 4 0 0 3), (9, .ptr 5 0 0 0), (11, .lis 6 0 0 A.length), (46, .ro (rrows l)), (47, .int .i64 (l.length : Int)), (48, .int .i64 (s.1.1 : Int))])
          (H := fun s => ⟨[.box 0 24 [.ro (rrows x)], .box 0 32 (pav p), .box 0 24 [.ro (rrows s.1.2)], .lst 0 0 59 19 [], .lst 0 0 59 19 (rrows (A.take 3)), .box 0 34 (cav ⟨true, false, r3.p⟩), .lst 0 0 59 19 (rrows A)], []⟩)
          (r := fun _ => some (AV.bool true)) (μ := fun s => 9 - s.1.1) (fun s => ?_) (fun s ih => ?_) ⟨(0, T), by omega, h1, ht0⟩ rfl rfl)
        · simp [LPB, pav_below, cav_below]
        · obtain ⟨⟨k, T'⟩, hk8, hT', ht⟩ := s
          simp only at hk8 hT' ht ih ⊢
          have hend := h2e T' hT' ht
          have hend3 := fun y => h3e y T' hT' ht
          have hT4 : T'.length ≤ 1000000 := by have := hT'.len; omega
          by_cases hk : k < l.length
          · have f1 : (k : Int) < (l.length : Int) := by omega
            have f2 : (0 : Int) ≤ (k : Int) := by omega
            have g1 := rrows_get l hk
            generalize row l k = y at g1
            by_cases h8 : k = 8
            · have f3 : ((k : Int) == 8) = true := by rw [beq_iff_eq]; omega
              simp only [RB, pickV, eqbV, notV, negV, convV, faddrV, fldV, idxV, eqaggV, iaddrV, isnilV, nilckV, cloV, extrV, slenV, minV, sidxV, abin, cmpInt, params, growLists, fillCells, newAt, rdPtr, wrPtr, AV.cells, asVal, lenOf, boundOf, rowsOf, argIds, freshIn, scalar1, setAll, AV.isData, AV.isYld, Nat.reduceAdd, Nat.reduceMul, Nat.reduceSub, Nat.reduceEqDiff, Nat.reduceLeDiff, Nat.reduceLT, Int.reduceNeg, ↓reduceIte, reduceCtorEq, Int.reduceEq, Int.reduceLT, Int.reduceLE, Int.reduceBEq, Int.reduceBNe, Int.reduceToNat, IntKind.bits, Int.reduceAdd, Int.reduceSub, Int.reduceMul, Int.reduceTDiv, Int.reduceTMod, DB, DB2, R7B, f1, f2, f3, g1]
              exact hend3 y
            · have f3 : ((k : Int) == 8) = false := by rw [beq_eq_false_iff_ne]; omega
              have f6 : IntKind.i64.wrap ((k : Int) + 1) = ((k + 1 : Nat) : Int) := by rw [IntWalk.i64_in _ (by omega)] <;> omega
              by_cases hc : 0 < cmpP y.p r3.p
              · have ih := ih ⟨(k + 1, T'), by simp only; omega, hT', ht⟩ (by simp only; omega)
                simp only at ih
                simp only [RB, pickV, eqbV, notV, negV, convV, faddrV, fldV, idxV, eqaggV, iaddrV, isnilV, nilckV, cloV, extrV, slenV, minV, sidxV, abin, cmpInt, params, growLists, fillCells, newAt, rdPtr, wrPtr, AV.cells, asVal, lenOf, boundOf, rowsOf, argIds, freshIn, scalar1, setAll, AV.isData, AV.isYld, Nat.reduceAdd, Nat.reduceMul, Nat.reduceSub, Nat.reduceEqDiff, Nat.reduceLeDiff, Nat.reduceLT, Int.reduceNeg, ↓reduceIte, reduceCtorEq, Int.reduceEq, Int.reduceLT, Int.reduceLE, Int.reduceBEq, Int.reduceBNe, Int.reduceToNat, IntKind.bits, Int.reduceAdd, Int.reduceSub, Int.reduceMul, Int.reduceTDiv, Int.reduceTMod, DB, DB2, R7B, f1, f2, f3, f6, g1, e40, hc]
                exact ih
              · have hc' : cmpP y.p r3.p ≤ 0 := Int.not_lt.1 hc
                have hs := e38 T' y.p y.hop hT4
                have hdr := e41 T' y.p hT4
                unfold tupT at hs hdr
                by_cases hs0 : (setS T' y.p y.hop).2 = 0
                · obtain ⟨_, _, _, q1, q2⟩ := set_tab hs0
                  have ih := ih ⟨(k + 1, putR T' ⟨y.p, y.hop⟩), by simp only; omega, q2, by rw [tail_put hc']; exact ht⟩ (by simp only; omega)
                  simp only at ih
                  rw [hs0, q1] at hs
                  simp only [RB, pickV, eqbV, notV, negV, convV, faddrV, fldV, idxV, eqaggV, iaddrV, isnilV, nilckV, cloV, extrV, slenV, minV, sidxV, abin, cmpInt, params, growLists, fillCells, newAt, rdPtr, wrPtr, AV.cells, asVal, lenOf, boundOf, rowsOf, argIds, freshIn, scalar1, setAll, AV.isData, AV.isYld, Nat.reduceAdd, Nat.reduceMul, Nat.reduceSub, Nat.reduceEqDiff, Nat.reduceLeDiff, Nat.reduceLT, Int.reduceNeg, ↓reduceIte, reduceCtorEq, Int.reduceEq, Int.reduceLT, Int.reduceLE, Int.reduceBEq, Int.reduceBNe, Int.reduceToNat, IntKind.bits, Int.reduceAdd, Int.reduceSub, Int.reduceMul, Int.reduceTDiv, Int.reduceTMod, DB, DB2, R7B, f1, f2, f3, f6, g1, e40, hc, hs, bne_self_eq_false, CW_some, scalar, scalar1, lockAll, lockAt, reduceCtorEq, extrV, List.all_cons, List.all_nil]
                  exact ih
                · have e1 : ((setS T' y.p y.hop).2 != 0) = true := by rw [bne_iff_ne]; exact hs0
                  by_cases hd0 : (dropS T' y.p).2 = 0
                  · obtain ⟨_, q1, q2⟩ := drop_tab hd0
                    have ih := ih ⟨(k + 1, D.ahead T' y.p ++ past T' y.p), by simp only; omega, q2, by rw [tail_drop hc']; exact ht⟩ (by simp only; omega)
                    simp only at ih
                    rw [hd0, q1] at hdr
                    simp only [RB, pickV, eqbV, notV, negV, convV, faddrV, fldV, idxV, eqaggV, iaddrV, isnilV, nilckV, cloV, extrV, slenV, minV, sidxV, abin, cmpInt, params, growLists, fillCells, newAt, rdPtr, wrPtr, AV.cells, asVal, lenOf, boundOf, rowsOf, argIds, freshIn, scalar1, setAll, AV.isData, AV.isYld, Nat.reduceAdd, Nat.reduceMul, Nat.reduceSub, Nat.reduceEqDiff, Nat.reduceLeDiff, Nat.reduceLT, Int.reduceNeg, ↓reduceIte, reduceCtorEq, Int.reduceEq, Int.reduceLT, Int.reduceLE, Int.reduceBEq, Int.reduceBNe, Int.reduceToNat, IntKind.bits, Int.reduceAdd, Int.reduceSub, Int.reduceMul, Int.reduceTDiv, Int.reduceTMod, DB, DB2, R7B, f1, f2, f3, f6, g1, e40, hc, hs, e1, hdr, CW_some, scalar, scalar1, lockAll, lockAt, reduceCtorEq, extrV, List.all_cons, List.all_nil]
                    exact ih
                  · have e2 : ((dropS T' y.p).2 == 0) = false := by rw [beq_eq_false_iff_ne]; exact hd0
                    have ih := ih ⟨(k + 1, T'), by simp only; omega, hT', ht⟩ (by simp only; omega)
                    simp only at ih
                    simp only [RB, pickV, eqbV, notV, negV, convV, faddrV, fldV, idxV, eqaggV, iaddrV, isnilV, nilckV, cloV, extrV, slenV, minV, sidxV, abin, cmpInt, params, growLists, fillCells, newAt, rdPtr, wrPtr, AV.cells, asVal, lenOf, boundOf, rowsOf, argIds, freshIn, scalar1, setAll, AV.isData, AV.isYld, Nat.reduceAdd, Nat.reduceMul, Nat.reduceSub, Nat.reduceEqDiff, Nat.reduceLeDiff, Nat.reduceLT, Int.reduceNeg, ↓reduceIte, reduceCtorEq, Int.reduceEq, Int.reduceLT, Int.reduceLE, Int.reduceBEq, Int.reduceBNe, Int.reduceToNat, IntKind.bits, Int.reduceAdd, Int.reduceSub, Int.reduceMul, Int.reduceTDiv, Int.reduceTMod, DB, DB2, R7B, f1, f2, f3, f6, g1, e40, hc, hs, e1, hdr, e2, CW_some, scalar, scalar1, lockAll, lockAt, reduceCtorEq, extrV, List.all_cons, List.all_nil]
                    exact ih
          · simp only [RB, pickV, eqbV, notV, negV, convV, faddrV, fldV, idxV, eqaggV, iaddrV, isnilV, nilckV, cloV, extrV, slenV, minV, sidxV, abin, cmpInt, params, growLists, fillCells, newAt, rdPtr, wrPtr, AV.cells, asVal, lenOf, boundOf, rowsOf, argIds, freshIn, scalar1, setAll, AV.isData, AV.isYld, Nat.reduceAdd, Nat.reduceMul, Nat.reduceSub, Nat.reduceEqDiff, Nat.reduceLeDiff, Nat.reduceLT, Int.reduceNeg, ↓reduceIte, reduceCtorEq, Int.reduceEq, Int.reduceLT, Int.reduceLE, Int.reduceBEq, Int.reduceBNe, Int.reduceToNat, IntKind.bits, Int.reduceAdd, Int.reduceSub, Int.reduceMul, Int.reduceTDiv, Int.reduceTMod, DB, DB2, R7B, show ¬ (k : Int) < (l.length : Int) by omega]
            exact hend
    · have hpg : page T p zerC 3 = ⟨[], zerC, 151⟩ := by unfold page; rw [if_pos h1, if_neg h2]
      simp only [RB, pickV, eqbV, notV, negV, convV, faddrV, fldV, idxV, eqaggV, iaddrV, isnilV, nilckV, cloV, extrV, slenV, minV, sidxV, abin, cmpInt, params, growLists, fillCells, newAt, rdPtr, wrPtr, AV.cells, asVal, lenOf, boundOf, rowsOf, argIds, freshIn, scalar1, setAll, AV.isData, AV.isYld, Nat.reduceAdd, Nat.reduceMul, Nat.reduceSub, Nat.reduceEqDiff, Nat.reduceLeDiff, Nat.reduceLT, Int.reduceNeg, ↓reduceIte, reduceCtorEq, Int.reduceEq, Int.reduceLT, Int.reduceLE, Int.reduceBEq, Int.reduceBNe, Int.reduceToNat, IntKind.bits, Int.reduceAdd, Int.reduceSub, Int.reduceMul, Int.reduceTDiv, Int.reduceTMod, DB, DB2, R7B, e13 T hT p, hpg, bne_self_eq_false, CW_some, scalar, scalar1, lockAll, lockAt, reduceCtorEq, extrV, List.all_cons, List.all_nil]
  · have hpg : page T p zerC 3 = ⟨[], zerC, 190⟩ := by unfold page; rw [if_neg h1]
    simp only [RB, pickV, eqbV, notV, negV, convV, faddrV, fldV, idxV, eqaggV, iaddrV, isnilV, nilckV, cloV, extrV, slenV, minV, sidxV, abin, cmpInt, params, growLists, fillCells, newAt, rdPtr, wrPtr, AV.cells, asVal, lenOf, boundOf, rowsOf, argIds, freshIn, scalar1, setAll, AV.isData, AV.isYld, Nat.reduceAdd, Nat.reduceMul, Nat.reduceSub, Nat.reduceEqDiff, Nat.reduceLeDiff, Nat.reduceLT, Int.reduceNeg, ↓reduceIte, reduceCtorEq, Int.reduceEq, Int.reduceLT, Int.reduceLE, Int.reduceBEq, Int.reduceBNe, Int.reduceToNat, IntKind.bits, Int.reduceAdd, Int.reduceSub, Int.reduceMul, Int.reduceTDiv, Int.reduceTMod, DB, DB2, R7B, e13 T hT p, hpg, bne_self_eq_false, CW_some, scalar, scalar1, lockAll, lockAt, reduceCtorEq, extrV, List.all_cons, List.all_nil]
end Go.Proofs.YtihbammfchnjgaaDoor.F
