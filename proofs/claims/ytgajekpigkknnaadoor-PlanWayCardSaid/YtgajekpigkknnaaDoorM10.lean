/- Part 10 of the proofs of these statements. No condition. -/
import Derived.Test.YtgajekpigkknnaaDoorM9
set_option linter.unusedVariables false
set_option linter.unusedSimpArgs false
/- A RIB behind updates: the run. No condition. -/
set_option linter.unusedSimpArgs false
set_option maxRecDepth 20000
namespace Go.Proofs.YtgajekpigkknnaaDoor.D
open Go Go.Proofs.YtgajekpigkknnaaDoor.A
def appC (l : List Rt) (b : List Up) : Int × List Rt := if RibP l then if BatP b then match runA l b with
    | none => (4, [])
    | some r => if chgC r r.length ≤ 40 then (0, r) else (6, [])
  else (210, []) else (211, [])
theorem applyS_eq (l : List Rt) (b : List Up) : applyS l b = .tup [.agg [.ro (trows (appC l b).2)], .int .i64 (appC l b).1] := by
  unfold applyS appC resA
  split
  · split
    · cases runA l b with
      | none => rfl
      | some r => simp only; split <;> rfl
    · rfl
  · rfl
theorem runA_len : ∀ {b : List Up} {l r : List Rt}, runA l b = some r → r.length ≤ l.length + b.length
  | [], l, r, h => by cases h; exact Nat.le_refl _
  | u :: us, l, r, h => by
    unfold runA at h
    split at h
    · rename_i l' h1
      have h2 := stepA_len h1
      have h3 := runA_len h
      rw [List.length_cons]; omega
    · cases h
theorem appC_len {l : List Rt} {b : List Up} : (appC l b).2.length ≤ 168 := by
  unfold appC
  split
  · rename_i hR
    split
    · rename_i hB
      split
      · simp
      · rename_i r h
        have h1 := runA_len h
        have h2 := hR.1
        have h3 := hB.2.1
        split
        · simp only; omega
        · simp
    · simp
  · simp
/-- A RIB behind batches: the RIB, how many went, the error. -/
def doB : List Rt → List (List Up) → Nat → List Rt × Nat × Int
  | r, [], i => (r, i, 0)
  | r, b :: bs, i => if (appC r b).1 = 0 then doB (appC r b).2 bs (i + 1) else (r, i, (appC r b).1)
def doR (p : List Rt × Nat × Int) : AV := .tup [.agg [.ro (trows p.1)], .int .i64 (p.2.1 : Int), .int .i64 p.2.2]
def doS (l : List Rt) (us : List Up) : List Rt × Nat × Int := if RibP l then match cutF us [] [] with
    | none => (l, 0, 210)
    | some p => doB l (endC p) 0
  else ([], 0, 211)
theorem cutF_len : ∀ {us : List Up} {out : List (List Up)} {cur : List Up} {p : List (List Up) × List Up}, cutF us out cur = some p → p.1.length ≤ out.length + us.length
  | [], out, cur, p, h => by cases h; exact Nat.le_refl _
  | u :: us, out, cur, p, h => by
    unfold cutF at h
    rw [List.length_cons]
    split at h
    · split at h
      · have := cutF_len h
        simp only [List.length_append, List.length_cons, List.length_nil] at this; omega
      · have := cutF_len h; omega
    · cases h
theorem endC_len (p : List (List Up) × List Up) : (endC p).length ≤ p.1.length + 1 := by
  obtain ⟨out, cur⟩ := p
  simp only [endC]; split <;> simp
end Go.Proofs.YtgajekpigkknnaaDoor.D
namespace Go.Proofs.YtgajekpigkknnaaDoor.F
open Go Go.Proofs.YtgajekpigkknnaaDoor.A Go.Proofs.YtgajekpigkknnaaDoor.D
set_option maxHeartbeats 1000000 in
theorem e16 (l : List Rt) (us : List Up) (hl : l.length ≤ 1000000) (hu : us.length ≤ 1000000) : LV E 16 [.agg [.ro (trows l)], .ro (vrows us)] = some (doR (doS l us)) := by
  rw [LV_R (fn := f16) rfl rfl rfl]
  have h30 := e30 l (by omega)
  have h36 := e36 l hl
  have h11 := e11 us hu
  unfold doS
  by_cases hR : RibP l
  · rw [if_pos hR] at h30 ⊢
    cases hc : cutF us [] [] with
    | none =>
      rw [hc] at h11
      simp only [f16, ← upv_zer, ← rtv_zer, RB, pickV, eqbV, notV, negV, convV, faddrV, fldV, idxV, eqaggV, iaddrV, isnilV, nilckV, pnilV, cloV, extrV, slenV, minV, sidxV, abin, cmpInt, params, growLists, fillCells, newAt, rdPtr, wrPtr, AV.cells, asVal, lenOf, boundOf, rowsOf, argIds, freshIn, scalar1, setAll, AV.isData, AV.isYld, Nat.reduceAdd, Nat.reduceMul, Nat.reduceSub, Nat.reduceEqDiff, Nat.reduceLeDiff, Nat.reduceLT, Int.reduceNeg, ↓reduceIte, reduceCtorEq, Int.reduceEq, Int.reduceLT, Int.reduceLE, Int.reduceBEq, Int.reduceBNe, Int.reduceToNat, IntKind.bits, Int.reduceAdd, Int.reduceSub, Int.reduceMul, Int.reduceTDiv, Int.reduceTMod, DB, DB4, R7B, take_add, List.append_assoc, List.length_append, Nat.add_assoc, shrink_lit, ball_app, RG, LPB, h30, h36, h11, resC, bne_self_eq_false, show ((210 : Int) != 0) = true from rfl, expIn_tabT, expCell, List.nodup_cons, List.nodup_nil, List.not_mem_nil, not_false_eq_true, not_true_eq_false, and_true, and_false, if_false, List.mem_cons, mutIds, List.take_length, trows_len, Nat.le_refl]
      rfl
    | some p =>
      rw [hc] at h11
      have hn : (endC p).length ≤ 1000001 := by
        have h1 := cutF_len hc
        have h2 := endC_len p
        simp only [List.length_nil] at h1
        omega
      simp only [resC] at h11 ⊢
      generalize endC p = L at *
      simp only [f16, ← upv_zer, ← rtv_zer, RB, pickV, eqbV, notV, negV, convV, faddrV, fldV, idxV, eqaggV, iaddrV, isnilV, nilckV, pnilV, cloV, extrV, slenV, minV, sidxV, abin, cmpInt, params, growLists, fillCells, newAt, rdPtr, wrPtr, AV.cells, asVal, lenOf, boundOf, rowsOf, argIds, freshIn, scalar1, setAll, AV.isData, AV.isYld, Nat.reduceAdd, Nat.reduceMul, Nat.reduceSub, Nat.reduceEqDiff, Nat.reduceLeDiff, Nat.reduceLT, Int.reduceNeg, ↓reduceIte, reduceCtorEq, Int.reduceEq, Int.reduceLT, Int.reduceLE, Int.reduceBEq, Int.reduceBNe, Int.reduceToNat, IntKind.bits, Int.reduceAdd, Int.reduceSub, Int.reduceMul, Int.reduceTDiv, Int.reduceTMod, DB, DB4, R7B, take_add, List.append_assoc, List.length_append, Nat.add_assoc, shrink_lit, ball_app, RG, LPB, h30, h36, h11, bne_self_eq_false, wrows_len, expIn_tabT, expCell, List.nodup_cons, List.nodup_nil, List.not_mem_nil, not_false_eq_true, not_true_eq_false, and_true, and_false, if_false, List.mem_cons, mutIds, List.take_length, trows_len, Nat.le_refl]
      refine (W_rec2 (β := AV) (ι := {s : Nat × Bool × List Rt // s.1 ≤ L.length ∧ s.2.2.length ≤ 1000000 ∧ (s.2.1 = true → s.2.2 = l)})
        (M := fun s => [(2, .ptr 0 0 0 0), (4, .ptr 1 0 0 0), (8, .lis 4 0 0 L.length), (33, .lis 4 0 0 L.length), (34, .int .i64 (L.length : Int)), (35, .int .i64 (s.1.1 : Int))])
        (H := fun s => ⟨[.box 0 46 [if s.1.2.1 then .lis 3 0 0 l.length else .ro (trows s.1.2.2)], .box 0 46 [.lis 2 0 0 0], .lst 0 0 53 21 [], .lst (if s.1.2.1 then 0 else 2) 0 53 21 (trows l), .lst 0 0 35 1 (wrows L)], []⟩)
        (r := fun s => some (doR (doB s.1.2.2 (L.drop s.1.1) s.1.1))) (μ := fun s => L.length - s.1.1) (fun s => ?_) (fun s ih => ?_) ⟨(0, true, l), Nat.zero_le _, hl, fun _ => rfl⟩ rfl rfl)
      · obtain ⟨⟨k, b, r⟩, h⟩ := s
        cases b <;> simp [LPB]
      · obtain ⟨⟨k, b, r⟩, hk0, hr0, hb⟩ := s
        simp only at ih hk0 hr0 hb ⊢
        by_cases hk : k < L.length
        · have f1 : (k : Int) < (L.length : Int) := by omega
          have f2 : (0 : Int) ≤ (k : Int) := by omega
          have f6 : IntKind.i64.wrap ((k : Int) + 1) = ((k + 1 : Nat) : Int) := by rw [IntWalk.i64_in _ (by omega)] <;> omega
          have g1 := wrows_get L hk
          have h31 := e31 r L[k] hr0
          rw [applyS_eq] at h31
          rw [List.drop_eq_getElem_cons hk, doB]
          by_cases h0 : (appC r L[k]).1 = 0
          · rw [if_pos h0]
            have ih := ih ⟨(k + 1, false, (appC r L[k]).2), hk, Nat.le_trans appC_len (by decide), by simp⟩ (by simp only; omega)
            simp only [Bool.false_eq_true, if_false] at ih
            rw [h0] at h31
            cases b with
            | true =>
              obtain rfl := hb rfl
              simp only [RB, pickV, eqbV, notV, negV, convV, faddrV, fldV, idxV, eqaggV, iaddrV, isnilV, nilckV, pnilV, cloV, extrV, slenV, minV, sidxV, abin, cmpInt, params, growLists, fillCells, newAt, rdPtr, wrPtr, AV.cells, asVal, lenOf, boundOf, rowsOf, argIds, freshIn, scalar1, setAll, AV.isData, AV.isYld, Nat.reduceAdd, Nat.reduceMul, Nat.reduceSub, Nat.reduceEqDiff, Nat.reduceLeDiff, Nat.reduceLT, Int.reduceNeg, ↓reduceIte, reduceCtorEq, Int.reduceEq, Int.reduceLT, Int.reduceLE, Int.reduceBEq, Int.reduceBNe, Int.reduceToNat, IntKind.bits, Int.reduceAdd, Int.reduceSub, Int.reduceMul, Int.reduceTDiv, Int.reduceTMod, DB, DB4, R7B, take_add, List.append_assoc, List.length_append, Nat.add_assoc, shrink_lit, ball_app, RG, LPB, f1, f2, f6, hk, g1, lisFits, snap, snapCell, rowsOf, List.drop_zero, trows_len, h31, bne_self_eq_false, CW_some, scalar, scalar1, lockAll, lockAt, reduceCtorEq, extrV, List.all_cons, List.all_nil, mutIds, List.take_length, Nat.le_refl]
              exact ih
            | false =>
              simp only [RB, pickV, eqbV, notV, negV, convV, faddrV, fldV, idxV, eqaggV, iaddrV, isnilV, nilckV, pnilV, cloV, extrV, slenV, minV, sidxV, abin, cmpInt, params, growLists, fillCells, newAt, rdPtr, wrPtr, AV.cells, asVal, lenOf, boundOf, rowsOf, argIds, freshIn, scalar1, setAll, AV.isData, AV.isYld, Nat.reduceAdd, Nat.reduceMul, Nat.reduceSub, Nat.reduceEqDiff, Nat.reduceLeDiff, Nat.reduceLT, Int.reduceNeg, ↓reduceIte, reduceCtorEq, Int.reduceEq, Int.reduceLT, Int.reduceLE, Int.reduceBEq, Int.reduceBNe, Int.reduceToNat, IntKind.bits, Int.reduceAdd, Int.reduceSub, Int.reduceMul, Int.reduceTDiv, Int.reduceTMod, DB, DB4, R7B, take_add, List.append_assoc, List.length_append, Nat.add_assoc, shrink_lit, ball_app, RG, LPB, f1, f2, f6, hk, g1, lisFits, snap, snapCell, rowsOf, List.drop_zero, trows_len, h31, bne_self_eq_false, CW_some, scalar, scalar1, lockAll, lockAt, reduceCtorEq, extrV, List.all_cons, List.all_nil, mutIds, List.take_length, Nat.le_refl]
              exact ih
          · rw [if_neg h0]
            have z : ((appC r L[k]).1 != 0) = true := by rw [bne_iff_ne]; exact h0
            cases b with
            | true =>
              obtain rfl := hb rfl
              simp only [RB, pickV, eqbV, notV, negV, convV, faddrV, fldV, idxV, eqaggV, iaddrV, isnilV, nilckV, pnilV, cloV, extrV, slenV, minV, sidxV, abin, cmpInt, params, growLists, fillCells, newAt, rdPtr, wrPtr, AV.cells, asVal, lenOf, boundOf, rowsOf, argIds, freshIn, scalar1, setAll, AV.isData, AV.isYld, Nat.reduceAdd, Nat.reduceMul, Nat.reduceSub, Nat.reduceEqDiff, Nat.reduceLeDiff, Nat.reduceLT, Int.reduceNeg, ↓reduceIte, reduceCtorEq, Int.reduceEq, Int.reduceLT, Int.reduceLE, Int.reduceBEq, Int.reduceBNe, Int.reduceToNat, IntKind.bits, Int.reduceAdd, Int.reduceSub, Int.reduceMul, Int.reduceTDiv, Int.reduceTMod, DB, DB4, R7B, take_add, List.append_assoc, List.length_append, Nat.add_assoc, shrink_lit, ball_app, RG, LPB, f1, f2, f6, hk, g1, lisFits, snap, snapCell, rowsOf, List.drop_zero, trows_len, h31, z, CW_some, scalar, scalar1, lockAll, lockAt, reduceCtorEq, extrV, List.all_cons, List.all_nil, mutIds, expIn_tabT, expCell, List.nodup_cons, List.nodup_nil, List.not_mem_nil, not_false_eq_true, not_true_eq_false, and_true, and_false, if_false, List.mem_cons, mutIds, List.take_length, trows_len, Nat.le_refl]
              rfl
            | false =>
              simp only [RB, pickV, eqbV, notV, negV, convV, faddrV, fldV, idxV, eqaggV, iaddrV, isnilV, nilckV, pnilV, cloV, extrV, slenV, minV, sidxV, abin, cmpInt, params, growLists, fillCells, newAt, rdPtr, wrPtr, AV.cells, asVal, lenOf, boundOf, rowsOf, argIds, freshIn, scalar1, setAll, AV.isData, AV.isYld, Nat.reduceAdd, Nat.reduceMul, Nat.reduceSub, Nat.reduceEqDiff, Nat.reduceLeDiff, Nat.reduceLT, Int.reduceNeg, ↓reduceIte, reduceCtorEq, Int.reduceEq, Int.reduceLT, Int.reduceLE, Int.reduceBEq, Int.reduceBNe, Int.reduceToNat, IntKind.bits, Int.reduceAdd, Int.reduceSub, Int.reduceMul, Int.reduceTDiv, Int.reduceTMod, DB, DB4, R7B, take_add, List.append_assoc, List.length_append, Nat.add_assoc, shrink_lit, ball_app, RG, LPB, f1, f2, f6, hk, g1, lisFits, snap, snapCell, rowsOf, List.drop_zero, trows_len, h31, z, CW_some, scalar, scalar1, lockAll, lockAt, reduceCtorEq, extrV, List.all_cons, List.all_nil, mutIds, expIn_tabT, expCell, List.nodup_cons, List.nodup_nil, List.not_mem_nil, not_false_eq_true, not_true_eq_false, and_true, and_false, if_false, List.mem_cons, mutIds, List.take_length, trows_len, Nat.le_refl]
              rfl
        · obtain rfl : k = L.length := by omega
          rw [List.drop_length, doB]
          cases b with
          | true =>
            obtain rfl := hb rfl
            simp only [RB, pickV, eqbV, notV, negV, convV, faddrV, fldV, idxV, eqaggV, iaddrV, isnilV, nilckV, pnilV, cloV, extrV, slenV, minV, sidxV, abin, cmpInt, params, growLists, fillCells, newAt, rdPtr, wrPtr, AV.cells, asVal, lenOf, boundOf, rowsOf, argIds, freshIn, scalar1, setAll, AV.isData, AV.isYld, Nat.reduceAdd, Nat.reduceMul, Nat.reduceSub, Nat.reduceEqDiff, Nat.reduceLeDiff, Nat.reduceLT, Int.reduceNeg, ↓reduceIte, reduceCtorEq, Int.reduceEq, Int.reduceLT, Int.reduceLE, Int.reduceBEq, Int.reduceBNe, Int.reduceToNat, IntKind.bits, Int.reduceAdd, Int.reduceSub, Int.reduceMul, Int.reduceTDiv, Int.reduceTMod, DB, DB4, R7B, take_add, List.append_assoc, List.length_append, Nat.add_assoc, shrink_lit, ball_app, RG, LPB, show ¬ ((L.length : Nat) : Int) < (L.length : Int) by omega, expIn_tabT, expCell, List.nodup_cons, List.nodup_nil, List.not_mem_nil, not_false_eq_true, not_true_eq_false, and_true, and_false, if_false, List.mem_cons, mutIds, List.take_length, trows_len, Nat.le_refl]
            rfl
          | false =>
            simp only [RB, pickV, eqbV, notV, negV, convV, faddrV, fldV, idxV, eqaggV, iaddrV, isnilV, nilckV, pnilV, cloV, extrV, slenV, minV, sidxV, abin, cmpInt, params, growLists, fillCells, newAt, rdPtr, wrPtr, AV.cells, asVal, lenOf, boundOf, rowsOf, argIds, freshIn, scalar1, setAll, AV.isData, AV.isYld, Nat.reduceAdd, Nat.reduceMul, Nat.reduceSub, Nat.reduceEqDiff, Nat.reduceLeDiff, Nat.reduceLT, Int.reduceNeg, ↓reduceIte, reduceCtorEq, Int.reduceEq, Int.reduceLT, Int.reduceLE, Int.reduceBEq, Int.reduceBNe, Int.reduceToNat, IntKind.bits, Int.reduceAdd, Int.reduceSub, Int.reduceMul, Int.reduceTDiv, Int.reduceTMod, DB, DB4, R7B, take_add, List.append_assoc, List.length_append, Nat.add_assoc, shrink_lit, ball_app, RG, LPB, show ¬ ((L.length : Nat) : Int) < (L.length : Int) by omega, expIn_tabT, expCell, List.nodup_cons, List.nodup_nil, List.not_mem_nil, not_false_eq_true, not_true_eq_false, and_true, and_false, if_false, List.mem_cons, mutIds, List.take_length, trows_len, Nat.le_refl]
            rfl
  · rw [if_neg hR] at h30 ⊢
    simp only [f16, ← upv_zer, ← rtv_zer, RB, pickV, eqbV, notV, negV, convV, faddrV, fldV, idxV, eqaggV, iaddrV, isnilV, nilckV, pnilV, cloV, extrV, slenV, minV, sidxV, abin, cmpInt, params, growLists, fillCells, newAt, rdPtr, wrPtr, AV.cells, asVal, lenOf, boundOf, rowsOf, argIds, freshIn, scalar1, setAll, AV.isData, AV.isYld, Nat.reduceAdd, Nat.reduceMul, Nat.reduceSub, Nat.reduceEqDiff, Nat.reduceLeDiff, Nat.reduceLT, Int.reduceNeg, ↓reduceIte, reduceCtorEq, Int.reduceEq, Int.reduceLT, Int.reduceLE, Int.reduceBEq, Int.reduceBNe, Int.reduceToNat, IntKind.bits, Int.reduceAdd, Int.reduceSub, Int.reduceMul, Int.reduceTDiv, Int.reduceTMod, DB, DB4, R7B, take_add, List.append_assoc, List.length_append, Nat.add_assoc, shrink_lit, ball_app, RG, LPB, h30, h36, show ((211 : Int) != 0) = true from rfl, expIn_tabT, expCell, List.nodup_cons, List.nodup_nil, List.not_mem_nil, not_false_eq_true, not_true_eq_false, and_true, and_false, if_false, List.mem_cons, mutIds, List.take_length, trows_len, Nat.le_refl]
    rfl
end Go.Proofs.YtgajekpigkknnaaDoor.F

/- A RIB mixed with another one by a source: the run. No condition. -/
set_option linter.unusedSimpArgs false
set_option maxRecDepth 20000
namespace Go.Proofs.YtgajekpigkknnaaDoor.F
open Go Go.Proofs.YtgajekpigkknnaaDoor.A Go.Proofs.YtgajekpigkknnaaDoor.D
theorem r85 {ys : List Hd} {bs : List Blk} {pend : List (Option AExit)} {v : AV} {l : List Rt} {P : Rt → Bool} {g : FuncId} {caps : List AV} (hl : l.length ≤ 4611686018427387904) (hv : SlV bs 21 v (l.map rtv)) (hp : PredG E rtv g caps P bs) (hlow : belowAll bs.length bs = true) (hc : belowL bs.length caps = true) :
    LR E ys 85 [v, .clo g caps] ⟨bs, pend⟩ = some (.int .i64 (idxR P l 0), ⟨bs, pend⟩) := by
  have huf := hv.uf
  have hlen := hv.len
  have hlo := hv.low
  rw [List.length_map] at hlen
  rw [LR_R (fn := f85) rfl rfl rfl]
  simp only [f85, RB, pickV, eqbV, notV, negV, convV, faddrV, fldV, idxV, eqaggV, isnilV, nilckV, pnilV, cloV, extrV, slenV, minV, sidxV, abin, cmpInt, params, growLists, fillCells, newAt, AV.cells, asVal, boundOf, argIds, freshIn, scalar1, setAll, AV.isData, AV.isYld, Nat.reduceAdd, Nat.reduceMul, Nat.reduceSub, Nat.reduceEqDiff, Nat.reduceLeDiff, Nat.reduceLT, Int.reduceNeg, ↓reduceIte, reduceCtorEq, Int.reduceEq, Int.reduceLT, Int.reduceLE, Int.reduceBEq, Int.reduceBNe, Int.reduceToNat, IntKind.bits, Int.reduceAdd, Int.reduceSub, Int.reduceMul, Int.reduceTDiv, Int.reduceTMod, huf, hlen]
  refine (W_rec (ι := Nat) (M := fun k => [(0, v), (1, .clo g caps), (7, .int .i64 (l.length : Int)), (8, .int .i64 (k : Int))]) (H := fun _ => ⟨bs, pend⟩) (r := fun k => some ((AV.int .i64 (idxR P (l.drop k) k), ⟨bs, pend⟩) : AV × Hp)) (μ := fun k => l.length - k) (fun i => ?_) (fun k ih => ?_) 0)
  · exact ⟨by simp only [List.map_cons, List.map_nil, LPB, hlo, hc, Bool.and_self], hlow⟩
  · by_cases hk : k < l.length
    · have f1 : (k : Int) < (l.length : Int) := by omega
      have f6 : IntKind.i64.wrap ((k : Int) + 1) = ((k + 1 : Nat) : Int) := by rw [IntWalk.i64_in _ (by omega)] <;> omega
      obtain ⟨p, g1, g2⟩ := hv.get [] k (by simpa using hk)
      have g3 := g2 []
      rw [List.append_nil] at g1 g3
      rw [List.getElem?_map, List.getElem?_eq_getElem hk] at g3
      obtain ⟨ext, hpr⟩ := hp ys pend [] l[k]
      rw [List.append_nil] at hpr
      have hsh : shrink false bs.length (.bool (P l[k])) ⟨bs ++ ext, pend⟩ = some ⟨bs, pend⟩ := shrink_app rfl rfl hlow
      have e : idxR P (l.drop k) k = if P l[k] then (k : Int) else idxR P (l.drop (k + 1)) (k + 1) := by
        rw [List.drop_eq_getElem_cons hk, idxR]
      rw [e]
      cases hP : P l[k] with
      | true =>
        rw [hP] at hpr hsh
        simp only [RB, pickV, eqbV, notV, negV, convV, faddrV, fldV, idxV, eqaggV, isnilV, nilckV, pnilV, cloV, extrV, slenV, minV, sidxV, abin, cmpInt, params, growLists, fillCells, newAt, AV.cells, asVal, boundOf, argIds, freshIn, scalar1, setAll, AV.isData, AV.isYld, Nat.reduceAdd, Nat.reduceMul, Nat.reduceSub, Nat.reduceEqDiff, Nat.reduceLeDiff, Nat.reduceLT, Int.reduceNeg, ↓reduceIte, reduceCtorEq, Int.reduceEq, Int.reduceLT, Int.reduceLE, Int.reduceBEq, Int.reduceBNe, Int.reduceToNat, IntKind.bits, Int.reduceAdd, Int.reduceSub, Int.reduceMul, Int.reduceTDiv, Int.reduceTMod, f1, huf, g1, g3, hpr, hsh]
      | false =>
        rw [hP] at hpr hsh
        simp only [RB, pickV, eqbV, notV, negV, convV, faddrV, fldV, idxV, eqaggV, isnilV, nilckV, pnilV, cloV, extrV, slenV, minV, sidxV, abin, cmpInt, params, growLists, fillCells, newAt, AV.cells, asVal, boundOf, argIds, freshIn, scalar1, setAll, AV.isData, AV.isYld, Nat.reduceAdd, Nat.reduceMul, Nat.reduceSub, Nat.reduceEqDiff, Nat.reduceLeDiff, Nat.reduceLT, Int.reduceNeg, ↓reduceIte, reduceCtorEq, Int.reduceEq, Int.reduceLT, Int.reduceLE, Int.reduceBEq, Int.reduceBNe, Int.reduceToNat, IntKind.bits, Int.reduceAdd, Int.reduceSub, Int.reduceMul, Int.reduceTDiv, Int.reduceTMod, f1, f6, huf, g1, g3, hpr, hsh, List.take_length]
        exact ih (k + 1) (by omega)
    · simp only [RB, pickV, eqbV, notV, negV, convV, faddrV, fldV, idxV, eqaggV, isnilV, nilckV, pnilV, cloV, extrV, slenV, minV, sidxV, abin, cmpInt, params, growLists, fillCells, newAt, AV.cells, asVal, boundOf, argIds, freshIn, scalar1, setAll, AV.isData, AV.isYld, Nat.reduceAdd, Nat.reduceMul, Nat.reduceSub, Nat.reduceEqDiff, Nat.reduceLeDiff, Nat.reduceLT, Int.reduceNeg, ↓reduceIte, reduceCtorEq, Int.reduceEq, Int.reduceLT, Int.reduceLE, Int.reduceBEq, Int.reduceBNe, Int.reduceToNat, IntKind.bits, Int.reduceAdd, Int.reduceSub, Int.reduceMul, Int.reduceTDiv, Int.reduceTMod, show ¬ (k : Int) < (l.length : Int) by omega]
      rw [List.drop_eq_nil_of_le (by omega)]; rfl
set_option maxHeartbeats 1000000 in
theorem r66 {ys : List Hd} {bs : List Blk} {pend : List (Option AExit)} {id gen n : Nat} {l : List Rt} {P : Rt → Bool} {g : FuncId} {caps : List AV} (hl : l.length ≤ 1000000) (hn : l.length = n) (hb : bs[id]? = some (.lst 0 gen 53 21 (l.map rtv))) (hp : ∀ Y, PredG E rtv g caps P (bs.set id (.lst 0 gen 53 21 Y))) (hlow : belowAll bs.length bs = true) (hc : belowL bs.length caps = true) :
    ∃ z r, LR E ys 66 [.lis id gen 0 n, .clo g caps] ⟨bs, pend⟩ = some (.lis id gen 0 (l.filter fun x => !P x).length, ⟨bs.set id (.lst 0 gen 53 21 (((l.filter fun x => !P x) ++ z).map rtv)) ++ r, pend⟩) := by
  subst hn
  have hid := (List.getElem?_eq_some_iff.1 hb).1
  have hself : bs.set id (.lst 0 gen 53 21 (l.map rtv)) = bs := by
    rw [List.getElem?_eq_getElem hid] at hb
    rw [← Option.some.inj hb, List.set_getElem_self]
  have hlow0 : ∀ Y, belowAll bs.length (bs.set id (.lst 0 gen 53 21 Y)) = true := fun Y => by
    unfold belowAll at *
    rw [List.all_eq_true] at *
    intro b hb
    rcases List.mem_or_eq_of_mem_set hb with h | rfl
    · exact hlow b h
    · rfl
  have hlowS : ∀ m Y, bs.length ≤ m → belowAll m (bs.set id (.lst 0 gen 53 21 Y)) = true := fun m Y h => belowAll_mono h (hlow0 Y)
  have hix := r85 (ys := ys) (pend := pend) (bs := bs ++ [Blk.lst 0 0 53 21 []]) (v := .lis id gen 0 l.length) (l := l) (P := P) (g := g) (caps := caps) (by omega) (SlV.lis (get_lt hb) (by simp) (by simp [rtv_len])) (fun ys pend ext x => by
    have := hp (l.map rtv) ys pend ([Blk.lst 0 0 53 21 []] ++ ext) x
    rw [hself] at this
    simpa only [List.append_assoc] using this) (by rw [ball_app, belowAll_mono (by simp) hlow]; rfl) (belowL_mono (by simp) _ hc)
  rw [LR_R (fn := f66) rfl rfl rfl]
  simp only [f66, ← rtv_zer, RB, pickV, eqbV, notV, negV, convV, faddrV, fldV, idxV, eqaggV, iaddrV, isnilV, nilckV, pnilV, cloV, extrV, slenV, minV, sidxV, abin, cmpInt, params, growLists, fillCells, newAt, rdPtr, wrPtr, AV.cells, asVal, lenOf, boundOf, rowsOf, argIds, freshIn, scalar1, setAll, AV.isData, AV.isYld, Nat.reduceAdd, Nat.reduceMul, Nat.reduceSub, Nat.reduceEqDiff, Nat.reduceLeDiff, Nat.reduceLT, Int.reduceNeg, ↓reduceIte, reduceCtorEq, Int.reduceEq, Int.reduceLT, Int.reduceLE, Int.reduceBEq, Int.reduceBNe, Int.reduceToNat, IntKind.bits, Int.reduceAdd, Int.reduceSub, Int.reduceMul, Int.reduceTDiv, Int.reduceTMod, R7B]
  have hsh : ∀ m, shrink false (bs ++ [Blk.lst 0 0 53 21 []]).length (.int .i64 m) ⟨bs ++ [Blk.lst 0 0 53 21 []], pend⟩ = some ⟨bs ++ [Blk.lst 0 0 53 21 []], pend⟩ := fun m => shrink_id rfl rfl (by rw [ball_app, belowAll_mono (by simp) hlow]; rfl)
  cases hP : l.any P with
  | false =>
    rw [idxR_none hP] at hix
    simp only [RB, pickV, eqbV, notV, negV, convV, faddrV, fldV, idxV, eqaggV, iaddrV, isnilV, nilckV, pnilV, cloV, extrV, slenV, minV, sidxV, abin, cmpInt, params, growLists, fillCells, newAt, rdPtr, wrPtr, AV.cells, asVal, lenOf, boundOf, rowsOf, argIds, freshIn, scalar1, setAll, AV.isData, AV.isYld, Nat.reduceAdd, Nat.reduceMul, Nat.reduceSub, Nat.reduceEqDiff, Nat.reduceLeDiff, Nat.reduceLT, Int.reduceNeg, ↓reduceIte, reduceCtorEq, Int.reduceEq, Int.reduceLT, Int.reduceLE, Int.reduceBEq, Int.reduceBNe, Int.reduceToNat, IntKind.bits, Int.reduceAdd, Int.reduceSub, Int.reduceMul, Int.reduceTDiv, Int.reduceTMod, R7B, hix, hsh]
    have e : (l.filter fun x => !P x) = l := List.filter_eq_self.2 fun x hx => by
      have := List.any_eq_false.1 hP x hx
      simpa using this
    rw [e]
    exact ⟨[], [Blk.lst 0 0 53 21 []], by rw [List.append_nil, hself]⟩
  | true =>
    obtain ⟨i0, hi, hi1, hi2, hi3⟩ := idxR_some (k := 0) hP
    rw [Nat.zero_add] at hi
    rw [hi] at hix
    have f0 : ((i0 : Int) == -1) = false := by rw [beq_eq_false_iff_ne]; omega
    have f6 : IntKind.i64.wrap ((i0 : Int) + 1) = ((i0 + 1 : Nat) : Int) := by rw [IntWalk.i64_in _ (by omega)] <;> omega
    simp only [RB, pickV, eqbV, notV, negV, convV, faddrV, fldV, idxV, eqaggV, iaddrV, isnilV, nilckV, pnilV, cloV, extrV, slenV, minV, sidxV, abin, cmpInt, params, growLists, fillCells, newAt, rdPtr, wrPtr, AV.cells, asVal, lenOf, boundOf, rowsOf, argIds, freshIn, scalar1, setAll, AV.isData, AV.isYld, Nat.reduceAdd, Nat.reduceMul, Nat.reduceSub, Nat.reduceEqDiff, Nat.reduceLeDiff, Nat.reduceLT, Int.reduceNeg, ↓reduceIte, reduceCtorEq, Int.reduceEq, Int.reduceLT, Int.reduceLE, Int.reduceBEq, Int.reduceBNe, Int.reduceToNat, IntKind.bits, Int.reduceAdd, Int.reduceSub, Int.reduceMul, Int.reduceTDiv, Int.reduceTMod, R7B, hix, hsh, f0, f6]
    simp only [List.length_append, List.length_cons, List.length_nil, Nat.zero_add]
    have eF : ((l.take (i0 + 1)).filter fun x => !P x) = l.take i0 := by
      rw [List.take_add_one, List.getElem?_eq_getElem hi1, Option.toList_some, List.filter_append]
      have h1 : ((l.take i0).filter fun x => !P x) = l.take i0 := List.filter_eq_self.2 fun x hx => by
        have := List.any_eq_false.1 hi3 x hx
        simpa using this
      rw [h1]; simp [hi2]
    have hQ : ∀ j (ms : List Rt), j ≤ l.length → ((l.take j).filter fun x => !P x).length + ms.length = j → (((l.take j).filter fun x => !P x) ++ ms ++ l.drop j).length = l.length := fun j ms h h' => by
      simp only [List.length_append, List.length_drop]; omega
    refine W_recP2 (ι := {s : Nat × List Rt // s.1 ≤ l.length ∧ 0 < s.2.length ∧ ((l.take s.1).filter fun x => !P x).length + s.2.length = s.1})
      (Q := fun s x => ∃ z r, x = some ((AV.lis id gen 0 (l.filter fun x => !P x).length, ⟨bs.set id (.lst 0 gen 53 21 (((l.filter fun x => !P x) ++ z).map rtv)) ++ r, pend⟩) : AV × Hp))
      (M := fun s => [(0, .lis id gen 0 l.length), (1, .clo g caps), (5, .int .i64 (((l.take s.1.1).filter fun x => !P x).length : Int)), (6, .int .i64 (s.1.1 : Int))])
      (H := fun s => ⟨bs.set id (.lst 0 gen 53 21 ((((l.take s.1.1).filter fun x => !P x) ++ s.1.2 ++ l.drop s.1.1).map rtv)) ++ [Blk.lst 0 0 53 21 []], pend⟩)
      (μ := fun s => l.length - s.1.1) (fun s => ?_) (fun s ih => ?_) ⟨(i0 + 1, [l[i0]]), by omega, by simp, by rw [eF]; simp; omega⟩ ?_ ?_
    · refine ⟨?_, ?_⟩
      · have h1 : id < bs.length + 1 := by omega
        simp only [List.map_cons, List.map_nil, LPB, rtv_below, upv_below, List.length_append, List.length_cons, List.length_nil, Nat.zero_add, belowL_mono (show bs.length ≤ bs.length + 1 by omega) _ hc, h1, decide_true, Bool.and_self]
      · rw [ball_app, hlowS _ _ (by omega)]; rfl
    · obtain ⟨⟨j, ms⟩, hj, hms, hjm⟩ := s
      simp only at ih hj hms hjm ⊢
      generalize hF : ((l.take j).filter fun x => !P x) = F at *
      have hql := hQ j ms hj (by rw [hF]; exact hjm)
      rw [hF] at hql
      by_cases hk : j < l.length
      · have f1 : (j : Int) < (l.length : Int) := by omega
        have f2 : (0 : Int) ≤ (j : Int) := by omega
        have f3 : (0 : Int) ≤ (F.length : Int) := by omega
        have f4 : F.length < l.length := by omega
        have f5 : IntKind.i64.wrap ((j : Int) + 1) = ((j + 1 : Nat) : Int) := by rw [IntWalk.i64_in _ (by omega)] <;> omega
        have f7 : IntKind.i64.wrap ((F.length : Int) + 1) = ((F.length + 1 : Nat) : Int) := by rw [IntWalk.i64_in _ (by omega)] <;> omega
        have edrop : l.drop j = l[j] :: l.drop (j + 1) := List.drop_eq_getElem_cons hk
        have etake : ((l.take (j + 1)).filter fun x => !P x) = if P l[j] then F else F ++ [l[j]] := by
          rw [List.take_add_one, List.getElem?_eq_getElem hk, Option.toList_some, List.filter_append, hF]
          cases hPj : P l[j] <;> simp [hPj]
        have g1 : ((F ++ (ms ++ l.drop j)).map rtv)[j]? = some (rtv l[j]) := by
          rw [← List.append_assoc, List.getElem?_map, List.getElem?_append_right (by simp; omega)]
          rw [show j - (F ++ ms).length = 0 by simp; omega, edrop]; rfl
        have hSset : ∀ r Y, (bs.set id (.lst 0 gen 53 21 ((F ++ ms ++ l.drop j).map rtv)) ++ r).set id Y = bs.set id Y ++ r := fun r Y => by
          rw [setK_in (by simpa using hid), List.set_set]
        generalize hS : bs.set id (.lst 0 gen 53 21 ((F ++ ms ++ l.drop j).map rtv)) = S at hSset
        have hSl : S.length = bs.length := by rw [← hS]; simp
        have hSid : ∀ r, (S ++ r)[id]? = some (.lst 0 gen 53 21 ((F ++ (ms ++ l.drop j)).map rtv)) := fun r => by rw [← List.append_assoc, ← hS]; exact setK_self hid r
        have hSlow : ∀ m, bs.length ≤ m → belowAll m S = true := fun m h => by rw [← hS]; exact hlowS m _ h
        obtain ⟨ext, hpr⟩ := hp ((F ++ ms ++ l.drop j).map rtv) ys pend [Blk.lst 0 0 53 21 [], Blk.box 0 53 (rtv l[j])] l[j]
        rw [hS] at hpr
        have hsh2 : shrink false (bs.length + 2) (.bool (P l[j])) ⟨(S ++ [Blk.lst 0 0 53 21 [], Blk.box 0 53 (rtv l[j])]) ++ ext, pend⟩ = some ⟨S ++ [Blk.lst 0 0 53 21 [], Blk.box 0 53 (rtv l[j])], pend⟩ := shrink_app (by simp [hSl]) rfl (by rw [ball_app, hSlow _ (by omega)]; simp only [LPB, rtv_below, upv_below, Bool.and_self])
        simp only [List.append_assoc, List.cons_append, List.nil_append] at hpr hsh2
        have hhd : headFits 21 [rtv l[j]] = true := by simp [headFits, rtv_len]
        cases hPj : P l[j] with
        | true =>
          rw [hPj] at hpr hsh2 etake
          have ih := ih ⟨(j + 1, ms ++ [l[j]]), by omega, by simp, by simp only [etake, if_true]; simp; omega⟩ (by simp only; omega)
          simp only [etake, if_true] at ih
          rw [show F ++ (ms ++ [l[j]]) ++ l.drop (j + 1) = F ++ ms ++ l.drop j by rw [edrop]; simp, hS] at ih
          simp only [RB, pickV, eqbV, notV, negV, convV, faddrV, fldV, idxV, eqaggV, iaddrV, isnilV, nilckV, pnilV, cloV, extrV, slenV, minV, sidxV, abin, cmpInt, params, growLists, fillCells, newAt, rdPtr, wrPtr, AV.cells, asVal, lenOf, boundOf, rowsOf, argIds, freshIn, scalar1, setAll, AV.isData, AV.isYld, Nat.reduceAdd, Nat.reduceMul, Nat.reduceSub, Nat.reduceEqDiff, Nat.reduceLeDiff, Nat.reduceLT, Int.reduceNeg, ↓reduceIte, reduceCtorEq, Int.reduceEq, Int.reduceLT, Int.reduceLE, Int.reduceBEq, Int.reduceBNe, Int.reduceToNat, IntKind.bits, Int.reduceAdd, Int.reduceSub, Int.reduceMul, Int.reduceTDiv, Int.reduceTMod, DB, DB4, R7B, f1, f2, f5, lisFits, hSid, g1, List.append_assoc, List.length_append, hSl, Nat.add_assoc, hk, hpr, hsh2, take_add hSl]
          exact ih
        | false =>
          rw [hPj] at hpr hsh2 etake
          obtain ⟨m0, ms', rfl⟩ : ∃ m0 ms', ms = m0 :: ms' := by cases ms with
            | nil => simp at hms
            | cons a b => exact ⟨a, b, rfl⟩
          have g4 : ((F ++ (m0 :: ms' ++ l.drop j)).map rtv)[F.length]? = some (rtv m0) := by simp
          have g5 : ((F ++ (m0 :: ms' ++ l.drop j)).map rtv).set F.length (rtv l[j]) = (F ++ [l[j]] ++ (ms' ++ [l[j]]) ++ l.drop (j + 1)).map rtv := by
            rw [edrop, List.map_append, show F.length = (F.map rtv).length by simp, List.set_append_right _ _ (Nat.le_refl _)]; simp
          have ih := ih ⟨(j + 1, ms' ++ [l[j]]), by omega, by simp, by simp only [etake, Bool.false_eq_true, if_false]; simp at hjm ⊢; omega⟩ (by simp only; omega)
          simp only [etake, Bool.false_eq_true, if_false, List.length_append, List.length_cons, List.length_nil, Nat.zero_add] at ih
          rw [← g5] at ih
          simp only [List.cons_append] at g1 g4 hSid ih
          have hBt : ∀ Y r i, (bs.set id Y ++ r).take (bs.length + i) = bs.set id Y ++ r.take i := fun Y r i => take_add (by simp)
          simp only [RB, pickV, eqbV, notV, negV, convV, faddrV, fldV, idxV, eqaggV, iaddrV, isnilV, nilckV, pnilV, cloV, extrV, slenV, minV, sidxV, abin, cmpInt, params, growLists, fillCells, newAt, rdPtr, wrPtr, AV.cells, asVal, lenOf, boundOf, rowsOf, argIds, freshIn, scalar1, setAll, AV.isData, AV.isYld, Nat.reduceAdd, Nat.reduceMul, Nat.reduceSub, Nat.reduceEqDiff, Nat.reduceLeDiff, Nat.reduceLT, Int.reduceNeg, ↓reduceIte, reduceCtorEq, Int.reduceEq, Int.reduceLT, Int.reduceLE, Int.reduceBEq, Int.reduceBNe, Int.reduceToNat, IntKind.bits, Int.reduceAdd, Int.reduceSub, Int.reduceMul, Int.reduceTDiv, Int.reduceTMod, DB, DB4, R7B, f1, f2, f3, f4, f5, f7, lisFits, hSid, g1, List.append_assoc, List.length_append, hSl, Nat.add_assoc, hk, hpr, hsh2, take_add hSl, List.cons_append, g4, hSset, hBt]
          exact ih
      · have : j = l.length := by omega
        subst this
        simp only [List.take_length, List.drop_length, List.append_nil] at *
        generalize hS : bs.set id (.lst 0 gen 53 21 ((F ++ ms).map rtv)) = S
        have hSid : ∀ r, (S ++ r)[id]? = some (.lst 0 gen 53 21 ((F ++ ms).map rtv)) := fun r => by rw [← hS]; exact setK_self hid r
        have hSset : ∀ r Y, (S ++ r).set id Y = bs.set id Y ++ r := fun r Y => by
          rw [← hS, setK_in (by simpa using hid), List.set_set]
        have hBid : ∀ Y r, (bs.set id Y ++ r)[id]? = some Y := fun Y r => setK_self hid r
        simp only [RB, pickV, eqbV, notV, negV, convV, faddrV, fldV, idxV, eqaggV, iaddrV, isnilV, nilckV, pnilV, cloV, extrV, slenV, minV, sidxV, abin, cmpInt, params, growLists, fillCells, newAt, rdPtr, wrPtr, AV.cells, asVal, lenOf, boundOf, rowsOf, argIds, freshIn, scalar1, setAll, AV.isData, AV.isYld, Nat.reduceAdd, Nat.reduceMul, Nat.reduceSub, Nat.reduceEqDiff, Nat.reduceLeDiff, Nat.reduceLT, Int.reduceNeg, ↓reduceIte, reduceCtorEq, Int.reduceEq, Int.reduceLT, Int.reduceLE, Int.reduceBEq, Int.reduceBNe, Int.reduceToNat, IntKind.bits, Int.reduceAdd, Int.reduceSub, Int.reduceMul, Int.reduceTDiv, Int.reduceTMod, DB, DB4, R7B, hBid, show ¬ (l.length : Int) < (l.length : Int) by omega, aslice, lisFits, hSid, hSset, aop, show F.length ≤ l.length by omega, show F.length + (l.length - F.length) ≤ (F ++ ms).length by omega, List.length_map, rtv_len, rtv_data, List.length_append, show F.length + (l.length - F.length) ≤ F.length + ms.length by omega, ]
        refine ⟨List.replicate (l.length - F.length) zerT, [Blk.lst 0 0 53 21 []], ?_⟩
        rw [hF, show F.length + (l.length - F.length) = ((F ++ ms).map rtv).length by simp; omega, List.drop_length, List.append_nil, List.map_append, List.map_append, List.map_replicate, show F.length = (F.map rtv).length by simp, List.take_left]
    · simp only [eF, List.length_take, Nat.min_eq_left (Nat.le_of_lt hi1)]
    · simp only [eF]
      rw [show l.take i0 ++ [l[i0]] ++ l.drop (i0 + 1) = l by rw [List.append_assoc, List.singleton_append, ← List.drop_eq_getElem_cons hi1, List.take_append_drop], hself]
theorem r63 {bs : List Blk} {i lk e : Nat} {s : Int} (h : bs[i]? = some (.box lk e [.int .i64 s])) : PredG E rtv 63 [.ptr i 0 0 0] (fun x => decide (x.src ≠ s)) bs := fun ys pend ext x => by
  have g : ∀ r, (bs ++ r)[i]? = some (.box lk e [.int .i64 s]) := fun r => get_lt h
  refine ⟨[.box 0 53 (rtv x)], ?_⟩
  rw [LR_R (fn := f63) rfl rfl rfl]
  by_cases h1 : x.src = s
  · subst h1
    simp only [f63, RB, pickV, eqbV, notV, negV, convV, faddrV, fldV, idxV, eqaggV, iaddrV, isnilV, nilckV, pnilV, cloV, extrV, slenV, minV, sidxV, abin, cmpInt, params, growLists, fillCells, newAt, rdPtr, wrPtr, AV.cells, asVal, lenOf, boundOf, rowsOf, argIds, freshIn, scalar1, setAll, AV.isData, AV.isYld, Nat.reduceAdd, Nat.reduceMul, Nat.reduceSub, Nat.reduceEqDiff, Nat.reduceLeDiff, Nat.reduceLT, Int.reduceNeg, ↓reduceIte, reduceCtorEq, Int.reduceEq, Int.reduceLT, Int.reduceLE, Int.reduceBEq, Int.reduceBNe, Int.reduceToNat, IntKind.bits, Int.reduceAdd, Int.reduceSub, Int.reduceMul, Int.reduceTDiv, Int.reduceTMod, DB, DB4, R7B, take_add, List.append_assoc, List.length_append, Nat.add_assoc, shrink_lit, ball_app, RG, LPB, g, bne_self_eq_false, ne_eq, not_true_eq_false, decide_false]
  · have z : (x.src != s) = true := by rw [bne_iff_ne]; exact h1
    simp only [f63, RB, pickV, eqbV, notV, negV, convV, faddrV, fldV, idxV, eqaggV, iaddrV, isnilV, nilckV, pnilV, cloV, extrV, slenV, minV, sidxV, abin, cmpInt, params, growLists, fillCells, newAt, rdPtr, wrPtr, AV.cells, asVal, lenOf, boundOf, rowsOf, argIds, freshIn, scalar1, setAll, AV.isData, AV.isYld, Nat.reduceAdd, Nat.reduceMul, Nat.reduceSub, Nat.reduceEqDiff, Nat.reduceLeDiff, Nat.reduceLT, Int.reduceNeg, ↓reduceIte, reduceCtorEq, Int.reduceEq, Int.reduceLT, Int.reduceLE, Int.reduceBEq, Int.reduceBNe, Int.reduceToNat, IntKind.bits, Int.reduceAdd, Int.reduceSub, Int.reduceMul, Int.reduceTDiv, Int.reduceTMod, DB, DB4, R7B, take_add, List.append_assoc, List.length_append, Nat.add_assoc, shrink_lit, ball_app, RG, LPB, g, z, ne_eq, h1, not_false_eq_true, decide_true]
theorem r64 {bs : List Blk} {i lk e : Nat} {s : Int} (h : bs[i]? = some (.box lk e [.int .i64 s])) : PredG E rtv 64 [.ptr i 0 0 0] (fun x => decide (x.src = s)) bs := fun ys pend ext x => by
  have g : ∀ r, (bs ++ r)[i]? = some (.box lk e [.int .i64 s]) := fun r => get_lt h
  refine ⟨[.box 0 53 (rtv x)], ?_⟩
  rw [LR_R (fn := f64) rfl rfl rfl]
  by_cases h1 : x.src = s
  · subst h1
    simp only [f64, RB, pickV, eqbV, notV, negV, convV, faddrV, fldV, idxV, eqaggV, iaddrV, isnilV, nilckV, pnilV, cloV, extrV, slenV, minV, sidxV, abin, cmpInt, params, growLists, fillCells, newAt, rdPtr, wrPtr, AV.cells, asVal, lenOf, boundOf, rowsOf, argIds, freshIn, scalar1, setAll, AV.isData, AV.isYld, Nat.reduceAdd, Nat.reduceMul, Nat.reduceSub, Nat.reduceEqDiff, Nat.reduceLeDiff, Nat.reduceLT, Int.reduceNeg, ↓reduceIte, reduceCtorEq, Int.reduceEq, Int.reduceLT, Int.reduceLE, Int.reduceBEq, Int.reduceBNe, Int.reduceToNat, IntKind.bits, Int.reduceAdd, Int.reduceSub, Int.reduceMul, Int.reduceTDiv, Int.reduceTMod, DB, DB4, R7B, take_add, List.append_assoc, List.length_append, Nat.add_assoc, shrink_lit, ball_app, RG, LPB, g, beq_self_eq_true, decide_true]
  · have z : (x.src == s) = false := by rw [beq_eq_false_iff_ne]; exact h1
    simp only [f64, RB, pickV, eqbV, notV, negV, convV, faddrV, fldV, idxV, eqaggV, iaddrV, isnilV, nilckV, pnilV, cloV, extrV, slenV, minV, sidxV, abin, cmpInt, params, growLists, fillCells, newAt, rdPtr, wrPtr, AV.cells, asVal, lenOf, boundOf, rowsOf, argIds, freshIn, scalar1, setAll, AV.isData, AV.isYld, Nat.reduceAdd, Nat.reduceMul, Nat.reduceSub, Nat.reduceEqDiff, Nat.reduceLeDiff, Nat.reduceLT, Int.reduceNeg, ↓reduceIte, reduceCtorEq, Int.reduceEq, Int.reduceLT, Int.reduceLE, Int.reduceBEq, Int.reduceBNe, Int.reduceToNat, IntKind.bits, Int.reduceAdd, Int.reduceSub, Int.reduceMul, Int.reduceTDiv, Int.reduceTMod, DB, DB4, R7B, take_add, List.append_assoc, List.length_append, Nat.add_assoc, shrink_lit, ball_app, RG, LPB, g, z, h1, decide_false]
end Go.Proofs.YtgajekpigkknnaaDoor.F
namespace Go.Proofs.YtgajekpigkknnaaDoor.D
open Go Go.Proofs.YtgajekpigkknnaaDoor.A
def mixL (a b : List Rt) (s : Int) : List Rt := (a.filter fun x => decide (x.src ≠ s)) ++ (b.filter fun x => decide (x.src = s))
def mixS (a b : List Rt) (s : Int) : List Rt := sortL cmpR (mixL a b s)
theorem filt_not (a : List Rt) (s : Int) : (a.filter fun x => !decide (x.src = s)) = a.filter fun x => decide (x.src ≠ s) := by
  congr 1; funext x; simp
theorem filt_not2 (a : List Rt) (s : Int) : (a.filter fun x => !decide (x.src ≠ s)) = a.filter fun x => decide (x.src = s) := by
  congr 1; funext x; simp
end Go.Proofs.YtgajekpigkknnaaDoor.D
namespace Go.Proofs.YtgajekpigkknnaaDoor.F
open Go Go.Proofs.YtgajekpigkknnaaDoor.A Go.Proofs.YtgajekpigkknnaaDoor.D
theorem trows_scalar (l : List Rt) : ((trows l).all fun r => r.all scalar1) = true := by
  rw [List.all_eq_true]; intro r hr
  obtain ⟨p, _, rfl⟩ := List.mem_map.1 hr
  simp [rtv, pav, bav, u8c, scalar1]
theorem fr66 {bs : List Blk} {pend : List (Option AExit)} {id n : Nat} {l : List Rt} {P : Rt → Bool} {g : FuncId} {caps : List AV} (B : List Blk) (hB : (bs.map lockQ).set id (.lst 0 0 53 21 (trows l)) = B) (hl : l.length ≤ 1000000) (hn : l.length = n) (h : bs[id]? = some (.lst 0 0 53 21 (trows l)))
    (hp : ∀ Y, PredG E rtv g caps P (B.set id (.lst 0 0 53 21 Y))) (hlow : belowAll B.length B = true) (hc : belowL B.length caps = true) :
    ∃ z : List Rt, frameR (LR E []) [] 66 [.lis id 0 0 n, .clo g caps] ⟨bs, pend⟩ = some (.lis id 0 0 (l.filter fun x => !P x).length, ⟨bs.set id (.lst 0 0 53 21 (trows ((l.filter fun x => !P x) ++ z))), pend⟩) := by
  have hid := (List.getElem?_eq_some_iff.1 h).1
  have hBl : B.length = bs.length := by rw [← hB]; simp
  obtain ⟨z, r, h1⟩ := r66 (ys := []) (pend := []) (bs := B) (id := id) (gen := 0) (n := n) (l := l) (P := P) (g := g) (caps := caps) hl hn (by rw [← hB]; exact List.getElem?_set_self (by simpa using hid)) hp hlow hc
  refine ⟨z, frameR_lis (hp := ⟨bs, pend⟩) h (by simp only [hB]; exact h1) (setK_self (by rw [hBl]; exact hid) r) (trows_scalar _)⟩
set_option maxHeartbeats 1000000 in
theorem e44 (a b : List Rt) (s : Int) (ha : a.length ≤ 1000000) (hb : b.length ≤ 1000000) (hs : SortD okR cmpR (mixL a b s)) : LV E 44 [.agg [.ro (trows a)], .agg [.ro (trows b)], .int .i64 s] = some (.agg [.fresh 53 21 (trows (mixS a b s))]) := by
  rw [LV_R (fn := f44) rfl rfl rfl]
  have h36a := e36 a ha
  have h36b := e36 b hb
  obtain ⟨z1, h1⟩ := fr66 (bs := [.box 0 46 [.ro (trows a)], .box 0 46 [.ro (trows b)], .box 0 3 [.int .i64 s], .box 0 46 [.lis 4 0 0 0], .lst 0 0 53 21 [], .lst 0 0 53 21 (trows a), .dead, .dead]) (pend := []) (id := 5) (l := a) (P := fun x => decide (x.src = s)) (g := 64) (caps := [.ptr 2 0 0 0]) _ rfl ha rfl rfl (fun Y => r64 rfl) (by simp [LPB, lockQ]) (by simp [LPB, lockQ])
  rw [filt_not] at h1
  simp only [List.set_cons_succ, List.set_cons_zero] at h1
  obtain ⟨z2, h2⟩ := fr66 (bs := [.box 0 46 [.ro (trows a)], .box 0 46 [.ro (trows b)], .box 0 3 [.int .i64 s], .box 0 46 [.lis 4 0 0 0], .lst 0 0 53 21 [], .lst 0 0 53 21 (trows ((a.filter fun x => decide (x.src ≠ s)) ++ z1)), .lst 0 0 53 21 (trows b), .dead]) (pend := []) (id := 6) (l := b) (P := fun x => decide (x.src ≠ s)) (g := 63) (caps := [.ptr 2 0 0 0]) _ rfl hb rfl rfl (fun Y => r63 rfl) (by simp [LPB, lockQ]) (by simp [LPB, lockQ])
  rw [filt_not2] at h2
  simp only [List.set_cons_succ, List.set_cons_zero] at h2
  have h65 := e65 [a.filter fun x => decide (x.src ≠ s), b.filter fun x => decide (x.src = s)] (by simp) (by
    have h1 := List.length_filter_le (fun x : Rt => decide (x.src ≠ s)) a
    have h2 := List.length_filter_le (fun x : Rt => decide (x.src = s)) b
    simp only [List.flatten_cons, List.flatten_nil, List.append_nil, List.length_append]; omega)
  have eY : yrows [a.filter fun x => decide (x.src ≠ s), b.filter fun x => decide (x.src = s)] = [[.ro (trows (a.filter fun x => decide (x.src ≠ s)))], [.ro (trows (b.filter fun x => decide (x.src = s)))]] := rfl
  have eF : [a.filter fun x => decide (x.src ≠ s), b.filter fun x => decide (x.src = s)].flatten = mixL a b s := by simp [mixL]
  rw [eY, eF] at h65
  clear eY eF
  generalize hF1 : (a.filter fun x => decide (x.src ≠ s)) = F1 at *
  generalize hF2 : (b.filter fun x => decide (x.src = s)) = F2 at *
  have hsort := sortD_call (E := E) (ys := []) (pend := []) (f := 67) (g := 68) (enc := rtv) (ok := okR) (cf := cmpR) (e := 53) (k := 21) rfl rtv_inj (bs := [.box 0 46 [.ro (trows a)], .box 0 46 [.ro (trows b)], .box 0 3 [.int .i64 s], .box 0 46 [.lis 4 0 0 0], .lst 0 0 53 21 [], .lst 2 0 53 21 (trows (F1 ++ z1)), .lst 2 0 53 21 (trows (F2 ++ z2)), .lst 0 0 53 21 (trows (mixL a b s))]) (id := 7) (gn := 0) (len := (mixL a b s).length) (xs := mixL a b s) rfl rfl (by
    have h1 := List.length_filter_le (fun x : Rt => decide (x.src ≠ s)) a
    have h2 := List.length_filter_le (fun x : Rt => decide (x.src = s)) b
    unfold mixL; rw [List.length_append]; omega) hs
  have hml : (sortL cmpR (mixL a b s)).length = (mixL a b s).length := sortL_len _ _
  have hma := trows_all (sortL cmpR (mixL a b s))
  rw [hml] at hma
  unfold mixS
  rw [show List.map rtv (sortL cmpR (mixL a b s)) = trows (sortL cmpR (mixL a b s)) from rfl] at hsort
  simp only [f44, ← rtv_zer, RB, pickV, eqbV, notV, negV, convV, faddrV, fldV, idxV, eqaggV, iaddrV, isnilV, nilckV, pnilV, cloV, extrV, slenV, minV, sidxV, abin, cmpInt, params, growLists, fillCells, newAt, rdPtr, wrPtr, AV.cells, asVal, lenOf, boundOf, rowsOf, argIds, freshIn, scalar1, setAll, AV.isData, AV.isYld, Nat.reduceAdd, Nat.reduceMul, Nat.reduceSub, Nat.reduceEqDiff, Nat.reduceLeDiff, Nat.reduceLT, Int.reduceNeg, ↓reduceIte, reduceCtorEq, Int.reduceEq, Int.reduceLT, Int.reduceLE, Int.reduceBEq, Int.reduceBNe, Int.reduceToNat, IntKind.bits, Int.reduceAdd, Int.reduceSub, Int.reduceMul, Int.reduceTDiv, Int.reduceTMod, DB, DB4, R7B, take_add, List.append_assoc, List.length_append, Nat.add_assoc, shrink_lit, ball_app, RG, LPB, O_buildSlq, quietOk, aop_buildSl, fillRows, asData, aappend, pairOk, AV.ids, List.contains_cons, List.contains_nil, Nat.reduceBEq, List.all_cons, List.all_nil, Bool.or_self, Bool.not_false, Bool.and_self, Bool.or_false, toDataL, toData, rowsOf, lockAt, List.take_left, Nat.le_add_right, h36a, h36b, CR_clo3, h1, h2, h65, hsort, expRes_aggm, hma, hml, trows_len, Nat.le_refl, expCell, List.nodup_cons, List.nodup_nil, List.not_mem_nil, not_false_eq_true, not_true_eq_false, and_true, and_false, if_false, List.mem_cons, mutIds]
  done
end Go.Proofs.YtgajekpigkknnaaDoor.F

/- A RIB mixed with another one by a source, checked. No condition. -/
set_option linter.unusedSimpArgs false
set_option maxRecDepth 20000
namespace Go.Proofs.YtgajekpigkknnaaDoor.D
open Go Go.Proofs.YtgajekpigkknnaaDoor.A
theorem RibP.pair {l : List Rt} (h : RibP l) : l.Pairwise Ahead := sort_pair.1 h.sort
theorem RibP.fits {l : List Rt} (h : RibP l) : ∀ x ∈ l, FitsP x := fun x hx => by
  obtain ⟨j, hj, rfl⟩ := List.mem_iff_getElem.1 hx
  have := (h.2.1 j hj).1
  rwa [tow_eq l hj] at this
theorem key_uniq {l : List Rt} (h : l.Pairwise Ahead) : ∀ {x y : Rt}, x ∈ l → y ∈ l → KeyEq x y → x = y := by
  induction l with
  | nil => intro x y hx; simp at hx
  | cons a l ih =>
    intro x y hx hy hk
    obtain ⟨h1, h2⟩ := List.pairwise_cons.1 h
    rcases List.mem_cons.1 hx with rfl | hx
    · rcases List.mem_cons.1 hy with rfl | hy
      · rfl
      · exact absurd (h1 y hy) (keyEq_irr hk)
    · rcases List.mem_cons.1 hy with he | hy
      · exact absurd (he ▸ h1 x hx) (keyEq_irr' hk)
      · exact ih h2 hx hy hk
theorem cmpR_key {a b : Rt} (h : cmpR a b = 0) : KeyEq a b := by
  unfold cmpR at h
  by_cases h0 : cmpP a.p b.p = 0
  · rw [if_neg (by simpa using h0)] at h
    exact ⟨cmp_zero h0, by omega⟩
  · rw [if_pos h0] at h; exact absurd h h0
theorem fits_ok {x : Rt} (h : FitsP x) : okR x := by
  unfold FitsP at h; unfold okR; omega
theorem mix_sortD {a b : List Rt} (ha : RibP a) (hb : RibP b) (s : Int) : SortD okR cmpR (mixL a b s) := by
  have hm : ∀ x ∈ mixL a b s, (x ∈ a ∧ x.src ≠ s) ∨ (x ∈ b ∧ x.src = s) := fun x hx => by
    unfold mixL at hx
    rcases List.mem_append.1 hx with h | h
    · obtain ⟨h1, h2⟩ := List.mem_filter.1 h
      exact .inl ⟨h1, of_decide_eq_true h2⟩
    · obtain ⟨h1, h2⟩ := List.mem_filter.1 h
      exact .inr ⟨h1, of_decide_eq_true h2⟩
  refine ⟨fun x hx => ?_, fun x hx y hy h => ?_⟩
  · rcases hm x hx with h | h
    · exact fits_ok (ha.fits x h.1)
    · exact fits_ok (hb.fits x h.1)
  · have hk := cmpR_key h
    rcases hm x hx with h1 | h1
    · rcases hm y hy with h2 | h2
      · exact key_uniq ha.pair h1.1 h2.1 hk
      · exact absurd (hk.2.trans h2.2) h1.2
    · rcases hm y hy with h2 | h2
      · exact absurd (hk.2.symm.trans h1.2) h2.2
      · exact key_uniq hb.pair h1.1 h2.1 hk
theorem mixS_len (a b : List Rt) (s : Int) : (mixS a b s).length ≤ a.length + b.length := by
  unfold mixS; rw [sortL_len]; unfold mixL; rw [List.length_append]
  have h1 := List.length_filter_le (fun x : Rt => decide (x.src ≠ s)) a
  have h2 := List.length_filter_le (fun x : Rt => decide (x.src = s)) b
  omega
theorem rightS_zero {a b : List Rt} {s least : Int} (h : rightS a b s least = 0) : RibP a ∧ RibP b ∧ least ≤ s ∧ s ≤ 4 := by
  unfold rightS at h
  split at h
  · rename_i h1
    split at h
    · rename_i h2
      split at h
      · cases h
      · exact ⟨h1, h2, by omega, by omega⟩
    · cases h
  · cases h
/-- A RIB mixed, or why not. -/
def mixR (a b : List Rt) (s : Int) : List Rt × Int := if rightS a b s 1 ≠ 0 then ([], rightS a b s 1) else if RibP (mixS a b s) then (mixS a b s, 0) else ([], 6)
end Go.Proofs.YtgajekpigkknnaaDoor.D
namespace Go.Proofs.YtgajekpigkknnaaDoor.F
open Go Go.Proofs.YtgajekpigkknnaaDoor.A Go.Proofs.YtgajekpigkknnaaDoor.D
theorem take_agg1 {s : Nat} {e : TypeId} {k : Nat} {rows : List (List AV)} {bs : List Blk} : takeRes true s (.agg [.fresh e k rows]) bs = (takeL true s [.fresh e k rows] bs).map fun r => (.agg r.1, r.2) := rfl
set_option maxHeartbeats 1000000 in
theorem e24 (a b : List Rt) (s : Int) (ha : a.length ≤ 1000000) (hb : b.length ≤ 1000000) : LV E 24 [.agg [.ro (trows a)], .agg [.ro (trows b)], .int .i64 s] = some (.tup [.agg [.ro (trows (mixR a b s).1)], .int .i64 (mixR a b s).2]) := by
  rw [LV_R (fn := f24) rfl rfl rfl]
  have h41 := e41 a b s 1 (by omega) (by omega)
  unfold mixR
  by_cases h0 : rightS a b s 1 = 0
  · obtain ⟨hA, hB, h1, h2⟩ := rightS_zero h0
    rw [if_neg (by simpa using h0)]
    have h44 := e44 a b s ha hb (mix_sortD hA hB s)
    have hl := mixS_len a b s
    have h30 := e30 (mixS a b s) (by omega)
    generalize mixS a b s = m at *
    rw [h0] at h41
    by_cases hR : RibP m
    · rw [if_pos hR] at h30 ⊢
      simp only [f24, ← rtv_zer, RB, pickV, eqbV, notV, negV, convV, faddrV, fldV, idxV, eqaggV, iaddrV, isnilV, nilckV, pnilV, cloV, extrV, slenV, minV, sidxV, abin, cmpInt, params, growLists, fillCells, newAt, rdPtr, wrPtr, AV.cells, asVal, lenOf, boundOf, rowsOf, argIds, freshIn, scalar1, setAll, AV.isData, AV.isYld, Nat.reduceAdd, Nat.reduceMul, Nat.reduceSub, Nat.reduceEqDiff, Nat.reduceLeDiff, Nat.reduceLT, Int.reduceNeg, ↓reduceIte, reduceCtorEq, Int.reduceEq, Int.reduceLT, Int.reduceLE, Int.reduceBEq, Int.reduceBNe, Int.reduceToNat, IntKind.bits, Int.reduceAdd, Int.reduceSub, Int.reduceMul, Int.reduceTDiv, Int.reduceTMod, DB, DB4, R7B, take_add, List.append_assoc, List.length_append, Nat.add_assoc, shrink_lit, ball_app, RG, LPB, h41, h44, h30, take_agg1, bne_self_eq_false, snap, snapCell, rowsOf, CW_some, scalar, scalar1, lockAll, lockAt, reduceCtorEq, extrV, List.all_cons, List.all_nil, expIn_tabT, expCell, List.nodup_cons, List.nodup_nil, List.not_mem_nil, not_false_eq_true, not_true_eq_false, and_true, and_false, if_false, List.mem_cons, mutIds, trows_len, Nat.le_refl, List.take_length]
      done
    · rw [if_neg hR] at h30 ⊢
      simp only [f24, ← rtv_zer, RB, pickV, eqbV, notV, negV, convV, faddrV, fldV, idxV, eqaggV, iaddrV, isnilV, nilckV, pnilV, cloV, extrV, slenV, minV, sidxV, abin, cmpInt, params, growLists, fillCells, newAt, rdPtr, wrPtr, AV.cells, asVal, lenOf, boundOf, rowsOf, argIds, freshIn, scalar1, setAll, AV.isData, AV.isYld, Nat.reduceAdd, Nat.reduceMul, Nat.reduceSub, Nat.reduceEqDiff, Nat.reduceLeDiff, Nat.reduceLT, Int.reduceNeg, ↓reduceIte, reduceCtorEq, Int.reduceEq, Int.reduceLT, Int.reduceLE, Int.reduceBEq, Int.reduceBNe, Int.reduceToNat, IntKind.bits, Int.reduceAdd, Int.reduceSub, Int.reduceMul, Int.reduceTDiv, Int.reduceTMod, DB, DB4, R7B, take_add, List.append_assoc, List.length_append, Nat.add_assoc, shrink_lit, ball_app, RG, LPB, h41, h44, h30, take_agg1, bne_self_eq_false, show ((211 : Int) != 0) = true from rfl, snap, snapCell, rowsOf, CW_some, scalar, scalar1, lockAll, lockAt, reduceCtorEq, extrV, List.all_cons, List.all_nil, expIn_tabT, expCell, List.nodup_cons, List.nodup_nil, List.not_mem_nil, not_false_eq_true, not_true_eq_false, and_true, and_false, if_false, List.mem_cons, mutIds, trows_len, Nat.le_refl, List.take_length]
      rfl
  · rw [if_pos h0]
    have z : (rightS a b s 1 != 0) = true := by rw [bne_iff_ne]; exact h0
    simp only [f24, ← rtv_zer, RB, pickV, eqbV, notV, negV, convV, faddrV, fldV, idxV, eqaggV, iaddrV, isnilV, nilckV, pnilV, cloV, extrV, slenV, minV, sidxV, abin, cmpInt, params, growLists, fillCells, newAt, rdPtr, wrPtr, AV.cells, asVal, lenOf, boundOf, rowsOf, argIds, freshIn, scalar1, setAll, AV.isData, AV.isYld, Nat.reduceAdd, Nat.reduceMul, Nat.reduceSub, Nat.reduceEqDiff, Nat.reduceLeDiff, Nat.reduceLT, Int.reduceNeg, ↓reduceIte, reduceCtorEq, Int.reduceEq, Int.reduceLT, Int.reduceLE, Int.reduceBEq, Int.reduceBNe, Int.reduceToNat, IntKind.bits, Int.reduceAdd, Int.reduceSub, Int.reduceMul, Int.reduceTDiv, Int.reduceTMod, DB, DB4, R7B, take_add, List.append_assoc, List.length_append, Nat.add_assoc, shrink_lit, ball_app, RG, LPB, h41, z, CW_some, scalar, scalar1, lockAll, lockAt, reduceCtorEq, extrV, List.all_cons, List.all_nil, expIn_tabT, expCell, List.nodup_cons, List.nodup_nil, List.not_mem_nil, not_false_eq_true, not_true_eq_false, and_true, and_false, if_false, List.mem_cons, mutIds, trows_len, Nat.le_refl, List.take_length]
    rfl
end Go.Proofs.YtgajekpigkknnaaDoor.F

/- The routes of a RIB of which another one has none that is such, told in turn. No condition. -/
set_option linter.unusedSimpArgs false
set_option maxRecDepth 20000
namespace Go.Proofs.YtgajekpigkknnaaDoor.D
open Go Go.Proofs.YtgajekpigkknnaaDoor.A
/-- A row has one of this key, and it is such. -/
def hasK (B : List Rt) (σ : Rt → Rt → Bool) (x : Rt) : Bool := B.any fun y => decide (KeyEq y x) && σ x y
def butS (A B : List Rt) (σ : Rt → Rt → Bool) : List Rt := A.filter fun x => !(hasK B σ x)
theorem hasK_at {B : List Rt} {σ : Rt → Rt → Bool} {x : Rt} {i : Nat} (hs : SortR B) (hlo : LoR B x i) (hhi : HiR B x i) : hasK B σ x = (decide (i < B.length ∧ KeyEq (tow B i) x) && σ x (tow B i)) := by
  unfold hasK
  rw [Bool.eq_iff_iff, List.any_eq_true, Bool.and_eq_true, decide_eq_true_eq]
  constructor
  · rintro ⟨y, hy, h⟩
    rw [Bool.and_eq_true, decide_eq_true_eq] at h
    obtain ⟨h1, h2⟩ := h
    have ht := there_iff hs hlo hhi
    have : thereB B x = true := List.any_eq_true.2 ⟨y, hy, decide_eq_true h1⟩
    rw [this] at ht
    have h3 := of_decide_eq_true ht.symm
    have h4 : y = tow B i := key_uniq (sort_pair.1 hs) hy (by rw [tow_eq B h3.1]; exact List.getElem_mem _) ⟨h1.1.trans h3.2.1.symm, h1.2.trans h3.2.2.symm⟩
    exact ⟨h3, h4 ▸ h2⟩
  · rintro ⟨h1, h2⟩
    exact ⟨tow B i, by rw [tow_eq B h1.1]; exact List.getElem_mem _, by rw [Bool.and_eq_true, decide_eq_true_eq]; exact ⟨h1.2, h2⟩⟩
theorem but_next {A B : List Rt} {σ : Rt → Rt → Bool} {k : Nat} (h : k < A.length) : butS (A.take (k + 1)) B σ = butS (A.take k) B σ ++ (if hasK B σ A[k] = true then [] else [A[k]]) := by
  unfold butS
  rw [List.take_add_one, List.getElem?_eq_getElem h, Option.toList_some, List.filter_append]
  congr 1
  cases hK : hasK B σ A[k] <;> simp [hK]
theorem but_len (A B : List Rt) (σ : Rt → Rt → Bool) : (butS A B σ).length ≤ A.length := List.length_filter_le _ _
end Go.Proofs.YtgajekpigkknnaaDoor.D
namespace Go.Proofs.YtgajekpigkknnaaDoor.F
open Go Go.Proofs.YtgajekpigkknnaaDoor.A Go.Proofs.YtgajekpigkknnaaDoor.D
/-- Somebody who takes all that is told. -/
structure HndG {α : Type} (enc : α → List AV) (h : Hd) (S : List α → List Blk) (m N : Nat) (pd : List (Option AExit)) : Prop where
  len : ∀ s, (S s).length = m
  low : ∀ s, belowAll m (S s) = true
  hd : ∀ s p ext, s.length < N → belowAll (m + ext.length) ext = true → h [.agg (enc p)] ⟨S s ++ ext, pd⟩ = some (true, ⟨S (s ++ [p]) ++ ext, pd⟩)
/-- Whether two routes are such, as a call. -/
def SuchC (g : FuncId) (σ : Rt → Rt → Bool) : Prop := E.prim g = none ∧ ∀ ys pend bs x y, ∃ e, LR E ys g [.agg (rtv x), .agg (rtv y)] ⟨bs, pend⟩ = some (.bool (σ x y), ⟨bs ++ e, pend⟩)
theorem r59 : SuchC 59 fun _ _ => true := ⟨rfl, fun ys pend bs x y => by
  refine ⟨[.box 0 53 (rtv x), .box 0 53 (rtv y)], ?_⟩
  rw [LR_R (fn := f59) rfl rfl rfl]
  simp only [f59, RB, pickV, eqbV, notV, negV, convV, faddrV, fldV, idxV, eqaggV, iaddrV, isnilV, nilckV, pnilV, cloV, extrV, slenV, minV, sidxV, abin, cmpInt, params, growLists, fillCells, newAt, rdPtr, wrPtr, AV.cells, asVal, lenOf, boundOf, rowsOf, argIds, freshIn, scalar1, setAll, AV.isData, AV.isYld, Nat.reduceAdd, Nat.reduceMul, Nat.reduceSub, Nat.reduceEqDiff, Nat.reduceLeDiff, Nat.reduceLT, Int.reduceNeg, ↓reduceIte, reduceCtorEq, Int.reduceEq, Int.reduceLT, Int.reduceLE, Int.reduceBEq, Int.reduceBNe, Int.reduceToNat, IntKind.bits, Int.reduceAdd, Int.reduceSub, Int.reduceMul, Int.reduceTDiv, Int.reduceTMod, DB, DB4, R7B, take_add, List.append_assoc, List.length_append, Nat.add_assoc, shrink_lit, ball_app, RG, LPB]⟩
theorem r61 : SuchC 61 fun x y => decide (x = y) := ⟨rfl, fun ys pend bs x y => by
  refine ⟨[.box 0 53 (rtv x), .box 0 53 (rtv y)], ?_⟩
  rw [LR_R (fn := f61) rfl rfl rfl]
  simp only [f61, RB, pickV, eqbV, notV, negV, convV, faddrV, fldV, idxV, eqaggV, iaddrV, isnilV, nilckV, pnilV, cloV, extrV, slenV, minV, sidxV, abin, cmpInt, params, growLists, fillCells, newAt, rdPtr, wrPtr, AV.cells, asVal, lenOf, boundOf, rowsOf, argIds, freshIn, scalar1, setAll, AV.isData, AV.isYld, Nat.reduceAdd, Nat.reduceMul, Nat.reduceSub, Nat.reduceEqDiff, Nat.reduceLeDiff, Nat.reduceLT, Int.reduceNeg, ↓reduceIte, reduceCtorEq, Int.reduceEq, Int.reduceLT, Int.reduceLE, Int.reduceBEq, Int.reduceBNe, Int.reduceToNat, IntKind.bits, Int.reduceAdd, Int.reduceSub, Int.reduceMul, Int.reduceTDiv, Int.reduceTMod, DB, DB4, R7B, take_add, List.append_assoc, List.length_append, Nat.add_assoc, shrink_lit, ball_app, RG, LPB]⟩
theorem r58 {ys : List Hd} {pend : List (Option AExit)} (bs : List Blk) (A B : List Rt) (g : FuncId) : LR E ys 58 [.agg [.ro (trows A)], .agg [.ro (trows B)], .clo g []] ⟨bs, pend⟩ = some (.clo 83 [.ptr bs.length 0 0 0, .ptr (bs.length + 1) 0 0 0, .ptr (bs.length + 2) 0 0 0], ⟨bs ++ [.box 0 46 [.ro (trows A)], .box 0 46 [.ro (trows B)], .box 0 81 [.clo g []]], pend⟩) := by
  rw [LR_R (fn := f58) rfl rfl rfl]
  simp only [f58, RB, pickV, eqbV, notV, negV, convV, faddrV, fldV, idxV, eqaggV, iaddrV, isnilV, nilckV, pnilV, cloV, extrV, slenV, minV, sidxV, abin, cmpInt, params, growLists, fillCells, newAt, rdPtr, wrPtr, AV.cells, asVal, lenOf, boundOf, rowsOf, argIds, freshIn, scalar1, setAll, AV.isData, AV.isYld, Nat.reduceAdd, Nat.reduceMul, Nat.reduceSub, Nat.reduceEqDiff, Nat.reduceLeDiff, Nat.reduceLT, Int.reduceNeg, ↓reduceIte, reduceCtorEq, Int.reduceEq, Int.reduceLT, Int.reduceLE, Int.reduceBEq, Int.reduceBNe, Int.reduceToNat, IntKind.bits, Int.reduceAdd, Int.reduceSub, Int.reduceMul, Int.reduceTDiv, Int.reduceTMod, DB, DB4, R7B, take_add, List.append_assoc, List.length_append, Nat.add_assoc, shrink_lit, ball_app, RG, LPB]
theorem low_boxR {m : Nat} (p : Rt) : belowAll (m + 1) [.box 0 53 (rtv p)] = true := by simp [LPB, rtv_below]
set_option maxHeartbeats 1000000 in
theorem r83 {a b c la lb lc ea eb ec : Nat} {A B : List Rt} {g : FuncId} {σ : Rt → Rt → Bool} (hA : A.length ≤ 1000000) (hB : B.length ≤ 1000000) (hAo : ∀ x ∈ A, okR x) (hBo : ∀ x ∈ B, okR x) (hs : SortR B) (hg : SuchC g σ)
    {h : Hd} {S : List Rt → List Blk} {m N : Nat} (ga : ∀ s r, (S s ++ r)[a]? = some (.box la ea [.ro (trows A)])) (gb : ∀ s r, (S s ++ r)[b]? = some (.box lb eb [.ro (trows B)])) (gc : ∀ s r, (S s ++ r)[c]? = some (.box lc ec [.clo g []])) {ys : List Hd} {pd : List (Option AExit)} {d : Nat} (hy : ys[d]? = some h) (H : HndG rtv h S m N pd) (hN : (butS A B σ).length ≤ N) :
    ∃ ext, LR E ys 83 [.yld d, .ptr a 0 0 0, .ptr b 0 0 0, .ptr c 0 0 0] ⟨S [], pd⟩ = some (.tup [], ⟨S (butS A B σ) ++ ext, pd⟩) := by
  have ga : ∀ s, (S s)[a]? = some (.box la ea [.ro (trows A)]) := fun s => by have := ga s []; rwa [List.append_nil] at this
  have hbm : b < m := by have := (List.getElem?_eq_some_iff.1 (gb [] [])).1; rw [List.append_nil, H.len] at this; exact this
  have hcm : c < m := by have := (List.getElem?_eq_some_iff.1 (gc [] [])).1; rw [List.append_nil, H.len] at this; exact this
  rw [LR_R (fn := f83) rfl rfl rfl]
  simp only [f83, ← rtv_zer, RB, pickV, eqbV, notV, negV, convV, faddrV, fldV, idxV, eqaggV, iaddrV, isnilV, nilckV, pnilV, cloV, extrV, slenV, minV, sidxV, abin, cmpInt, params, growLists, fillCells, newAt, rdPtr, wrPtr, AV.cells, asVal, lenOf, boundOf, rowsOf, argIds, freshIn, scalar1, setAll, AV.isData, AV.isYld, Nat.reduceAdd, Nat.reduceMul, Nat.reduceSub, Nat.reduceEqDiff, Nat.reduceLeDiff, Nat.reduceLT, Int.reduceNeg, ↓reduceIte, reduceCtorEq, Int.reduceEq, Int.reduceLT, Int.reduceLE, Int.reduceBEq, Int.reduceBNe, Int.reduceToNat, IntKind.bits, Int.reduceAdd, Int.reduceSub, Int.reduceMul, Int.reduceTDiv, Int.reduceTMod, DB, DB4, R7B, ga, H.len]
  refine W_recP2 (ι := Nat) (Q := fun _ x => ∃ ext, x = some ((AV.tup [], ⟨S (butS A B σ) ++ ext, pd⟩) : AV × Hp))
    (M := fun k => [(0, .yld d), (2, .ptr b 0 0 0), (3, .ptr c 0 0 0), (10, .ro (trows A)), (11, .int .i64 (A.length : Int)), (12, .int .i64 (k : Int))]) (H := fun k => ⟨S (butS (A.take k) B σ), pd⟩) (μ := fun k => A.length - k) (fun k => ⟨?_, H.low _⟩) (fun k ih => ?_) 0 rfl rfl
  · simp only [List.map_cons, List.map_nil, LPB, hbm, hcm, decide_true, Bool.and_self]
  · by_cases hk : k < A.length
    · have f1 : (k : Int) < (A.length : Int) := by omega
      have f2 : (0 : Int) ≤ (k : Int) := by omega
      have f6 : IntKind.i64.wrap ((k : Int) + 1) = ((k + 1 : Nat) : Int) := by rw [IntWalk.i64_in _ (by omega)] <;> omega
      have g1 := trows_get A hk
      have en := but_next (B := B) (σ := σ) hk
      have hle : (butS (A.take (k + 1)) B σ).length ≤ (butS A B σ).length := by
        conv => rhs; rw [← List.take_append_drop (k + 1) A]
        unfold butS; rw [List.filter_append, List.length_append]; omega
      have hxo := hAo _ (List.getElem_mem hk)
      have ih := ih (k + 1) (by omega)
      rw [en] at ih hle
      generalize hxe : A[k] = x at *
      generalize butS (A.take k) B σ = s at *
      obtain ⟨e, i, i1, i2, i3, h51⟩ := r51 (ys := ys) (pend := pd) (bs := S s ++ [.box 0 53 (rtv x)]) (v := .ro (trows B)) r68 (fun p q => by rw [cmpR_lt]; rfl) cmpR_zero x hxo (fun j hj => hBo _ (by rw [tow_eq B hj]; exact List.getElem_mem _)) hB (SlV.ro (trows_k _)) hs (by rw [List.length_append, H.len, ball_app, belowAll_mono (by simp) (H.low s)]; exact low_boxR x)
      have hK := hasK_at (σ := σ) hs i2 i3
      have hsh : ∀ a, a.refsLt (m + 1) = true → shrink false (m + 1) a ⟨S s ++ [.box 0 53 (rtv x)] ++ e, pd⟩ = some ⟨S s ++ [.box 0 53 (rtv x)], pd⟩ := fun a ha => shrink_app (by rw [List.length_append, H.len]; rfl) ha (by rw [ball_app, belowAll_mono (by omega) (H.low s)]; exact low_boxR x)
      obtain ⟨e2, hsu⟩ := hg.2 ys pd (S s ++ [.box 0 53 (rtv x)]) x (tow B i)
      have hsh2 : shrink false (m + 1) (.bool (σ x (tow B i))) ⟨S s ++ [.box 0 53 (rtv x)] ++ e2, pd⟩ = some ⟨S s ++ [.box 0 53 (rtv x)], pd⟩ := shrink_app (by rw [List.length_append, H.len]; rfl) rfl (by rw [ball_app, belowAll_mono (by omega) (H.low s)]; exact low_boxR x)
      have hh := H.hd s x [.box 0 53 (rtv x)]
      rw [hK] at ih hle
      have i0 : (0 : Int) ≤ (i : Int) := by omega
      simp only [List.append_assoc, List.cons_append, List.nil_append] at h51 hsh hsu hsh2
      by_cases ht : i < B.length ∧ KeyEq (tow B i) x
      · rw [decide_eq_true ht, Bool.true_and] at ih hle
        rw [decide_eq_true ht] at h51
        have g2 := tow_get B ht.1
        cases hσ : σ x (tow B i) with
        | true =>
          rw [hσ] at ih hsu hsh2
          simp only [if_true, List.append_nil] at ih
          simp only [RB, pickV, eqbV, notV, negV, convV, faddrV, fldV, idxV, eqaggV, iaddrV, isnilV, nilckV, pnilV, cloV, extrV, slenV, minV, sidxV, abin, cmpInt, params, growLists, fillCells, newAt, rdPtr, wrPtr, AV.cells, asVal, lenOf, boundOf, rowsOf, argIds, freshIn, scalar1, setAll, AV.isData, AV.isYld, Nat.reduceAdd, Nat.reduceMul, Nat.reduceSub, Nat.reduceEqDiff, Nat.reduceLeDiff, Nat.reduceLT, Int.reduceNeg, ↓reduceIte, reduceCtorEq, Int.reduceEq, Int.reduceLT, Int.reduceLE, Int.reduceBEq, Int.reduceBNe, Int.reduceToNat, IntKind.bits, Int.reduceAdd, Int.reduceSub, Int.reduceMul, Int.reduceTDiv, Int.reduceTMod, DB, DB4, R7B, List.length_append, List.append_assoc, f1, f2, f6, i0, g1, g2, gb, gc, H.len, h51, hsh, hsu, hsh2, LPB, take_at (H.len _)]
          exact ih
        | false =>
          rw [hσ] at ih hsu hsh2 hle
          simp only [Bool.false_eq_true, if_false] at ih hle
          have hh := hh (by rw [List.length_append] at hle; simp only [List.length_cons, List.length_nil] at hle; omega) (low_boxR x)
          simp only [RB, pickV, eqbV, notV, negV, convV, faddrV, fldV, idxV, eqaggV, iaddrV, isnilV, nilckV, pnilV, cloV, extrV, slenV, minV, sidxV, abin, cmpInt, params, growLists, fillCells, newAt, rdPtr, wrPtr, AV.cells, asVal, lenOf, boundOf, rowsOf, argIds, freshIn, scalar1, setAll, AV.isData, AV.isYld, Nat.reduceAdd, Nat.reduceMul, Nat.reduceSub, Nat.reduceEqDiff, Nat.reduceLeDiff, Nat.reduceLT, Int.reduceNeg, ↓reduceIte, reduceCtorEq, Int.reduceEq, Int.reduceLT, Int.reduceLE, Int.reduceBEq, Int.reduceBNe, Int.reduceToNat, IntKind.bits, Int.reduceAdd, Int.reduceSub, Int.reduceMul, Int.reduceTDiv, Int.reduceTMod, DB, DB4, R7B, List.length_append, List.append_assoc, f1, f2, f6, i0, g1, g2, gb, gc, H.len, h51, hsh, hsu, hsh2, LPB, CR_yld' hy, hh, take_at (H.len _)]
          exact ih
      · rw [decide_eq_false ht, Bool.false_and] at ih hle
        rw [decide_eq_false ht] at h51
        simp only [Bool.false_eq_true, if_false] at ih hle
        have hh := hh (by rw [List.length_append] at hle; simp only [List.length_cons, List.length_nil] at hle; omega) (low_boxR x)
        simp only [RB, pickV, eqbV, notV, negV, convV, faddrV, fldV, idxV, eqaggV, iaddrV, isnilV, nilckV, pnilV, cloV, extrV, slenV, minV, sidxV, abin, cmpInt, params, growLists, fillCells, newAt, rdPtr, wrPtr, AV.cells, asVal, lenOf, boundOf, rowsOf, argIds, freshIn, scalar1, setAll, AV.isData, AV.isYld, Nat.reduceAdd, Nat.reduceMul, Nat.reduceSub, Nat.reduceEqDiff, Nat.reduceLeDiff, Nat.reduceLT, Int.reduceNeg, ↓reduceIte, reduceCtorEq, Int.reduceEq, Int.reduceLT, Int.reduceLE, Int.reduceBEq, Int.reduceBNe, Int.reduceToNat, IntKind.bits, Int.reduceAdd, Int.reduceSub, Int.reduceMul, Int.reduceTDiv, Int.reduceTMod, DB, DB4, R7B, List.length_append, List.append_assoc, f1, f2, f6, i0, g1, gb, gc, H.len, h51, hsh, LPB, CR_yld' hy, hh, take_at (H.len _)]
        exact ih
    · have e0 : A.take k = A := List.take_of_length_le (by omega)
      simp only [RB, pickV, eqbV, notV, negV, convV, faddrV, fldV, idxV, eqaggV, iaddrV, isnilV, nilckV, pnilV, cloV, extrV, slenV, minV, sidxV, abin, cmpInt, params, growLists, fillCells, newAt, rdPtr, wrPtr, AV.cells, asVal, lenOf, boundOf, rowsOf, argIds, freshIn, scalar1, setAll, AV.isData, AV.isYld, Nat.reduceAdd, Nat.reduceMul, Nat.reduceSub, Nat.reduceEqDiff, Nat.reduceLeDiff, Nat.reduceLT, Int.reduceNeg, ↓reduceIte, reduceCtorEq, Int.reduceEq, Int.reduceLT, Int.reduceLE, Int.reduceBEq, Int.reduceBNe, Int.reduceToNat, IntKind.bits, Int.reduceAdd, Int.reduceSub, Int.reduceMul, Int.reduceTDiv, Int.reduceTMod, R7B, show ¬ (k : Int) < (A.length : Int) by omega, e0]
      exact ⟨[], by rw [List.append_nil]⟩
end Go.Proofs.YtgajekpigkknnaaDoor.F

/- What leads from a RIB to another one, told in turn. No condition. -/
set_option linter.unusedSimpArgs false
set_option maxRecDepth 20000
namespace Go.Proofs.YtgajekpigkknnaaDoor.D
open Go Go.Proofs.YtgajekpigkknnaaDoor.A
def gU (x : Rt) : Up := ⟨x.p, x.src, true, 0, 0⟩
def cU (x : Rt) : Up := ⟨x.p, x.src, false, x.pref, x.hop⟩
end Go.Proofs.YtgajekpigkknnaaDoor.D
namespace Go.Proofs.YtgajekpigkknnaaDoor.F
open Go Go.Proofs.YtgajekpigkknnaaDoor.A Go.Proofs.YtgajekpigkknnaaDoor.D
theorem g_at {α : Type} {l r : List α} {m : Nat} (h : l.length = m) : (l ++ r)[m]? = r[0]? := A.get_at h
theorem g_add {α : Type} {l r : List α} {m i : Nat} (h : l.length = m) : (l ++ r)[m + i]? = r[i]? := A.get_add h
theorem bindEx {α β γ : Type} {x : Option α} {F : α → Option β} {Q : Option β → Prop} {a : γ → α} (h : ∃ e, x = some (a e)) (h2 : ∀ e, Q (F (a e))) : Q (x.bind F) := by
  obtain ⟨e, rfl⟩ := h; exact h2 e
set_option maxHeartbeats 1000000 in
theorem r57 {a b la lb ea eb : Nat} {A B : List Rt} (hA : A.length ≤ 1000000) (hB : B.length ≤ 1000000) (hAo : ∀ x ∈ A, okR x) (hBo : ∀ x ∈ B, okR x) (hs : SortR B)
    {h : Hd} {S : List Up → List Blk} {m N : Nat} (ga : ∀ s r, (S s ++ r)[a]? = some (.box la ea [.ro (trows A)])) (gb : ∀ s r, (S s ++ r)[b]? = some (.box lb eb [.ro (trows B)])) (H : HndG upv h S m N [none]) {s0 : List Up} (hN : (s0 ++ (butS A B fun _ _ => true).map gU).length ≤ N) :
    ∃ ext, LR E [h] 57 [.yld 0, .ptr a 0 0 0, .ptr b 0 0 0] ⟨S s0, [none]⟩ = some (.tup [], ⟨S (s0 ++ (butS A B fun _ _ => true).map gU) ++ ext, [none]⟩) := by
  have ga0 : ∀ s, (S s)[a]? = some (.box la ea [.ro (trows A)]) := fun s => by have := ga s []; rwa [List.append_nil] at this
  have gb0 : ∀ s, (S s)[b]? = some (.box lb eb [.ro (trows B)]) := fun s => by have := gb s []; rwa [List.append_nil] at this
  have h58 := r58 (ys := [h]) (pend := [none]) (S s0) A B 59
  rw [H.len] at h58
  rw [LR_R (fn := f57) rfl rfl rfl]
  simp only [f57, ← rtv_zer, ← upv_zer, RB, pickV, eqbV, notV, negV, convV, faddrV, fldV, idxV, eqaggV, iaddrV, isnilV, nilckV, pnilV, cloV, extrV, slenV, minV, sidxV, abin, cmpInt, params, growLists, fillCells, newAt, rdPtr, wrPtr, AV.cells, asVal, lenOf, boundOf, rowsOf, argIds, freshIn, scalar1, setAll, AV.isData, AV.isYld, Nat.reduceAdd, Nat.reduceMul, Nat.reduceSub, Nat.reduceEqDiff, Nat.reduceLeDiff, Nat.reduceLT, Int.reduceNeg, ↓reduceIte, reduceCtorEq, Int.reduceEq, Int.reduceLT, Int.reduceLE, Int.reduceBEq, Int.reduceBNe, Int.reduceToNat, IntKind.bits, Int.reduceAdd, Int.reduceSub, Int.reduceMul, Int.reduceTDiv, Int.reduceTMod, DB, DB4, R7B, List.append_assoc, List.length_append, Nat.add_assoc, H.len, ga0, gb0, h58]
  rw [R_range (g := 83) (by simp only [RB, pickV, eqbV, notV, negV, convV, faddrV, fldV, idxV, eqaggV, iaddrV, isnilV, nilckV, pnilV, cloV, extrV, slenV, minV, sidxV, abin, cmpInt, params, growLists, fillCells, newAt, rdPtr, wrPtr, AV.cells, asVal, lenOf, boundOf, rowsOf, argIds, freshIn, scalar1, setAll, AV.isData, AV.isYld, Nat.reduceAdd, Nat.reduceMul, Nat.reduceSub, Nat.reduceEqDiff, Nat.reduceLeDiff, Nat.reduceLT, Int.reduceNeg, ↓reduceIte, reduceCtorEq, Int.reduceEq, Int.reduceLT, Int.reduceLE, Int.reduceBEq, Int.reduceBNe, Int.reduceToNat, IntKind.bits, Int.reduceAdd, Int.reduceSub, Int.reduceMul, Int.reduceTDiv, Int.reduceTMod]; rfl) rfl]
  simp only [RB, pickV, eqbV, notV, negV, convV, faddrV, fldV, idxV, eqaggV, iaddrV, isnilV, nilckV, pnilV, cloV, extrV, slenV, minV, sidxV, abin, cmpInt, params, growLists, fillCells, newAt, rdPtr, wrPtr, AV.cells, asVal, lenOf, boundOf, rowsOf, argIds, freshIn, scalar1, setAll, AV.isData, AV.isYld, Nat.reduceAdd, Nat.reduceMul, Nat.reduceSub, Nat.reduceEqDiff, Nat.reduceLeDiff, Nat.reduceLT, Int.reduceNeg, ↓reduceIte, reduceCtorEq, Int.reduceEq, Int.reduceLT, Int.reduceLE, Int.reduceBEq, Int.reduceBNe, Int.reduceToNat, IntKind.bits, Int.reduceAdd, Int.reduceSub, Int.reduceMul, Int.reduceTDiv, Int.reduceTMod, R7B, List.length_append, H.len]
  refine bindEx (Q := fun y => ∃ ext, y = some ((AV.tup [], ⟨S (s0 ++ (butS A B fun _ _ => true).map gU) ++ ext, [none]⟩) : AV × Hp)) (a := fun e => ((AV.tup [], ⟨S (s0 ++ (butS A B fun _ _ => true).map gU) ++ [.box 0 46 [.ro (trows A)], .box 0 46 [.ro (trows B)], .box 0 81 [.clo 59 []]] ++ e, [none, none]⟩) : AV × Hp)) ?_ (fun e => ?_)
  · have h83 : ∀ h2, HndG rtv h2 (fun s => S (s0 ++ s.map gU) ++ [.box 0 46 [.ro (trows A)], .box 0 46 [.ro (trows B)], .box 0 81 [.clo 59 []]]) (m + 3) (butS A B fun _ _ => true).length [none, none] → ∃ e, LR E ([h] ++ [h2]) 83 [.yld 1, .ptr m 0 0 0, .ptr (m + 1) 0 0 0, .ptr (m + 2) 0 0 0] ⟨S s0 ++ [.box 0 46 [.ro (trows A)], .box 0 46 [.ro (trows B)], .box 0 81 [.clo 59 []]], [none] ++ [none]⟩ = some (.tup [], ⟨S (s0 ++ (butS A B fun _ _ => true).map gU) ++ [.box 0 46 [.ro (trows A)], .box 0 46 [.ro (trows B)], .box 0 81 [.clo 59 []]] ++ e, [none, none]⟩) := fun h2 H2 => by
      have := r83 (a := m) (b := m + 1) (c := m + 2) (la := 0) (lb := 0) (lc := 0) (ea := 46) (eb := 46) (ec := 81) (g := 59) (σ := fun _ _ => true) hA hB hAo hBo hs r59 (fun s r => by rw [List.append_assoc, g_at (H.len _)]; rfl) (fun s r => by rw [List.append_assoc, g_add (H.len _)]; rfl) (fun s r => by rw [List.append_assoc, g_add (H.len _)]; rfl) (ys := [h] ++ [h2]) (d := 1) rfl H2 (Nat.le_refl _)
      simp only [List.map_nil, List.append_nil] at this
      exact this
    refine h83 _ ⟨fun s => by rw [List.length_append, H.len]; rfl, fun s => ?_, fun s p ext hs he => ?_⟩
    · rw [ball_app, belowAll_mono (by omega) (H.low _)]; simp [LPB]
    · simp only [List.append_assoc, List.cons_append, List.nil_append]
      rw [handler_run rfl rfl]
      have hh := H.hd (s0 ++ s.map gU) (gU p) ([.box 0 46 [.ro (trows A)], .box 0 46 [.ro (trows B)], .box 0 81 [.clo 59 []]] ++ (ext ++ [.box 0 53 (rtv p)])) (by rw [List.length_append, List.length_map] at hN ⊢; omega) (by
        simp only [List.length_append, List.length_cons, List.length_nil]
        rw [ball_app, ball_app, belowAll_mono (by omega) he]; simp [LPB, rtv_below])
      simp only [List.cons_append, List.nil_append] at hh
      have eU : (⟨p.p, p.src, true, zerU.pref, zerU.hop⟩ : Up) = gU p := rfl
      have hsh : shrink false (m + (ext.length + 3)) .undef ⟨S (s0 ++ s.map gU ++ [gU p]) ++ (.box 0 46 [.ro (trows A)] :: .box 0 46 [.ro (trows B)] :: .box 0 81 [.clo 59 []] :: (ext ++ [.box 0 53 (rtv p)])), [none]⟩ = some ⟨S (s0 ++ s.map gU ++ [gU p]) ++ (.box 0 46 [.ro (trows A)] :: .box 0 46 [.ro (trows B)] :: .box 0 81 [.clo 59 []] :: ext), [none]⟩ := by
        rw [show S (s0 ++ s.map gU ++ [gU p]) ++ (.box 0 46 [.ro (trows A)] :: .box 0 46 [.ro (trows B)] :: .box 0 81 [.clo 59 []] :: (ext ++ [.box 0 53 (rtv p)])) = (S (s0 ++ s.map gU ++ [gU p]) ++ (.box 0 46 [.ro (trows A)] :: .box 0 46 [.ro (trows B)] :: .box 0 81 [.clo 59 []] :: ext)) ++ [.box 0 53 (rtv p)] by simp]
        refine shrink_app (by rw [List.length_append, H.len]; simp) rfl ?_
        rw [ball_app, belowAll_mono (by omega) (H.low _), ball_cons, ball_cons, ball_cons, belowAll_mono (by omega) he]; simp [LPB]
      simp only [RB, pickV, eqbV, notV, negV, convV, faddrV, fldV, idxV, eqaggV, iaddrV, isnilV, nilckV, pnilV, cloV, extrV, slenV, minV, sidxV, abin, cmpInt, params, growLists, fillCells, newAt, rdPtr, wrPtr, AV.cells, asVal, lenOf, boundOf, rowsOf, argIds, freshIn, scalar1, setAll, AV.isData, AV.isYld, Nat.reduceAdd, Nat.reduceMul, Nat.reduceSub, Nat.reduceEqDiff, Nat.reduceLeDiff, Nat.reduceLT, Int.reduceNeg, ↓reduceIte, reduceCtorEq, Int.reduceEq, Int.reduceLT, Int.reduceLE, Int.reduceBEq, Int.reduceBNe, Int.reduceToNat, IntKind.bits, Int.reduceAdd, Int.reduceSub, Int.reduceMul, Int.reduceTDiv, Int.reduceTMod, DB, DB4, R7B, List.append_assoc, List.length_append, Nat.add_assoc, H.len, CR_yld' (show [h][0]? = some h from rfl), eU, hh, List.length_cons, List.length_nil, Nat.zero_add]
      simp only [← List.append_assoc, hsh, List.map_append, List.map_cons, List.map_nil]
      rfl
  · have hsh : shrink false (m + 3) .undef ⟨S (s0 ++ (butS A B fun _ _ => true).map gU) ++ [.box 0 46 [.ro (trows A)], .box 0 46 [.ro (trows B)], .box 0 81 [.clo 59 []]] ++ e, [none]⟩ = some ⟨S (s0 ++ (butS A B fun _ _ => true).map gU) ++ [.box 0 46 [.ro (trows A)], .box 0 46 [.ro (trows B)], .box 0 81 [.clo 59 []]], [none]⟩ := by
      refine shrink_app (by rw [List.length_append, H.len]; rfl) rfl ?_
      rw [ball_app, belowAll_mono (by omega) (H.low _)]; simp [LPB]
    simp only [List.getElem?_cons_zero, List.getElem?_cons_succ, List.take_succ_cons, List.take_zero, List.length_cons, List.length_nil, Nat.zero_add, RG, hsh]
    simp only [RB, pickV, eqbV, notV, negV, convV, faddrV, fldV, idxV, eqaggV, iaddrV, isnilV, nilckV, pnilV, cloV, extrV, slenV, minV, sidxV, abin, cmpInt, params, growLists, fillCells, newAt, rdPtr, wrPtr, AV.cells, asVal, lenOf, boundOf, rowsOf, argIds, freshIn, scalar1, setAll, AV.isData, AV.isYld, Nat.reduceAdd, Nat.reduceMul, Nat.reduceSub, Nat.reduceEqDiff, Nat.reduceLeDiff, Nat.reduceLT, Int.reduceNeg, ↓reduceIte, reduceCtorEq, Int.reduceEq, Int.reduceLT, Int.reduceLE, Int.reduceBEq, Int.reduceBNe, Int.reduceToNat, IntKind.bits, Int.reduceAdd, Int.reduceSub, Int.reduceMul, Int.reduceTDiv, Int.reduceTMod, DB, DB4, R7B]
    exact ⟨_, rfl⟩
set_option maxHeartbeats 1000000 in
theorem r60 {a b la lb ea eb : Nat} {A B : List Rt} (hA : A.length ≤ 1000000) (hB : B.length ≤ 1000000) (hAo : ∀ x ∈ A, okR x) (hBo : ∀ x ∈ B, okR x) (hs : SortR B)
    {h : Hd} {S : List Up → List Blk} {m N : Nat} (ga : ∀ s r, (S s ++ r)[a]? = some (.box la ea [.ro (trows A)])) (gb : ∀ s r, (S s ++ r)[b]? = some (.box lb eb [.ro (trows B)])) (H : HndG upv h S m N [none]) {s0 : List Up} (hN : (s0 ++ (butS A B fun x y => decide (x = y)).map cU).length ≤ N) :
    ∃ ext, LR E [h] 60 [.yld 0, .ptr a 0 0 0, .ptr b 0 0 0] ⟨S s0, [none]⟩ = some (.tup [], ⟨S (s0 ++ (butS A B fun x y => decide (x = y)).map cU) ++ ext, [none]⟩) := by
  have ga0 : ∀ s, (S s)[a]? = some (.box la ea [.ro (trows A)]) := fun s => by have := ga s []; rwa [List.append_nil] at this
  have gb0 : ∀ s, (S s)[b]? = some (.box lb eb [.ro (trows B)]) := fun s => by have := gb s []; rwa [List.append_nil] at this
  have h58 := r58 (ys := [h]) (pend := [none]) (S s0) A B 61
  rw [H.len] at h58
  rw [LR_R (fn := f60) rfl rfl rfl]
  simp only [f60, ← rtv_zer, ← upv_zer, RB, pickV, eqbV, notV, negV, convV, faddrV, fldV, idxV, eqaggV, iaddrV, isnilV, nilckV, pnilV, cloV, extrV, slenV, minV, sidxV, abin, cmpInt, params, growLists, fillCells, newAt, rdPtr, wrPtr, AV.cells, asVal, lenOf, boundOf, rowsOf, argIds, freshIn, scalar1, setAll, AV.isData, AV.isYld, Nat.reduceAdd, Nat.reduceMul, Nat.reduceSub, Nat.reduceEqDiff, Nat.reduceLeDiff, Nat.reduceLT, Int.reduceNeg, ↓reduceIte, reduceCtorEq, Int.reduceEq, Int.reduceLT, Int.reduceLE, Int.reduceBEq, Int.reduceBNe, Int.reduceToNat, IntKind.bits, Int.reduceAdd, Int.reduceSub, Int.reduceMul, Int.reduceTDiv, Int.reduceTMod, DB, DB4, R7B, List.append_assoc, List.length_append, Nat.add_assoc, H.len, ga0, gb0, h58]
  rw [R_range (g := 83) (by simp only [RB, pickV, eqbV, notV, negV, convV, faddrV, fldV, idxV, eqaggV, iaddrV, isnilV, nilckV, pnilV, cloV, extrV, slenV, minV, sidxV, abin, cmpInt, params, growLists, fillCells, newAt, rdPtr, wrPtr, AV.cells, asVal, lenOf, boundOf, rowsOf, argIds, freshIn, scalar1, setAll, AV.isData, AV.isYld, Nat.reduceAdd, Nat.reduceMul, Nat.reduceSub, Nat.reduceEqDiff, Nat.reduceLeDiff, Nat.reduceLT, Int.reduceNeg, ↓reduceIte, reduceCtorEq, Int.reduceEq, Int.reduceLT, Int.reduceLE, Int.reduceBEq, Int.reduceBNe, Int.reduceToNat, IntKind.bits, Int.reduceAdd, Int.reduceSub, Int.reduceMul, Int.reduceTDiv, Int.reduceTMod]; rfl) rfl]
  simp only [RB, pickV, eqbV, notV, negV, convV, faddrV, fldV, idxV, eqaggV, iaddrV, isnilV, nilckV, pnilV, cloV, extrV, slenV, minV, sidxV, abin, cmpInt, params, growLists, fillCells, newAt, rdPtr, wrPtr, AV.cells, asVal, lenOf, boundOf, rowsOf, argIds, freshIn, scalar1, setAll, AV.isData, AV.isYld, Nat.reduceAdd, Nat.reduceMul, Nat.reduceSub, Nat.reduceEqDiff, Nat.reduceLeDiff, Nat.reduceLT, Int.reduceNeg, ↓reduceIte, reduceCtorEq, Int.reduceEq, Int.reduceLT, Int.reduceLE, Int.reduceBEq, Int.reduceBNe, Int.reduceToNat, IntKind.bits, Int.reduceAdd, Int.reduceSub, Int.reduceMul, Int.reduceTDiv, Int.reduceTMod, R7B, List.length_append, H.len]
  refine bindEx (Q := fun y => ∃ ext, y = some ((AV.tup [], ⟨S (s0 ++ (butS A B fun x y => decide (x = y)).map cU) ++ ext, [none]⟩) : AV × Hp)) (a := fun e => ((AV.tup [], ⟨S (s0 ++ (butS A B fun x y => decide (x = y)).map cU) ++ [.box 0 46 [.ro (trows A)], .box 0 46 [.ro (trows B)], .box 0 81 [.clo 61 []]] ++ e, [none, none]⟩) : AV × Hp)) ?_ (fun e => ?_)
  · have h83 : ∀ h2, HndG rtv h2 (fun s => S (s0 ++ s.map cU) ++ [.box 0 46 [.ro (trows A)], .box 0 46 [.ro (trows B)], .box 0 81 [.clo 61 []]]) (m + 3) (butS A B fun x y => decide (x = y)).length [none, none] → ∃ e, LR E ([h] ++ [h2]) 83 [.yld 1, .ptr m 0 0 0, .ptr (m + 1) 0 0 0, .ptr (m + 2) 0 0 0] ⟨S s0 ++ [.box 0 46 [.ro (trows A)], .box 0 46 [.ro (trows B)], .box 0 81 [.clo 61 []]], [none] ++ [none]⟩ = some (.tup [], ⟨S (s0 ++ (butS A B fun x y => decide (x = y)).map cU) ++ [.box 0 46 [.ro (trows A)], .box 0 46 [.ro (trows B)], .box 0 81 [.clo 61 []]] ++ e, [none, none]⟩) := fun h2 H2 => by
      have := r83 (a := m) (b := m + 1) (c := m + 2) (la := 0) (lb := 0) (lc := 0) (ea := 46) (eb := 46) (ec := 81) (g := 61) (σ := fun x y => decide (x = y)) hA hB hAo hBo hs r61 (fun s r => by rw [List.append_assoc, g_at (H.len _)]; rfl) (fun s r => by rw [List.append_assoc, g_add (H.len _)]; rfl) (fun s r => by rw [List.append_assoc, g_add (H.len _)]; rfl) (ys := [h] ++ [h2]) (d := 1) rfl H2 (Nat.le_refl _)
      simp only [List.map_nil, List.append_nil] at this
      exact this
    refine h83 _ ⟨fun s => by rw [List.length_append, H.len]; rfl, fun s => ?_, fun s p ext hs he => ?_⟩
    · rw [ball_app, belowAll_mono (by omega) (H.low _)]; simp [LPB]
    · simp only [List.append_assoc, List.cons_append, List.nil_append]
      rw [handler_run rfl rfl]
      have hh := H.hd (s0 ++ s.map cU) (cU p) ([.box 0 46 [.ro (trows A)], .box 0 46 [.ro (trows B)], .box 0 81 [.clo 61 []]] ++ (ext ++ [.box 0 53 (rtv p)])) (by rw [List.length_append, List.length_map] at hN ⊢; omega) (by
        simp only [List.length_append, List.length_cons, List.length_nil]
        rw [ball_app, ball_app, belowAll_mono (by omega) he]; simp [LPB, rtv_below])
      simp only [List.cons_append, List.nil_append] at hh
      have eU : (⟨p.p, p.src, zerU.gone, p.pref, p.hop⟩ : Up) = cU p := rfl
      have hsh : shrink false (m + (ext.length + 3)) .undef ⟨S (s0 ++ s.map cU ++ [cU p]) ++ (.box 0 46 [.ro (trows A)] :: .box 0 46 [.ro (trows B)] :: .box 0 81 [.clo 61 []] :: (ext ++ [.box 0 53 (rtv p)])), [none]⟩ = some ⟨S (s0 ++ s.map cU ++ [cU p]) ++ (.box 0 46 [.ro (trows A)] :: .box 0 46 [.ro (trows B)] :: .box 0 81 [.clo 61 []] :: ext), [none]⟩ := by
        rw [show S (s0 ++ s.map cU ++ [cU p]) ++ (.box 0 46 [.ro (trows A)] :: .box 0 46 [.ro (trows B)] :: .box 0 81 [.clo 61 []] :: (ext ++ [.box 0 53 (rtv p)])) = (S (s0 ++ s.map cU ++ [cU p]) ++ (.box 0 46 [.ro (trows A)] :: .box 0 46 [.ro (trows B)] :: .box 0 81 [.clo 61 []] :: ext)) ++ [.box 0 53 (rtv p)] by simp]
        refine shrink_app (by rw [List.length_append, H.len]; simp) rfl ?_
        rw [ball_app, belowAll_mono (by omega) (H.low _), ball_cons, ball_cons, ball_cons, belowAll_mono (by omega) he]; simp [LPB]
      simp only [RB, pickV, eqbV, notV, negV, convV, faddrV, fldV, idxV, eqaggV, iaddrV, isnilV, nilckV, pnilV, cloV, extrV, slenV, minV, sidxV, abin, cmpInt, params, growLists, fillCells, newAt, rdPtr, wrPtr, AV.cells, asVal, lenOf, boundOf, rowsOf, argIds, freshIn, scalar1, setAll, AV.isData, AV.isYld, Nat.reduceAdd, Nat.reduceMul, Nat.reduceSub, Nat.reduceEqDiff, Nat.reduceLeDiff, Nat.reduceLT, Int.reduceNeg, ↓reduceIte, reduceCtorEq, Int.reduceEq, Int.reduceLT, Int.reduceLE, Int.reduceBEq, Int.reduceBNe, Int.reduceToNat, IntKind.bits, Int.reduceAdd, Int.reduceSub, Int.reduceMul, Int.reduceTDiv, Int.reduceTMod, DB, DB4, R7B, List.append_assoc, List.length_append, Nat.add_assoc, H.len, CR_yld' (show [h][0]? = some h from rfl), eU, hh, List.length_cons, List.length_nil, Nat.zero_add]
      simp only [← List.append_assoc, hsh, List.map_append, List.map_cons, List.map_nil]
      rfl
  · have hsh : shrink false (m + 3) .undef ⟨S (s0 ++ (butS A B fun x y => decide (x = y)).map cU) ++ [.box 0 46 [.ro (trows A)], .box 0 46 [.ro (trows B)], .box 0 81 [.clo 61 []]] ++ e, [none]⟩ = some ⟨S (s0 ++ (butS A B fun x y => decide (x = y)).map cU) ++ [.box 0 46 [.ro (trows A)], .box 0 46 [.ro (trows B)], .box 0 81 [.clo 61 []]], [none]⟩ := by
      refine shrink_app (by rw [List.length_append, H.len]; rfl) rfl ?_
      rw [ball_app, belowAll_mono (by omega) (H.low _)]; simp [LPB]
    simp only [List.getElem?_cons_zero, List.getElem?_cons_succ, List.take_succ_cons, List.take_zero, List.length_cons, List.length_nil, Nat.zero_add, RG, hsh]
    simp only [RB, pickV, eqbV, notV, negV, convV, faddrV, fldV, idxV, eqaggV, iaddrV, isnilV, nilckV, pnilV, cloV, extrV, slenV, minV, sidxV, abin, cmpInt, params, growLists, fillCells, newAt, rdPtr, wrPtr, AV.cells, asVal, lenOf, boundOf, rowsOf, argIds, freshIn, scalar1, setAll, AV.isData, AV.isYld, Nat.reduceAdd, Nat.reduceMul, Nat.reduceSub, Nat.reduceEqDiff, Nat.reduceLeDiff, Nat.reduceLT, Int.reduceNeg, ↓reduceIte, reduceCtorEq, Int.reduceEq, Int.reduceLT, Int.reduceLE, Int.reduceBEq, Int.reduceBNe, Int.reduceToNat, IntKind.bits, Int.reduceAdd, Int.reduceSub, Int.reduceMul, Int.reduceTDiv, Int.reduceTMod, DB, DB4, R7B]
    exact ⟨_, rfl⟩
end Go.Proofs.YtgajekpigkknnaaDoor.F

/- What leads from a RIB to another one: the run. No condition. -/
set_option linter.unusedSimpArgs false
set_option maxRecDepth 20000
namespace Go.Proofs.YtgajekpigkknnaaDoor.D
open Go Go.Proofs.YtgajekpigkknnaaDoor.A
def filU (s : Int) (u : Up) : Bool := decide (s = 0 ∨ u.src = s)
def goneL (a b : List Rt) : List Up := (butS a b fun _ _ => true).map gU
def comeL (a b : List Rt) : List Up := (butS b a fun x y => decide (x = y)).map cU
def leadS (a b : List Rt) (s : Int) : List Up := (goneL a b ++ comeL a b).filter (filU s)
theorem lead_len (a b : List Rt) (s : Int) : (leadS a b s).length ≤ a.length + b.length := by
  unfold leadS
  refine Nat.le_trans (List.length_filter_le _ _) ?_
  rw [List.length_append]
  unfold goneL comeL
  rw [List.length_map, List.length_map]
  have h1 := but_len a b (fun _ _ => true)
  have h2 := but_len b a (fun x y => decide (x = y))
  omega
end Go.Proofs.YtgajekpigkknnaaDoor.D
namespace Go.Proofs.YtgajekpigkknnaaDoor.F
open Go Go.Proofs.YtgajekpigkknnaaDoor.A Go.Proofs.YtgajekpigkknnaaDoor.D
/-- The store while updates are told. -/
def rowH (a b : List Rt) (s : Int) (u : List Up) : List Blk := [.box 0 46 [.ro (trows a)], .box 0 46 [.ro (trows b)], .lst 0 0 42 22 [], .box 0 3 [.int .i64 s], .lst 0 0 42 22 [], .box 0 24 [.lis 6 (u.filter (filU s)).length 0 (u.filter (filU s)).length], .lst 0 (u.filter (filU s)).length 42 22 (vrows (u.filter (filU s)))]
theorem row_shrink {a b : List Rt} {s : Int} {n : Nat} {R : List (List AV)} {ext X : List Blk} (he : belowAll (7 + ext.length) ext = true) : shrink false (ext.length + 1 + 1 + 1 + 1 + 1 + 1 + 1) .undef ⟨.box 0 46 [.ro (trows a)] :: .box 0 46 [.ro (trows b)] :: .lst 0 0 42 22 [] :: .box 0 3 [.int .i64 s] :: .lst 0 0 42 22 [] :: .box 0 24 [.lis 6 n 0 n] :: .lst 0 n 42 22 R :: (ext ++ X), []⟩ = some ⟨.box 0 46 [.ro (trows a)] :: .box 0 46 [.ro (trows b)] :: .lst 0 0 42 22 [] :: .box 0 3 [.int .i64 s] :: .lst 0 0 42 22 [] :: .box 0 24 [.lis 6 n 0 n] :: .lst 0 n 42 22 R :: ext, []⟩ := by
  have h6 : 6 < ext.length + 1 + 1 + 1 + 1 + 1 + 1 + 1 := by omega
  have := shrink_app (pend := []) (a := .undef) (l := .box 0 46 [.ro (trows a)] :: .box 0 46 [.ro (trows b)] :: .lst 0 0 42 22 [] :: .box 0 3 [.int .i64 s] :: .lst 0 0 42 22 [] :: .box 0 24 [.lis 6 n 0 n] :: .lst 0 n 42 22 R :: ext) (r := X) (m := ext.length + 1 + 1 + 1 + 1 + 1 + 1 + 1) (by simp) rfl (by
    simp only [ball_cons]
    rw [belowAll_mono (by omega) he]; simp [LPB, h6])
  simpa only [List.cons_append] using this
set_option maxHeartbeats 1000000 in
theorem r62 (a b : List Rt) (s : Int) (hA : a.length ≤ 1000000) (hB : b.length ≤ 1000000) (hAo : ∀ x ∈ a, okR x) (hBo : ∀ x ∈ b, okR x) (hsa : SortR a) (hsb : SortR b) :
    LR E [] 62 [.int .i64 s, .refs [[.clo 57 [.ptr 0 0 0 0, .ptr 1 0 0 0]], [.clo 60 [.ptr 1 0 0 0, .ptr 0 0 0 0]]]] ⟨[.box 0 46 [.ro (trows a)], .box 0 46 [.ro (trows b)], .lst 0 0 42 22 []], []⟩ = some (.lis 6 (leadS a b s).length 0 (leadS a b s).length, ⟨rowH a b s (goneL a b ++ comeL a b), []⟩) := by
  have h57 : ∀ h, HndG upv h (rowH a b s) 7 2000000 [none] → ∃ e, LR E ([] ++ [h]) 57 [.yld 0, .ptr 0 0 0 0, .ptr 1 0 0 0] ⟨rowH a b s [], [] ++ [none]⟩ = some (.tup [], ⟨rowH a b s (goneL a b) ++ e, [none]⟩) := fun h H => by
    have := r57 (a := 0) (b := 1) (la := 0) (lb := 0) (ea := 46) (eb := 46) hA hB hAo hBo hsb (fun u r => rfl) (fun u r => rfl) H (s0 := []) (by
      have := but_len a b (fun _ _ => true)
      simp only [List.nil_append, List.length_map]; omega)
    exact this
  have h60 : ∀ h, HndG upv h (rowH a b s) 7 2000000 [none] → ∃ e, LR E ([] ++ [h]) 60 [.yld 0, .ptr 1 0 0 0, .ptr 0 0 0 0] ⟨rowH a b s (goneL a b), [] ++ [none]⟩ = some (.tup [], ⟨rowH a b s (goneL a b ++ comeL a b) ++ e, [none]⟩) := fun h H => by
    have := r60 (a := 1) (b := 0) (la := 0) (lb := 0) (ea := 46) (eb := 46) hB hA hBo hAo hsa (fun u r => rfl) (fun u r => rfl) H (s0 := goneL a b) (by
      have h1 := but_len a b (fun _ _ => true)
      have h2 := but_len b a (fun x y => decide (x = y))
      unfold goneL
      simp only [List.length_append, List.length_map]; omega)
    exact this
  rw [LR_R (fn := f62) rfl rfl rfl]
  simp only [f62, ← upv_zer, RB, pickV, eqbV, notV, negV, convV, faddrV, fldV, idxV, eqaggV, iaddrV, isnilV, nilckV, pnilV, cloV, extrV, slenV, minV, sidxV, abin, cmpInt, params, growLists, fillCells, newAt, rdPtr, wrPtr, AV.cells, asVal, lenOf, boundOf, rowsOf, argIds, freshIn, scalar1, setAll, AV.isData, AV.isYld, Nat.reduceAdd, Nat.reduceMul, Nat.reduceSub, Nat.reduceEqDiff, Nat.reduceLeDiff, Nat.reduceLT, Int.reduceNeg, ↓reduceIte, reduceCtorEq, Int.reduceEq, Int.reduceLT, Int.reduceLE, Int.reduceBEq, Int.reduceBNe, Int.reduceToNat, IntKind.bits, Int.reduceAdd, Int.reduceSub, Int.reduceMul, Int.reduceTDiv, Int.reduceTMod, DB, DB4, R7B, take_add, List.append_assoc, List.length_append, Nat.add_assoc, shrink_lit, ball_app, RG, LPB]
  refine (W_rec2 (ι := {k : Nat // k ≤ 2}) (M := fun k => [(2, .ptr 3 0 0 0), (4, .lis 4 0 0 0), (5, .ptr 5 0 0 0), (9, .refs [[.clo 57 [.ptr 0 0 0 0, .ptr 1 0 0 0]], [.clo 60 [.ptr 1 0 0 0, .ptr 0 0 0 0]]]), (10, .int .i64 2), (11, .int .i64 (k.1 : Int))])
    (H := fun k => ⟨rowH a b s (if k.1 = 0 then [] else if k.1 = 1 then goneL a b else goneL a b ++ comeL a b), []⟩) (r := fun _ => some ((.lis 6 (leadS a b s).length 0 (leadS a b s).length, ⟨rowH a b s (goneL a b ++ comeL a b), []⟩) : AV × Hp)) (μ := fun k => 2 - k.1) (fun k => ?_) (fun k ih => ?_) ⟨0, Nat.zero_le _⟩ rfl rfl)
  · simp [LPB, rowH]
  · obtain ⟨k, hk⟩ := k
    simp only at ih ⊢
    match k, hk with
    | 0, _ =>
      have ih := ih ⟨1, by omega⟩ (by simp only; omega)
      simp only [if_true, Nat.one_ne_zero, if_false] at ih
      simp only [RB, pickV, eqbV, notV, negV, convV, faddrV, fldV, idxV, eqaggV, iaddrV, isnilV, nilckV, pnilV, cloV, extrV, slenV, minV, sidxV, abin, cmpInt, params, growLists, fillCells, newAt, rdPtr, wrPtr, AV.cells, asVal, lenOf, boundOf, rowsOf, argIds, freshIn, scalar1, setAll, AV.isData, AV.isYld, Nat.reduceAdd, Nat.reduceMul, Nat.reduceSub, Nat.reduceEqDiff, Nat.reduceLeDiff, Nat.reduceLT, Int.reduceNeg, ↓reduceIte, reduceCtorEq, Int.reduceEq, Int.reduceLT, Int.reduceLE, Int.reduceBEq, Int.reduceBNe, Int.reduceToNat, IntKind.bits, Int.reduceAdd, Int.reduceSub, Int.reduceMul, Int.reduceTDiv, Int.reduceTMod, DB, DB4, R7B, take_add, List.append_assoc, List.length_append, Nat.add_assoc, shrink_lit, ball_app, RG, LPB, rowH]
      rw [R_range (g := 57) (by simp only [RB, pickV, eqbV, notV, negV, convV, faddrV, fldV, idxV, eqaggV, iaddrV, isnilV, nilckV, pnilV, cloV, extrV, slenV, minV, sidxV, abin, cmpInt, params, growLists, fillCells, newAt, rdPtr, wrPtr, AV.cells, asVal, lenOf, boundOf, rowsOf, argIds, freshIn, scalar1, setAll, AV.isData, AV.isYld, Nat.reduceAdd, Nat.reduceMul, Nat.reduceSub, Nat.reduceEqDiff, Nat.reduceLeDiff, Nat.reduceLT, Int.reduceNeg, ↓reduceIte, reduceCtorEq, Int.reduceEq, Int.reduceLT, Int.reduceLE, Int.reduceBEq, Int.reduceBNe, Int.reduceToNat, IntKind.bits, Int.reduceAdd, Int.reduceSub, Int.reduceMul, Int.reduceTDiv, Int.reduceTMod]; rfl) rfl]
      refine bindEx (Q := fun y => y = _) (a := fun e => ((AV.tup [], ⟨rowH a b s (goneL a b) ++ e, [none]⟩) : AV × Hp)) (h57 _ ⟨fun u => rfl, fun u => ?_, fun u p ext hs he => ?_⟩) (fun e => ?_)
      · simp [LPB, rowH]
      · rw [rowH, handler_run rfl rfl]
        have hf : (u.filter (filU s)).length ≤ u.length := List.length_filter_le _ _
        have f7 : ((u.filter (filU s)).length + 1) * 64 ≤ 140737488355328 := by omega
        have f8 : (u.filter (filU s)).length + 1 ≤ 4611686018427387904 := by omega
        have tF : (vrows (u.filter (filU s))).take (u.filter (filU s)).length = vrows (u.filter (filU s)) := vrows_all _
        by_cases hp : s = 0 ∨ p.src = s
        · have e1 : (u ++ [p]).filter (filU s) = u.filter (filU s) ++ [p] := by
            rw [List.filter_append, List.filter_cons_of_pos (by unfold filU; exact decide_eq_true hp)]; rfl
          simp only [rowH, e1, List.length_append, List.length_cons, List.length_nil, Nat.zero_add]
          generalize u.filter (filU s) = F at *
          by_cases h0 : s = 0
          · subst h0
            simp only [RB, pickV, eqbV, notV, negV, convV, faddrV, fldV, idxV, eqaggV, iaddrV, isnilV, nilckV, pnilV, cloV, extrV, slenV, minV, sidxV, abin, cmpInt, params, growLists, fillCells, newAt, rdPtr, wrPtr, AV.cells, asVal, lenOf, boundOf, rowsOf, argIds, freshIn, scalar1, setAll, AV.isData, AV.isYld, Nat.reduceAdd, Nat.reduceMul, Nat.reduceSub, Nat.reduceEqDiff, Nat.reduceLeDiff, Nat.reduceLT, Int.reduceNeg, ↓reduceIte, reduceCtorEq, Int.reduceEq, Int.reduceLT, Int.reduceLE, Int.reduceBEq, Int.reduceBNe, Int.reduceToNat, IntKind.bits, Int.reduceAdd, Int.reduceSub, Int.reduceMul, Int.reduceTDiv, Int.reduceTMod, DB, DB4, R7B, O_buildSlq, quietOk, aop_buildSl, fillRows, asData, aappend, List.append_assoc, List.cons_append, List.nil_append, beq_self_eq_true, f7, f8, tF, vrows_len, Nat.le_refl, row_shrink he]
          · have z : (s == 0) = false := by rw [beq_eq_false_iff_ne]; exact h0
            have z2 : (p.src == s) = true := by rw [beq_iff_eq]; exact hp.resolve_left h0
            simp only [RB, pickV, eqbV, notV, negV, convV, faddrV, fldV, idxV, eqaggV, iaddrV, isnilV, nilckV, pnilV, cloV, extrV, slenV, minV, sidxV, abin, cmpInt, params, growLists, fillCells, newAt, rdPtr, wrPtr, AV.cells, asVal, lenOf, boundOf, rowsOf, argIds, freshIn, scalar1, setAll, AV.isData, AV.isYld, Nat.reduceAdd, Nat.reduceMul, Nat.reduceSub, Nat.reduceEqDiff, Nat.reduceLeDiff, Nat.reduceLT, Int.reduceNeg, ↓reduceIte, reduceCtorEq, Int.reduceEq, Int.reduceLT, Int.reduceLE, Int.reduceBEq, Int.reduceBNe, Int.reduceToNat, IntKind.bits, Int.reduceAdd, Int.reduceSub, Int.reduceMul, Int.reduceTDiv, Int.reduceTMod, DB, DB4, R7B, O_buildSlq, quietOk, aop_buildSl, fillRows, asData, aappend, List.append_assoc, List.cons_append, List.nil_append, z, z2, f7, f8, tF, vrows_len, Nat.le_refl, row_shrink he]
        · have e1 : (u ++ [p]).filter (filU s) = u.filter (filU s) := by
            rw [List.filter_append, List.filter_cons_of_neg (by unfold filU; simpa using hp)]; simp
          simp only [rowH, e1]
          generalize u.filter (filU s) = F at *
          have z : (s == 0) = false := by rw [beq_eq_false_iff_ne]; exact fun h => hp (.inl h)
          have z2 : (p.src == s) = false := by rw [beq_eq_false_iff_ne]; exact fun h => hp (.inr h)
          simp only [RB, pickV, eqbV, notV, negV, convV, faddrV, fldV, idxV, eqaggV, iaddrV, isnilV, nilckV, pnilV, cloV, extrV, slenV, minV, sidxV, abin, cmpInt, params, growLists, fillCells, newAt, rdPtr, wrPtr, AV.cells, asVal, lenOf, boundOf, rowsOf, argIds, freshIn, scalar1, setAll, AV.isData, AV.isYld, Nat.reduceAdd, Nat.reduceMul, Nat.reduceSub, Nat.reduceEqDiff, Nat.reduceLeDiff, Nat.reduceLT, Int.reduceNeg, ↓reduceIte, reduceCtorEq, Int.reduceEq, Int.reduceLT, Int.reduceLE, Int.reduceBEq, Int.reduceBNe, Int.reduceToNat, IntKind.bits, Int.reduceAdd, Int.reduceSub, Int.reduceMul, Int.reduceTDiv, Int.reduceTMod, DB, DB4, R7B, O_buildSlq, quietOk, aop_buildSl, fillRows, asData, aappend, List.append_assoc, List.cons_append, List.nil_append, z, z2, row_shrink he]
      · have h6 : ∀ k : Nat, shrink false 7 .undef ⟨rowH a b s (goneL a b) ++ e, []⟩ = some ⟨rowH a b s (goneL a b), []⟩ := fun _ => shrink_app rfl rfl (by simp [LPB, rowH])
        simp only [List.length_cons, List.length_nil, Nat.zero_add, List.getElem?_cons_zero, List.take_zero, RG, h6 0]
        simp only [RB, pickV, eqbV, notV, negV, convV, faddrV, fldV, idxV, eqaggV, iaddrV, isnilV, nilckV, pnilV, cloV, extrV, slenV, minV, sidxV, abin, cmpInt, params, growLists, fillCells, newAt, rdPtr, wrPtr, AV.cells, asVal, lenOf, boundOf, rowsOf, argIds, freshIn, scalar1, setAll, AV.isData, AV.isYld, Nat.reduceAdd, Nat.reduceMul, Nat.reduceSub, Nat.reduceEqDiff, Nat.reduceLeDiff, Nat.reduceLT, Int.reduceNeg, ↓reduceIte, reduceCtorEq, Int.reduceEq, Int.reduceLT, Int.reduceLE, Int.reduceBEq, Int.reduceBNe, Int.reduceToNat, IntKind.bits, Int.reduceAdd, Int.reduceSub, Int.reduceMul, Int.reduceTDiv, Int.reduceTMod, DB, DB4, R7B]
        exact ih
    | 1, _ =>
      have ih := ih ⟨2, by omega⟩ (by simp only; omega)
      simp only [show ¬ (2 : Nat) = 0 from by decide, show ¬ (2 : Nat) = 1 from by decide, if_false] at ih
      simp only [RB, pickV, eqbV, notV, negV, convV, faddrV, fldV, idxV, eqaggV, iaddrV, isnilV, nilckV, pnilV, cloV, extrV, slenV, minV, sidxV, abin, cmpInt, params, growLists, fillCells, newAt, rdPtr, wrPtr, AV.cells, asVal, lenOf, boundOf, rowsOf, argIds, freshIn, scalar1, setAll, AV.isData, AV.isYld, Nat.reduceAdd, Nat.reduceMul, Nat.reduceSub, Nat.reduceEqDiff, Nat.reduceLeDiff, Nat.reduceLT, Int.reduceNeg, ↓reduceIte, reduceCtorEq, Int.reduceEq, Int.reduceLT, Int.reduceLE, Int.reduceBEq, Int.reduceBNe, Int.reduceToNat, IntKind.bits, Int.reduceAdd, Int.reduceSub, Int.reduceMul, Int.reduceTDiv, Int.reduceTMod, DB, DB4, R7B, take_add, List.append_assoc, List.length_append, Nat.add_assoc, shrink_lit, ball_app, RG, LPB, rowH]
      rw [R_range (g := 60) (by simp only [RB, pickV, eqbV, notV, negV, convV, faddrV, fldV, idxV, eqaggV, iaddrV, isnilV, nilckV, pnilV, cloV, extrV, slenV, minV, sidxV, abin, cmpInt, params, growLists, fillCells, newAt, rdPtr, wrPtr, AV.cells, asVal, lenOf, boundOf, rowsOf, argIds, freshIn, scalar1, setAll, AV.isData, AV.isYld, Nat.reduceAdd, Nat.reduceMul, Nat.reduceSub, Nat.reduceEqDiff, Nat.reduceLeDiff, Nat.reduceLT, Int.reduceNeg, ↓reduceIte, reduceCtorEq, Int.reduceEq, Int.reduceLT, Int.reduceLE, Int.reduceBEq, Int.reduceBNe, Int.reduceToNat, IntKind.bits, Int.reduceAdd, Int.reduceSub, Int.reduceMul, Int.reduceTDiv, Int.reduceTMod]; rfl) rfl]
      refine bindEx (Q := fun y => y = _) (a := fun e => ((AV.tup [], ⟨rowH a b s (goneL a b ++ comeL a b) ++ e, [none]⟩) : AV × Hp)) (h60 _ ⟨fun u => rfl, fun u => ?_, fun u p ext hs he => ?_⟩) (fun e => ?_)
      · simp [LPB, rowH]
      · rw [rowH, handler_run rfl rfl]
        have hf : (u.filter (filU s)).length ≤ u.length := List.length_filter_le _ _
        have f7 : ((u.filter (filU s)).length + 1) * 64 ≤ 140737488355328 := by omega
        have f8 : (u.filter (filU s)).length + 1 ≤ 4611686018427387904 := by omega
        have tF : (vrows (u.filter (filU s))).take (u.filter (filU s)).length = vrows (u.filter (filU s)) := vrows_all _
        by_cases hp : s = 0 ∨ p.src = s
        · have e1 : (u ++ [p]).filter (filU s) = u.filter (filU s) ++ [p] := by
            rw [List.filter_append, List.filter_cons_of_pos (by unfold filU; exact decide_eq_true hp)]; rfl
          simp only [rowH, e1, List.length_append, List.length_cons, List.length_nil, Nat.zero_add]
          generalize u.filter (filU s) = F at *
          by_cases h0 : s = 0
          · subst h0
            simp only [RB, pickV, eqbV, notV, negV, convV, faddrV, fldV, idxV, eqaggV, iaddrV, isnilV, nilckV, pnilV, cloV, extrV, slenV, minV, sidxV, abin, cmpInt, params, growLists, fillCells, newAt, rdPtr, wrPtr, AV.cells, asVal, lenOf, boundOf, rowsOf, argIds, freshIn, scalar1, setAll, AV.isData, AV.isYld, Nat.reduceAdd, Nat.reduceMul, Nat.reduceSub, Nat.reduceEqDiff, Nat.reduceLeDiff, Nat.reduceLT, Int.reduceNeg, ↓reduceIte, reduceCtorEq, Int.reduceEq, Int.reduceLT, Int.reduceLE, Int.reduceBEq, Int.reduceBNe, Int.reduceToNat, IntKind.bits, Int.reduceAdd, Int.reduceSub, Int.reduceMul, Int.reduceTDiv, Int.reduceTMod, DB, DB4, R7B, O_buildSlq, quietOk, aop_buildSl, fillRows, asData, aappend, List.append_assoc, List.cons_append, List.nil_append, beq_self_eq_true, f7, f8, tF, vrows_len, Nat.le_refl, row_shrink he]
          · have z : (s == 0) = false := by rw [beq_eq_false_iff_ne]; exact h0
            have z2 : (p.src == s) = true := by rw [beq_iff_eq]; exact hp.resolve_left h0
            simp only [RB, pickV, eqbV, notV, negV, convV, faddrV, fldV, idxV, eqaggV, iaddrV, isnilV, nilckV, pnilV, cloV, extrV, slenV, minV, sidxV, abin, cmpInt, params, growLists, fillCells, newAt, rdPtr, wrPtr, AV.cells, asVal, lenOf, boundOf, rowsOf, argIds, freshIn, scalar1, setAll, AV.isData, AV.isYld, Nat.reduceAdd, Nat.reduceMul, Nat.reduceSub, Nat.reduceEqDiff, Nat.reduceLeDiff, Nat.reduceLT, Int.reduceNeg, ↓reduceIte, reduceCtorEq, Int.reduceEq, Int.reduceLT, Int.reduceLE, Int.reduceBEq, Int.reduceBNe, Int.reduceToNat, IntKind.bits, Int.reduceAdd, Int.reduceSub, Int.reduceMul, Int.reduceTDiv, Int.reduceTMod, DB, DB4, R7B, O_buildSlq, quietOk, aop_buildSl, fillRows, asData, aappend, List.append_assoc, List.cons_append, List.nil_append, z, z2, f7, f8, tF, vrows_len, Nat.le_refl, row_shrink he]
        · have e1 : (u ++ [p]).filter (filU s) = u.filter (filU s) := by
            rw [List.filter_append, List.filter_cons_of_neg (by unfold filU; simpa using hp)]; simp
          simp only [rowH, e1]
          generalize u.filter (filU s) = F at *
          have z : (s == 0) = false := by rw [beq_eq_false_iff_ne]; exact fun h => hp (.inl h)
          have z2 : (p.src == s) = false := by rw [beq_eq_false_iff_ne]; exact fun h => hp (.inr h)
          simp only [RB, pickV, eqbV, notV, negV, convV, faddrV, fldV, idxV, eqaggV, iaddrV, isnilV, nilckV, pnilV, cloV, extrV, slenV, minV, sidxV, abin, cmpInt, params, growLists, fillCells, newAt, rdPtr, wrPtr, AV.cells, asVal, lenOf, boundOf, rowsOf, argIds, freshIn, scalar1, setAll, AV.isData, AV.isYld, Nat.reduceAdd, Nat.reduceMul, Nat.reduceSub, Nat.reduceEqDiff, Nat.reduceLeDiff, Nat.reduceLT, Int.reduceNeg, ↓reduceIte, reduceCtorEq, Int.reduceEq, Int.reduceLT, Int.reduceLE, Int.reduceBEq, Int.reduceBNe, Int.reduceToNat, IntKind.bits, Int.reduceAdd, Int.reduceSub, Int.reduceMul, Int.reduceTDiv, Int.reduceTMod, DB, DB4, R7B, O_buildSlq, quietOk, aop_buildSl, fillRows, asData, aappend, List.append_assoc, List.cons_append, List.nil_append, z, z2, row_shrink he]
      · have h6 : ∀ k : Nat, shrink false 7 .undef ⟨rowH a b s (goneL a b ++ comeL a b) ++ e, []⟩ = some ⟨rowH a b s (goneL a b ++ comeL a b), []⟩ := fun _ => shrink_app rfl rfl (by simp [LPB, rowH])
        simp only [List.length_cons, List.length_nil, Nat.zero_add, List.getElem?_cons_zero, List.take_zero, RG, h6 0]
        simp only [RB, pickV, eqbV, notV, negV, convV, faddrV, fldV, idxV, eqaggV, iaddrV, isnilV, nilckV, pnilV, cloV, extrV, slenV, minV, sidxV, abin, cmpInt, params, growLists, fillCells, newAt, rdPtr, wrPtr, AV.cells, asVal, lenOf, boundOf, rowsOf, argIds, freshIn, scalar1, setAll, AV.isData, AV.isYld, Nat.reduceAdd, Nat.reduceMul, Nat.reduceSub, Nat.reduceEqDiff, Nat.reduceLeDiff, Nat.reduceLT, Int.reduceNeg, ↓reduceIte, reduceCtorEq, Int.reduceEq, Int.reduceLT, Int.reduceLE, Int.reduceBEq, Int.reduceBNe, Int.reduceToNat, IntKind.bits, Int.reduceAdd, Int.reduceSub, Int.reduceMul, Int.reduceTDiv, Int.reduceTMod, DB, DB4, R7B]
        exact ih
    | 2, _ =>
      simp only [RB, pickV, eqbV, notV, negV, convV, faddrV, fldV, idxV, eqaggV, iaddrV, isnilV, nilckV, pnilV, cloV, extrV, slenV, minV, sidxV, abin, cmpInt, params, growLists, fillCells, newAt, rdPtr, wrPtr, AV.cells, asVal, lenOf, boundOf, rowsOf, argIds, freshIn, scalar1, setAll, AV.isData, AV.isYld, Nat.reduceAdd, Nat.reduceMul, Nat.reduceSub, Nat.reduceEqDiff, Nat.reduceLeDiff, Nat.reduceLT, Int.reduceNeg, ↓reduceIte, reduceCtorEq, Int.reduceEq, Int.reduceLT, Int.reduceLE, Int.reduceBEq, Int.reduceBNe, Int.reduceToNat, IntKind.bits, Int.reduceAdd, Int.reduceSub, Int.reduceMul, Int.reduceTDiv, Int.reduceTMod, DB, DB4, R7B, take_add, List.append_assoc, List.length_append, Nat.add_assoc, shrink_lit, ball_app, RG, LPB, rowH]
      rfl
theorem e42 (a b : List Rt) (s : Int) (hA : a.length ≤ 1000000) (hB : b.length ≤ 1000000) (hAo : ∀ x ∈ a, okR x) (hBo : ∀ x ∈ b, okR x) (hsa : SortR a) (hsb : SortR b) :
    LV E 42 [.agg [.ro (trows a)], .agg [.ro (trows b)], .int .i64 s] = some (.fresh 42 22 (vrows (leadS a b s))) := by
  rw [LV_R (fn := f42) rfl rfl rfl]
  have h62 := r62 a b s hA hB hAo hBo hsa hsb
  have hl : (vrows ((goneL a b ++ comeL a b).filter (filU s))).take (leadS a b s).length = vrows (leadS a b s) := vrows_all _
  have hl2 : ((goneL a b ++ comeL a b).filter (filU s)).length = (leadS a b s).length := rfl
  simp only [f42, ← upv_zer, RB, pickV, eqbV, notV, negV, convV, faddrV, fldV, idxV, eqaggV, iaddrV, isnilV, nilckV, pnilV, cloV, extrV, slenV, minV, sidxV, abin, cmpInt, params, growLists, fillCells, newAt, rdPtr, wrPtr, AV.cells, asVal, lenOf, boundOf, rowsOf, argIds, freshIn, scalar1, setAll, AV.isData, AV.isYld, Nat.reduceAdd, Nat.reduceMul, Nat.reduceSub, Nat.reduceEqDiff, Nat.reduceLeDiff, Nat.reduceLT, Int.reduceNeg, ↓reduceIte, reduceCtorEq, Int.reduceEq, Int.reduceLT, Int.reduceLE, Int.reduceBEq, Int.reduceBNe, Int.reduceToNat, IntKind.bits, Int.reduceAdd, Int.reduceSub, Int.reduceMul, Int.reduceTDiv, Int.reduceTMod, DB, DB4, R7B, take_add, List.append_assoc, List.length_append, Nat.add_assoc, shrink_lit, ball_app, RG, LPB, fillRf, h62, rowH, hl2, expCell, List.nodup_cons, List.nodup_nil, List.not_mem_nil, not_false_eq_true, not_true_eq_false, and_true, and_false, if_false, List.mem_cons, mutIds, hl, vrows_len, Nat.le_refl]
  done
def allR (a b : List Rt) : List Up × Int := if rightS a b 0 0 = 0 then (leadS a b 0, 0) else ([], rightS a b 0 0)
theorem e20 (a b : List Rt) (hA : a.length ≤ 1000000) (hB : b.length ≤ 1000000) : LV E 20 [.agg [.ro (trows a)], .agg [.ro (trows b)]] = some (.tup [.fresh 42 22 (vrows (allR a b).1), .int .i64 (allR a b).2]) := by
  rw [LV_R (fn := f20) rfl rfl rfl]
  have h41 := e41 a b 0 0 (by omega) (by omega)
  unfold allR
  by_cases h0 : rightS a b 0 0 = 0
  · obtain ⟨hRa, hRb, _⟩ := rightS_zero h0
    have h42 := e42 a b 0 hA hB (fun x hx => fits_ok (hRa.fits x hx)) (fun x hx => fits_ok (hRb.fits x hx)) hRa.sort hRb.sort
    rw [if_pos h0]
    rw [h0] at h41
    simp only [f20, ← upv_zer, RB, pickV, eqbV, notV, negV, convV, faddrV, fldV, idxV, eqaggV, iaddrV, isnilV, nilckV, pnilV, cloV, extrV, slenV, minV, sidxV, abin, cmpInt, params, growLists, fillCells, newAt, rdPtr, wrPtr, AV.cells, asVal, lenOf, boundOf, rowsOf, argIds, freshIn, scalar1, setAll, AV.isData, AV.isYld, Nat.reduceAdd, Nat.reduceMul, Nat.reduceSub, Nat.reduceEqDiff, Nat.reduceLeDiff, Nat.reduceLT, Int.reduceNeg, ↓reduceIte, reduceCtorEq, Int.reduceEq, Int.reduceLT, Int.reduceLE, Int.reduceBEq, Int.reduceBNe, Int.reduceToNat, IntKind.bits, Int.reduceAdd, Int.reduceSub, Int.reduceMul, Int.reduceTDiv, Int.reduceTMod, DB, DB4, R7B, take_add, List.append_assoc, List.length_append, Nat.add_assoc, shrink_lit, ball_app, RG, LPB, h41, h42, bne_self_eq_false, expCell, List.nodup_cons, List.nodup_nil, List.not_mem_nil, not_false_eq_true, not_true_eq_false, and_true, and_false, if_false, List.mem_cons, mutIds, vrows_len, Nat.le_refl, List.take_length]
    done
  · rw [if_neg h0]
    have z : (rightS a b 0 0 != 0) = true := by rw [bne_iff_ne]; exact h0
    simp only [f20, ← upv_zer, RB, pickV, eqbV, notV, negV, convV, faddrV, fldV, idxV, eqaggV, iaddrV, isnilV, nilckV, pnilV, cloV, extrV, slenV, minV, sidxV, abin, cmpInt, params, growLists, fillCells, newAt, rdPtr, wrPtr, AV.cells, asVal, lenOf, boundOf, rowsOf, argIds, freshIn, scalar1, setAll, AV.isData, AV.isYld, Nat.reduceAdd, Nat.reduceMul, Nat.reduceSub, Nat.reduceEqDiff, Nat.reduceLeDiff, Nat.reduceLT, Int.reduceNeg, ↓reduceIte, reduceCtorEq, Int.reduceEq, Int.reduceLT, Int.reduceLE, Int.reduceBEq, Int.reduceBNe, Int.reduceToNat, IntKind.bits, Int.reduceAdd, Int.reduceSub, Int.reduceMul, Int.reduceTDiv, Int.reduceTMod, DB, DB4, R7B, take_add, List.append_assoc, List.length_append, Nat.add_assoc, shrink_lit, ball_app, RG, LPB, h41, z, expCell, List.nodup_cons, List.nodup_nil, List.not_mem_nil, not_false_eq_true, not_true_eq_false, and_true, and_false, if_false, List.mem_cons, mutIds, vrows_len, Nat.le_refl]
    rfl
end Go.Proofs.YtgajekpigkknnaaDoor.F

/- The layer does something. No condition. -/
set_option linter.unusedSimpArgs false
set_option maxRecDepth 20000
namespace Go.Proofs.YtgajekpigkknnaaDoor.D
open Go Go.Proofs.YtgajekpigkknnaaDoor.A
def wP : Pfx := ⟨⟨4, ⟨[10, 0, 0, 0, 0, 0, 0, 0, 0, 0, 0, 0, 0, 0, 0, 0], rfl, by decide⟩⟩, 8⟩
def wQ : Pfx := ⟨⟨4, ⟨[10, 1, 0, 0, 0, 0, 0, 0, 0, 0, 0, 0, 0, 0, 0, 0], rfl, by decide⟩⟩, 16⟩
def wA : List Rt := [⟨wP, 1, 5, 7⟩]
def wB : List Rt := [⟨wP, 2, 0, 1⟩, ⟨wQ, 1, 5, 7⟩]
theorem w1 : RibP wA := by decide +kernel
theorem w2 : RibP wB := by decide +kernel
theorem w3 : leadS wA wB 0 = [⟨wP, 1, true, 0, 0⟩, ⟨wP, 2, false, 0, 1⟩, ⟨wQ, 1, false, 5, 7⟩] := by decide +kernel
theorem w4 : doS wA (leadS wA wB 0) = (wB, 1, 0) := by decide +kernel
theorem w5 : mixS wA wB 1 = [⟨wQ, 1, 5, 7⟩] := by decide +kernel
theorem w6 : RibP [⟨wQ, 1, 5, 7⟩] := by decide +kernel
end Go.Proofs.YtgajekpigkknnaaDoor.D
namespace Go.Proofs.YtgajekpigkknnaaDoor.F
open Go Go.Proofs.YtgajekpigkknnaaDoor.A Go.Proofs.YtgajekpigkknnaaDoor.D
theorem e33 : LV E 33 [] = some (.tup [.agg [.ro (trows wA)], .agg [.ro (trows wB)]]) := LV_of (n := 100) _ (by kernel_rfl)
theorem e9 : LV E 9 [] = some (.bool true) := by
  rw [LV_R (fn := f9) rfl rfl rfl]
  have h20 := e20 wA wB (by decide) (by decide)
  have h16 := e16 wA (leadS wA wB 0) (by decide) (Nat.le_trans (lead_len _ _ _) (by decide))
  have h24 := e24 wA wB 1 (by decide) (by decide)
  have h19 := e19 wB wB (by decide)
  have a1 : allR wA wB = (leadS wA wB 0, 0) := by unfold allR; rw [if_pos (by decide +kernel)]
  have a2 : mixR wA wB 1 = ([⟨wQ, 1, 5, 7⟩], 0) := by
    unfold mixR; rw [if_neg (by decide +kernel), w5, if_pos w6]
  rw [a1] at h20
  rw [w4] at h16
  rw [a2] at h24
  have g0 : (vrows (leadS wA wB 0))[0]? = some (upv ⟨wP, 1, true, 0, 0⟩) := by rw [w3]; rfl
  have gl : (leadS wA wB 0).length = 3 := by rw [w3]; rfl
  have gt : (vrows (leadS wA wB 0)).take 3 = vrows (leadS wA wB 0) := by rw [← gl]; exact vrows_all _
  simp only [doR] at h20 h16 h24
  generalize leadS wA wB 0 = L at *
  simp only [f9, ← rtv_zer, ← upv_zer, RB, pickV, eqbV, notV, negV, convV, faddrV, fldV, idxV, eqaggV, iaddrV, isnilV, nilckV, pnilV, cloV, extrV, slenV, minV, sidxV, abin, cmpInt, params, growLists, fillCells, newAt, rdPtr, wrPtr, AV.cells, asVal, lenOf, boundOf, rowsOf, argIds, freshIn, scalar1, setAll, AV.isData, AV.isYld, Nat.reduceAdd, Nat.reduceMul, Nat.reduceSub, Nat.reduceEqDiff, Nat.reduceLeDiff, Nat.reduceLT, Int.reduceNeg, ↓reduceIte, reduceCtorEq, Int.reduceEq, Int.reduceLT, Int.reduceLE, Int.reduceBEq, Int.reduceBNe, Int.reduceToNat, IntKind.bits, Int.reduceAdd, Int.reduceSub, Int.reduceMul, Int.reduceTDiv, Int.reduceTMod, DB, DB4, R7B, take_add, List.append_assoc, List.length_append, Nat.add_assoc, shrink_lit, ball_app, RG, LPB, e33, h20, h16, h24, h19, CW_some, scalar, scalar1, lockAll, lockAt, reduceCtorEq, extrV, List.all_cons, List.all_nil, mutIds, lisFits, g0, gl, gt, vrows_len]
  done
end Go.Proofs.YtgajekpigkknnaaDoor.F

/- RIBs on the way: plain laws. No condition. -/
set_option linter.unusedSimpArgs false
set_option maxRecDepth 20000
namespace Go.Proofs.YtgajekpigkknnaaDoor.D
open Go Go.Proofs.YtgajekpigkknnaaDoor.A
theorem nodup_sub {α : Type} [DecidableEq α] : ∀ {l r : List α}, l.Nodup → (∀ x ∈ l, x ∈ r) → l.length ≤ r.length
  | [], _, _, _ => Nat.zero_le _
  | a :: l, r, h, hs => by
    obtain ⟨h1, h2⟩ := List.nodup_cons.1 h
    have ha := hs a (by simp)
    have := nodup_sub (l := l) (r := r.erase a) h2 (fun x hx => (List.mem_erase_of_ne (fun e : x = a => h1 (e ▸ hx))).2 (hs x (by simp [hx])))
    rw [List.length_erase_of_mem ha] at this
    have hp := List.length_pos_of_mem ha
    rw [List.length_cons]; omega
def fstP (l : List Rt) : Nat → List Pfx
  | 0 => []
  | k + 1 => fstP l k ++ (if anyP l k k = true then [] else [(tow l k).p])
theorem fstP_len (l : List Rt) : ∀ k, (fstP l k).length = firC l k
  | 0 => rfl
  | k + 1 => by unfold fstP firC; rw [List.length_append, fstP_len l k]; split <;> rfl
theorem anyP_iff (l : List Rt) (k j : Nat) : anyP l k j = true ↔ ∃ i < j, (tow l i).p = (tow l k).p := by
  unfold anyP; rw [List.any_eq_true]
  constructor
  · rintro ⟨i, h1, h2⟩; exact ⟨i, List.mem_range.1 h1, of_decide_eq_true h2⟩
  · rintro ⟨i, h1, h2⟩; exact ⟨i, List.mem_range.2 h1, decide_eq_true h2⟩
theorem fstP_mem (l : List Rt) : ∀ k p, p ∈ fstP l k ↔ ∃ i < k, (tow l i).p = p
  | 0, p => by simp [fstP]
  | k + 1, p => by
    unfold fstP
    rw [List.mem_append, fstP_mem l k p]
    by_cases h : anyP l k k = true
    · rw [if_pos h]
      obtain ⟨i, h1, h2⟩ := (anyP_iff l k k).1 h
      constructor
      · rintro (⟨j, h3, h4⟩ | h3)
        · exact ⟨j, by omega, h4⟩
        · simp at h3
      · rintro ⟨j, h3, h4⟩
        by_cases e : j = k
        · subst e; exact .inl ⟨i, h1, h2.trans h4⟩
        · exact .inl ⟨j, by omega, h4⟩
    · rw [if_neg h, List.mem_singleton]
      constructor
      · rintro (⟨j, h3, h4⟩ | rfl)
        · exact ⟨j, by omega, h4⟩
        · exact ⟨k, by omega, rfl⟩
      · rintro ⟨j, h3, h4⟩
        by_cases e : j = k
        · subst e; exact .inr h4.symm
        · exact .inl ⟨j, by omega, h4⟩
theorem fstP_nodup (l : List Rt) : ∀ k, (fstP l k).Nodup
  | 0 => List.nodup_nil
  | k + 1 => by
    unfold fstP
    by_cases h : anyP l k k = true
    · rw [if_pos h, List.append_nil]; exact fstP_nodup l k
    · rw [if_neg h, List.nodup_append]
      refine ⟨fstP_nodup l k, by simp, fun p hp q hq e => ?_⟩
      rw [List.mem_singleton] at hq
      subst e; subst hq
      obtain ⟨i, h1, h2⟩ := (fstP_mem l k _).1 hp
      exact h ((anyP_iff l k k).2 ⟨i, h1, h2⟩)
theorem mem_tow {l : List Rt} {x : Rt} : x ∈ l ↔ ∃ i < l.length, tow l i = x := by
  rw [List.mem_iff_getElem]
  constructor
  · rintro ⟨i, h, rfl⟩; exact ⟨i, h, tow_eq l h⟩
  · rintro ⟨i, h, rfl⟩; exact ⟨i, h, (tow_eq l h).symm⟩
theorem firC_sub {l c : List Rt} (h : ∀ x ∈ l, ∃ y ∈ c, y.p = x.p) : firC l l.length ≤ firC c c.length := by
  rw [← fstP_len, ← fstP_len]
  refine nodup_sub (fstP_nodup l _) fun p hp => ?_
  obtain ⟨i, h1, rfl⟩ := (fstP_mem l _ p).1 hp
  obtain ⟨y, h2, h3⟩ := h _ (mem_tow.2 ⟨i, h1, rfl⟩)
  obtain ⟨j, h4, rfl⟩ := mem_tow.1 h2
  exact (fstP_mem c _ _).2 ⟨j, h4, h3⟩
theorem ribP_mk {l : List Rt} (h1 : l.length ≤ 160) (h2 : ∀ x ∈ l, FitsP x) (h3 : l.Pairwise Ahead) (h4 : firC l l.length ≤ 40) : RibP l := by
  rw [ribP_fir]
  have hs := sort_pair.2 h3
  exact ⟨h1, fun i hi => ⟨h2 _ (mem_tow.2 ⟨i, hi, rfl⟩), by
    by_cases h0 : i = 0
    · exact .inl h0
    · exact .inr (hs (i - 1) i (by omega) hi)⟩, h4⟩
def keyR (x : Rt) : Pfx × Int := (x.p, x.src)
theorem keyR_iff {x y : Rt} : keyR x = keyR y ↔ KeyEq x y := by
  unfold keyR KeyEq
  rw [Prod.mk.injEq]
theorem keys_nodup {l : List Rt} (h : l.Pairwise Ahead) : (l.map keyR).Nodup := by
  unfold List.Nodup
  rw [List.pairwise_map]
  exact h.imp fun hab e => keyEq_irr (keyR_iff.1 e) hab
theorem ribP_sub {l c : List Rt} (hc : RibP c) (h2 : ∀ x ∈ l, FitsP x) (h3 : l.Pairwise Ahead) (h : ∀ x ∈ l, ∃ y ∈ c, KeyEq y x) : RibP l := by
  refine ribP_mk ?_ h2 h3 (Nat.le_trans (firC_sub fun x hx => ?_) ((ribP_fir c).1 hc).2.2)
  · have := nodup_sub (r := c.map keyR) (keys_nodup h3) (fun k hk => by
      obtain ⟨x, hx, rfl⟩ := List.mem_map.1 hk
      obtain ⟨y, hy, e⟩ := h x hx
      exact List.mem_map.2 ⟨y, hy, keyR_iff.2 e⟩)
    rw [List.length_map, List.length_map] at this
    exact Nat.le_trans this hc.1
  · obtain ⟨y, hy, e⟩ := h x hx
    exact ⟨y, hy, e.1⟩
theorem sort_ext : ∀ {l r : List Rt}, l.Pairwise Ahead → r.Pairwise Ahead → (∀ x, x ∈ l ↔ x ∈ r) → l = r
  | [], [], _, _, _ => rfl
  | [], b :: r, _, _, h => by have := (h b).2 (by simp); simp at this
  | a :: l, [], _, _, h => by have := (h a).1 (by simp); simp at this
  | a :: l, b :: r, hl, hr, h => by
    obtain ⟨l1, l2⟩ := List.pairwise_cons.1 hl
    obtain ⟨r1, r2⟩ := List.pairwise_cons.1 hr
    have e : a = b := by
      rcases List.mem_cons.1 ((h a).1 (by simp)) with e | ha
      · exact e
      · rcases List.mem_cons.1 ((h b).2 (by simp)) with e | hb
        · exact e.symm
        · exact absurd (l1 b hb) (ahead_asym (r1 a ha))
    subst e
    congr 1
    refine sort_ext l2 r2 fun x => ⟨fun hx => ?_, fun hx => ?_⟩
    · rcases List.mem_cons.1 ((h x).1 (by simp [hx])) with rfl | h1
      · exact absurd (l1 x hx) (ahead_irr x)
      · exact h1
    · rcases List.mem_cons.1 ((h x).2 (by simp [hx])) with rfl | h1
      · exact absurd (r1 x hx) (ahead_irr x)
      · exact h1
theorem mem_lp {l : List Rt} {r x : Rt} : x ∈ lowR l r ++ pastR l r ↔ x ∈ l ∧ ¬ KeyEq x r := by
  rw [List.mem_append]
  unfold lowR pastR
  rw [List.mem_filter, List.mem_filter, decide_eq_true_eq, decide_eq_true_eq]
  constructor
  · rintro (⟨h1, h2⟩ | ⟨h1, h2⟩)
    · exact ⟨h1, fun k => keyEq_irr k h2⟩
    · exact ⟨h1, fun k => keyEq_irr' k h2⟩
  · rintro ⟨h1, h2⟩
    rcases ahead_tri x r with h3 | h3 | h3
    · exact .inl ⟨h1, h3⟩
    · exact absurd h3 h2
    · exact .inr ⟨h1, h3⟩
theorem mem_step {l l' : List Rt} {u : Up} (h : stepA l u = some l') (x : Rt) : x ∈ l' ↔ (x ∈ l ∧ ¬ KeyEq x (uR u)) ∨ (u.gone = false ∧ x = uR u) := by
  unfold stepA at h
  split at h
  · rename_i hg
    split at h
    · cases h
      rw [mem_lp]
      constructor
      · exact .inl
      · rintro (h | ⟨h, _⟩)
        · exact h
        · rw [hg] at h; cases h
    · cases h
  · rename_i hg
    cases h
    have hg : u.gone = false := by simpa using hg
    rw [List.append_assoc, List.mem_append, List.mem_append, List.mem_singleton]
    have := mem_lp (l := l) (r := uR u) (x := x)
    rw [List.mem_append] at this
    constructor
    · rintro (h | h | h)
      · exact .inl (this.1 (.inl h))
      · exact .inr ⟨hg, h⟩
      · exact .inl (this.1 (.inr h))
    · rintro (h | ⟨_, h⟩)
      · rcases this.2 h with h | h
        · exact .inl h
        · exact .inr (.inr h)
      · exact .inr (.inl h)
end Go.Proofs.YtgajekpigkknnaaDoor.D

/- What leads there leads there, and on the way each RIB may be: plain laws. No condition. -/
set_option linter.unusedSimpArgs false
set_option maxRecDepth 20000
namespace Go.Proofs.YtgajekpigkknnaaDoor.D
open Go Go.Proofs.YtgajekpigkknnaaDoor.A
def DistU (us : List Up) : Prop := us.Pairwise fun u v => ¬ KeyEq (uR u) (uR v)
theorem KeyEq.symm {a b : Rt} (h : KeyEq a b) : KeyEq b a := ⟨h.1.symm, h.2.symm⟩
theorem KeyEq.trans {a b c : Rt} (h : KeyEq a b) (k : KeyEq b c) : KeyEq a c := ⟨h.1.trans k.1, h.2.trans k.2⟩
theorem KeyEq.refl (a : Rt) : KeyEq a a := ⟨rfl, rfl⟩
theorem runA_cons {l : List Rt} {u : Up} {us : List Up} : runA l (u :: us) = (stepA l u).bind fun l' => runA l' us := by
  conv => lhs; unfold runA
  cases stepA l u <;> rfl
theorem runA_append : ∀ {p q : List Up} {l : List Rt}, runA l (p ++ q) = (runA l p).bind fun r => runA r q
  | [], q, l => rfl
  | u :: p, q, l => by
    rw [List.cons_append, runA_cons, runA_cons]
    cases stepA l u with
    | none => rfl
    | some l' => exact runA_append
theorem run_char : ∀ {q : List Up} {l r : List Rt}, runA l q = some r → l.Pairwise Ahead → DistU q → r.Pairwise Ahead ∧ ∀ x, x ∈ r ↔ (x ∈ l ∧ ∀ u ∈ q, ¬ KeyEq x (uR u)) ∨ ∃ u ∈ q, u.gone = false ∧ x = uR u
  | [], l, r, h, hl, _ => by cases h; exact ⟨hl, fun x => by simp⟩
  | u :: q, l, r, h, hl, hd => by
    obtain ⟨d1, d2⟩ := List.pairwise_cons.1 hd
    unfold runA at h
    split at h
    · rename_i l' h1
      have hl' : l'.Pairwise Ahead := sort_pair.1 (stepA_sort (sort_pair.2 hl) h1)
      obtain ⟨k1, k2⟩ := run_char h hl' d2
      refine ⟨k1, fun x => ?_⟩
      rw [k2 x, mem_step h1 x]
      constructor
      · rintro (⟨h2 | h2, h3⟩ | ⟨v, h2, h3⟩)
        · exact .inl ⟨h2.1, fun v hv => by
            rcases List.mem_cons.1 hv with rfl | hv
            · exact h2.2
            · exact h3 v hv⟩
        · exact .inr ⟨u, by simp, h2⟩
        · exact .inr ⟨v, by simp [h2], h3⟩
      · rintro (⟨h2, h3⟩ | ⟨v, h2, h3⟩)
        · exact .inl ⟨.inl ⟨h2, h3 u (by simp)⟩, fun v hv => h3 v (by simp [hv])⟩
        · rcases List.mem_cons.1 h2 with rfl | hv
          · exact .inl ⟨.inr h3, fun w hw => by rw [h3.2]; exact d1 w hw⟩
          · exact .inr ⟨v, hv, h3⟩
    · cases h
theorem run_ok : ∀ {q : List Up} {l : List Rt}, DistU q → (∀ u ∈ q, u.gone = true → ∃ x ∈ l, KeyEq x (uR u)) → ∃ r, runA l q = some r
  | [], l, _, _ => ⟨l, rfl⟩
  | u :: q, l, hd, hg => by
    obtain ⟨d1, d2⟩ := List.pairwise_cons.1 hd
    have hs : ∃ l', stepA l u = some l' := by
      unfold stepA
      split
      · rename_i h
        obtain ⟨x, hx, hk⟩ := hg u (by simp) h
        rw [if_pos (show thereB l (uR u) = true from List.any_eq_true.2 ⟨x, hx, decide_eq_true hk⟩)]
        exact ⟨_, rfl⟩
      · exact ⟨_, rfl⟩
    obtain ⟨l', h1⟩ := hs
    obtain ⟨r, hr⟩ := run_ok (l := l') d2 (fun v hv hv2 => by
      obtain ⟨x, hx, hk⟩ := hg v (by simp [hv]) hv2
      exact ⟨x, (mem_step h1 x).2 (.inl ⟨hx, fun k => d1 v hv (k.symm.trans hk)⟩), hk⟩)
    refine ⟨r, ?_⟩
    unfold runA; rw [h1]; exact hr
theorem uR_g (x : Rt) : KeyEq (uR (gU x)) x := ⟨rfl, rfl⟩
theorem hasK_true {B : List Rt} {x : Rt} : hasK B (fun _ _ => true) x = true ↔ ∃ y ∈ B, KeyEq y x := by
  unfold hasK; rw [List.any_eq_true]; simp
theorem mem_gone {a c : List Rt} {u : Up} : u ∈ goneL a c ↔ ∃ x ∈ a, (∀ y ∈ c, ¬ KeyEq y x) ∧ u = gU x := by
  unfold goneL butS
  rw [List.mem_map]
  constructor
  · rintro ⟨x, hx, rfl⟩
    obtain ⟨h1, h2⟩ := List.mem_filter.1 hx
    refine ⟨x, h1, fun y hy hk => ?_, rfl⟩
    rw [hasK_true.2 ⟨y, hy, hk⟩] at h2; cases h2
  · rintro ⟨x, h1, h2, rfl⟩
    refine ⟨x, List.mem_filter.2 ⟨h1, ?_⟩, rfl⟩
    cases h : hasK c (fun _ _ => true) x with
    | false => rfl
    | true => obtain ⟨y, hy, hk⟩ := hasK_true.1 h; exact absurd hk (h2 y hy)
theorem mem_come {a c : List Rt} {u : Up} : u ∈ comeL a c ↔ ∃ x ∈ c, x ∉ a ∧ u = cU x := by
  unfold comeL butS
  rw [List.mem_map]
  constructor
  · rintro ⟨x, hx, rfl⟩
    obtain ⟨h1, h2⟩ := List.mem_filter.1 hx
    refine ⟨x, h1, fun h3 => ?_, rfl⟩
    have : hasK a (fun x y => decide (x = y)) x = true := List.any_eq_true.2 ⟨x, h3, by simp [KeyEq.refl]⟩
    rw [this] at h2; cases h2
  · rintro ⟨x, h1, h2, rfl⟩
    refine ⟨x, List.mem_filter.2 ⟨h1, ?_⟩, rfl⟩
    cases h : hasK a (fun x y => decide (x = y)) x with
    | false => rfl
    | true =>
      obtain ⟨y, hy, hk⟩ := List.any_eq_true.1 h
      rw [Bool.and_eq_true, decide_eq_true_eq, decide_eq_true_eq] at hk
      exact absurd (hk.2 ▸ hy) h2
theorem lead_dist {a c : List Rt} (ha : a.Pairwise Ahead) (hc : c.Pairwise Ahead) : DistU (goneL a c ++ comeL a c) := by
  refine List.pairwise_append.2 ⟨?_, ?_, fun u hu v hv => ?_⟩
  · unfold goneL butS
    rw [List.pairwise_map]
    exact (ha.filter _).imp fun h k => keyEq_irr (((uR_g _).symm.trans k).trans (uR_g _)) h
  · unfold comeL butS
    rw [List.pairwise_map]
    exact (hc.filter _).imp fun h k => keyEq_irr k h
  · obtain ⟨x, hx, h1, rfl⟩ := mem_gone.1 hu
    obtain ⟨y, hy, h2, rfl⟩ := mem_come.1 hv
    exact fun k => h1 y hy ((uR_g x).symm.trans k).symm
/-- What is there on the way. -/
theorem lead_way {a c : List Rt} (ha : RibP a) (hc : RibP c) {q rest : List Up} (h : goneL a c ++ comeL a c = q ++ rest) : ∃ r, runA a q = some r ∧ RibP r ∧ (∀ x ∈ r, x ∈ a ∨ x ∈ c) ∧ ∀ x ∈ a, x ∈ c → x ∈ r := by
  have hd := lead_dist ha.pair hc.pair
  have hm : ∀ u ∈ q, u ∈ goneL a c ∨ u ∈ comeL a c := fun u hu => List.mem_append.1 (h ▸ List.mem_append.2 (.inl hu))
  rw [h] at hd
  have hdq : DistU q := (List.pairwise_append.1 hd).1
  obtain ⟨r, hr⟩ := run_ok (l := a) hdq fun u hu hg => by
    rcases hm u hu with h1 | h1
    · obtain ⟨x, hx, _, rfl⟩ := mem_gone.1 h1
      exact ⟨x, hx, (uR_g x).symm⟩
    · obtain ⟨x, hx, _, rfl⟩ := mem_come.1 h1
      cases hg
  obtain ⟨k1, k2⟩ := run_char hr ha.pair hdq
  have hin : ∀ x ∈ r, x ∈ a ∨ x ∈ c := fun x hx => by
    rcases (k2 x).1 hx with h1 | ⟨u, hu, h1, rfl⟩
    · exact .inl h1.1
    · rcases hm u hu with h2 | h2
      · obtain ⟨y, _, _, rfl⟩ := mem_gone.1 h2
        cases h1
      · obtain ⟨y, hy, _, rfl⟩ := mem_come.1 h2
        exact .inr hy
  have hfit : ∀ x ∈ r, FitsP x := fun x hx => (hin x hx).elim (ha.fits x) (hc.fits x)
  refine ⟨r, hr, ?_, hin, fun x hxa hxc => (k2 x).2 (.inl ⟨hxa, fun u hu hk => ?_⟩)⟩
  · rcases List.append_eq_append_iff.1 h with ⟨s, h1, h2⟩ | ⟨s, h1, h2⟩
    · refine ribP_sub hc hfit k1 fun x hx => ?_
      rcases (k2 x).1 hx with h3 | ⟨u, hu, h3, rfl⟩
      · refine Classical.byContradiction fun hn => ?_
        have : gU x ∈ goneL a c := mem_gone.2 ⟨x, h3.1, fun y hy hk => hn ⟨y, hy, hk⟩, rfl⟩
        exact h3.2 (gU x) (by rw [h1]; exact List.mem_append.2 (.inl this)) (uR_g x).symm
      · rcases hm u hu with h2 | h2
        · obtain ⟨y, _, _, rfl⟩ := mem_gone.1 h2
          cases h3
        · obtain ⟨y, hy, _, rfl⟩ := mem_come.1 h2
          exact ⟨y, hy, KeyEq.refl y⟩
    · refine ribP_sub ha hfit k1 fun x hx => ?_
      rcases (k2 x).1 hx with h3 | ⟨u, hu, h3, rfl⟩
      · exact ⟨x, h3.1, KeyEq.refl x⟩
      · have : u ∈ goneL a c := by rw [h1]; exact List.mem_append.2 (.inl hu)
        obtain ⟨y, _, _, rfl⟩ := mem_gone.1 this
        cases h3
  · rcases hm u hu with h2 | h2
    · obtain ⟨y, _, h3, rfl⟩ := mem_gone.1 h2
      exact h3 x hxc (hk.trans (uR_g y))
    · obtain ⟨y, hy, h3, rfl⟩ := mem_come.1 h2
      have : x = y := key_uniq hc.pair hxc hy hk
      exact h3 (this ▸ hxa)
theorem lead_end {a c : List Rt} (ha : RibP a) (hc : RibP c) : runA a (goneL a c ++ comeL a c) = some c := by
  obtain ⟨r, hr, hR, hin, hst⟩ := lead_way ha hc (q := goneL a c ++ comeL a c) (rest := []) (by rw [List.append_nil])
  obtain ⟨k1, k2⟩ := run_char hr ha.pair (lead_dist ha.pair hc.pair)
  rw [hr]
  congr 1
  refine sort_ext k1 hc.pair fun x => ⟨fun hx => ?_, fun hx => ?_⟩
  · rcases (k2 x).1 hx with h3 | ⟨u, hu, h3, rfl⟩
    · refine Classical.byContradiction fun hn => ?_
      by_cases hk : ∃ y ∈ c, KeyEq y x
      · obtain ⟨y, hy, hk⟩ := hk
        have hya : y ∉ a := fun h => hn ((key_uniq ha.pair h h3.1 hk) ▸ hy)
        exact h3.2 (cU y) (List.mem_append.2 (.inr (mem_come.2 ⟨y, hy, hya, rfl⟩))) hk.symm
      · exact h3.2 (gU x) (List.mem_append.2 (.inl (mem_gone.2 ⟨x, h3.1, fun y hy k => hk ⟨y, hy, k⟩, rfl⟩))) (uR_g x).symm
    · rcases List.mem_append.1 hu with h2 | h2
      · obtain ⟨y, _, _, rfl⟩ := mem_gone.1 h2
        cases h3
      · obtain ⟨y, hy, _, rfl⟩ := mem_come.1 h2
        exact hy
  · by_cases hxa : x ∈ a
    · exact hst x hxa hx
    · exact (k2 x).2 (.inr ⟨cU x, List.mem_append.2 (.inr (mem_come.2 ⟨x, hx, hxa, rfl⟩)), rfl, rfl⟩)
theorem lead_bat {a c : List Rt} (ha : RibP a) (hc : RibP c) : ∀ u ∈ goneL a c ++ comeL a c, BatP [u] := fun u hu => by
  have hf : FitsU u := by
    rcases List.mem_append.1 hu with h | h
    · obtain ⟨x, hx, _, rfl⟩ := mem_gone.1 h
      have := ha.fits x hx
      unfold FitsP at this
      unfold FitsU FitsP
      rw [if_pos (show (gU x).gone = true from rfl)]
      exact ⟨rfl, rfl, this.1, this.2.1, this.2.2.1, Int.le_refl 0, (by decide : (0 : Int) ≤ 255), (by decide : (1 : Int) ≤ 1), (by decide : (1 : Int) ≤ 255)⟩
    · obtain ⟨x, hx, _, rfl⟩ := mem_come.1 h
      have := hc.fits x hx
      unfold FitsU
      rw [if_neg (show ¬ (cU x).gone = true by simp [cU])]
      exact this
  refine ⟨Nat.le_refl _, by simp, fun i hi => ?_⟩
  obtain rfl : i = 0 := by simpa using hi
  exact ⟨hf, rfl⟩
theorem cut_ok : ∀ {us : List Up} {out : List (List Up)} {cur : List Up}, (∀ u ∈ us, BatP [u]) → (cur = [] ∨ BatP cur) → (∀ b ∈ out, BatP b) → ∃ p, cutF us out cur = some p ∧ (endC p).flatten = out.flatten ++ (cur ++ us) ∧ ∀ b ∈ endC p, BatP b
  | [], out, cur, _, hc, ho => by
    refine ⟨(out, cur), rfl, ?_, ?_⟩
    · simp only [endC]
      split
      · rename_i h; rw [h]; simp
      · simp
    · simp only [endC]
      split
      · exact ho
      · rename_i h
        intro b hb
        rcases List.mem_append.1 hb with hb | hb
        · exact ho b hb
        · rw [List.mem_singleton.1 hb]; exact hc.resolve_left h
  | u :: us, out, cur, hu, hc, ho => by
    unfold cutF
    have h1 := hu u (by simp)
    have h2 : ∀ v ∈ us, BatP [v] := fun v hv => hu v (by simp [hv])
    rw [if_pos h1]
    split
    · rename_i h
      obtain ⟨p, k1, k2, k3⟩ := cut_ok (us := us) (out := out ++ [cur]) (cur := [u]) h2 (.inr h1) (fun b hb => by
        rcases List.mem_append.1 hb with hb | hb
        · exact ho b hb
        · rw [List.mem_singleton.1 hb]; exact hc.resolve_left h.1)
      exact ⟨p, k1, by rw [k2]; simp, k3⟩
    · rename_i h
      obtain ⟨p, k1, k2, k3⟩ := cut_ok (us := us) (out := out) (cur := cur ++ [u]) h2 (.inr (by
        by_cases h0 : cur = []
        · rw [h0]; exact h1
        · exact Classical.byContradiction fun hn => h ⟨h0, hn⟩)) ho
      exact ⟨p, k1, by rw [k2]; simp, k3⟩
theorem appC_ok {r r1 : List Rt} {b : List Up} (h1 : RibP r) (h2 : BatP b) (h3 : runA r b = some r1) (h4 : RibP r1) : appC r b = (0, r1) := by
  unfold appC
  rw [if_pos h1, if_pos h2, h3]
  simp only
  rw [if_pos h4.2.2]
theorem lead_zero (a b : List Rt) : leadS a b 0 = goneL a b ++ comeL a b := by
  unfold leadS
  exact List.filter_eq_self.2 fun u _ => by simp [filU]
end Go.Proofs.YtgajekpigkknnaaDoor.D

/- On the way each route is that of the one, or of the other one: the run. No condition. -/
set_option linter.unusedSimpArgs false
set_option maxRecDepth 20000
namespace Go.Proofs.YtgajekpigkknnaaDoor.D
open Go Go.Proofs.YtgajekpigkknnaaDoor.A
theorem any_mem {l : List Rt} {x : Rt} : (l.any fun y => decide (x = y)) = decide (x ∈ l) := by
  rw [Bool.eq_iff_iff, List.any_eq_true, decide_eq_true_eq]
  constructor
  · rintro ⟨y, hy, h⟩; exact of_decide_eq_true h ▸ hy
  · exact fun h => ⟨x, h, decide_eq_true rfl⟩
theorem take_flat {L : List (List Up)} {k : Nat} (h : k < L.length) : L.flatten = (L.take (k + 1)).flatten ++ (L.drop (k + 1)).flatten := by
  rw [← List.flatten_append, List.take_append_drop]
theorem take_flat2 {L : List (List Up)} {k : Nat} (h : k < L.length) : (L.take (k + 1)).flatten = (L.take k).flatten ++ L[k] := by
  rw [List.take_add_one, List.getElem?_eq_getElem h, Option.toList_some, List.flatten_append, List.flatten_cons, List.flatten_nil, List.append_nil]
end Go.Proofs.YtgajekpigkknnaaDoor.D
namespace Go.Proofs.YtgajekpigkknnaaDoor.F
open Go Go.Proofs.YtgajekpigkknnaaDoor.A Go.Proofs.YtgajekpigkknnaaDoor.D
set_option maxHeartbeats 4000000 in
theorem e8 (x y : List Rt) (hx : x.length ≤ 9223372036854775807) (hy : y.length ≤ 9223372036854775807) : LV E 8 [.agg [.ro (trows x)], .agg [.ro (trows y)]] = some (.bool true) := by
  rw [LV_R (fn := f8) rfl rfl rfl]
  have h15a := e15 x hx
  have h15b := e15 y hy
  have la : (x.take 161).length ≤ 161 := List.length_take_le _ _
  have lb : (y.take 161).length ≤ 161 := List.length_take_le _ _
  generalize x.take 161 = a at *
  generalize y.take 161 = b at *
  have ta := trows_all a
  have tb := trows_all b
  have h20 := e20 a b (by omega) (by omega)
  by_cases h0 : rightS a b 0 0 = 0
  · obtain ⟨hA, hB, _⟩ := rightS_zero h0
    rw [show allR a b = (leadS a b 0, 0) by unfold allR; rw [if_pos h0]] at h20
    have hll := lead_len a b 0
    obtain ⟨p, c1, c2, c3⟩ := cut_ok (out := []) (cur := []) (lead_bat hA hB) (.inl rfl) (by simp)
    rw [← lead_zero] at c1 c2
    have h11 := e11 (leadS a b 0) (by omega)
    rw [c1] at h11
    have hn : (endC p).length ≤ 1000 := by
      have h1 := cutF_len c1
      have h2 := endC_len p
      simp only [List.length_nil] at h1
      omega
    simp only [resC, List.flatten_nil, List.nil_append] at h11 c2
    have hz := lead_zero a b
    generalize endC p = LL at *
    generalize leadS a b 0 = L at *
    have tL := vrows_all L
    have tW := wrows_all LL
    simp only [f8, ← rtv_zer, ← upv_zer, RB, pickV, eqbV, notV, negV, convV, faddrV, fldV, idxV, eqaggV, iaddrV, isnilV, nilckV, pnilV, cloV, extrV, slenV, minV, sidxV, abin, cmpInt, params, growLists, fillCells, newAt, rdPtr, wrPtr, AV.cells, asVal, lenOf, boundOf, rowsOf, argIds, freshIn, scalar1, setAll, AV.isData, AV.isYld, Nat.reduceAdd, Nat.reduceMul, Nat.reduceSub, Nat.reduceEqDiff, Nat.reduceLeDiff, Nat.reduceLT, Int.reduceNeg, ↓reduceIte, reduceCtorEq, Int.reduceEq, Int.reduceLT, Int.reduceLE, Int.reduceBEq, Int.reduceBNe, Int.reduceToNat, IntKind.bits, Int.reduceAdd, Int.reduceSub, Int.reduceMul, Int.reduceTDiv, Int.reduceTMod, DB, DB4, R7B, take_add, List.append_assoc, List.length_append, Nat.add_assoc, shrink_lit, ball_app, RG, LPB, e9, h15a, h15b, take_agg1, pairOk, AV.ids, List.contains_cons, List.contains_nil, Nat.reduceBEq, List.all_cons, List.all_nil, Bool.or_self, Bool.not_false, Bool.and_self, Bool.or_false, snap, snapCell, rowsOf, ta, tb, tL, tW, h20, h11, wrows_len, bne_self_eq_false, CW_some, scalar, scalar1, lockAll, lockAt, reduceCtorEq, extrV, List.all_cons, List.all_nil, mutIds, List.take_length, Nat.le_refl]
    rw [c2.symm.trans (by rfl)] at hz
    refine (W_rec2 (β := AV) (ι := {s : Nat × Bool × List Rt // s.1 ≤ LL.length ∧ runA a (LL.take s.1).flatten = some s.2.2 ∧ RibP s.2.2 ∧ (s.2.1 = true → s.2.2 = a)})
      (M := fun s => [(5, .ptr 4 0 0 0), (6, .ptr 5 0 0 0), (10, .ptr 8 0 0 0), (41, .lis 7 0 0 LL.length), (42, .int .i64 (LL.length : Int)), (43, .int .i64 (s.1.1 : Int))])
      (H := fun s => ⟨[.box 0 46 [.ro (trows x)], .box 0 46 [.ro (trows y)], .lst 2 0 53 21 (trows a), .lst 2 0 53 21 (trows b), .box 0 46 [.lis 2 0 0 a.length], .box 0 46 [.lis 3 0 0 b.length], .lst 2 0 42 22 (vrows L), .lst 0 0 35 1 (wrows LL), .box 0 46 [if s.1.2.1 then .lis 2 0 0 a.length else .ro (trows s.1.2.2)], .lst 0 0 53 21 []], []⟩)
      (r := fun _ => some (AV.bool true)) (μ := fun s => LL.length - s.1.1) (fun s => ?_) (fun s ih => ?_) ⟨(0, true, a), Nat.zero_le _, by rw [List.take_zero]; rfl, hA, fun _ => rfl⟩ rfl rfl)
    · obtain ⟨⟨k, c, r⟩, h⟩ := s
      cases c <;> simp [LPB]
    · obtain ⟨⟨k, c, r⟩, hk0, hr, hR, hc⟩ := s
      simp only at ih hk0 hr hR hc ⊢
      by_cases hk : k < LL.length
      · have f1 : (k : Int) < (LL.length : Int) := by omega
        have f2 : (0 : Int) ≤ (k : Int) := by omega
        have f6 : IntKind.i64.wrap ((k : Int) + 1) = ((k + 1 : Nat) : Int) := by rw [IntWalk.i64_in _ (by omega)] <;> omega
        have g1 := wrows_get LL hk
        have hB1 := c3 LL[k] (List.getElem_mem hk)
        obtain ⟨r1, hr1, hR1, hin, hst⟩ := lead_way hA hB (hz.symm.trans (take_flat hk))
        have hr1' := hr1
        rw [take_flat2 hk, runA_append, hr] at hr1
        have h31 := e31 r LL[k] (Nat.le_trans hR.1 (by decide))
        rw [applyS_eq, appC_ok hR hB1 hr1 hR1] at h31
        have hl1 : r1.length ≤ 160 := hR1.1
        have ih := ih ⟨(k + 1, false, r1), hk, hr1', hR1, by simp⟩ (by simp only; omega)
        simp only [Bool.false_eq_true, if_false] at ih
        cases c with
        | true =>
          obtain rfl : a = r := (hc rfl).symm
          simp only [if_true]
          simp only [RB, pickV, eqbV, notV, negV, convV, faddrV, fldV, idxV, eqaggV, iaddrV, isnilV, nilckV, pnilV, cloV, extrV, slenV, minV, sidxV, abin, cmpInt, params, growLists, fillCells, newAt, rdPtr, wrPtr, AV.cells, asVal, lenOf, boundOf, rowsOf, argIds, freshIn, scalar1, setAll, AV.isData, AV.isYld, Nat.reduceAdd, Nat.reduceMul, Nat.reduceSub, Nat.reduceEqDiff, Nat.reduceLeDiff, Nat.reduceLT, Int.reduceNeg, ↓reduceIte, reduceCtorEq, Int.reduceEq, Int.reduceLT, Int.reduceLE, Int.reduceBEq, Int.reduceBNe, Int.reduceToNat, IntKind.bits, Int.reduceAdd, Int.reduceSub, Int.reduceMul, Int.reduceTDiv, Int.reduceTMod, DB, DB4, R7B, take_add, List.append_assoc, List.length_append, Nat.add_assoc, shrink_lit, ball_app, RG, LPB, f1, f2, f6, hk, g1, lisFits, snap, snapCell, rowsOf, List.drop_zero, ta, h31, bne_self_eq_false, CW_some, scalar, scalar1, lockAll, lockAt, reduceCtorEq, extrV, List.all_cons, List.all_nil, mutIds, List.take_length, Nat.le_refl]
          refine (W_rec2 (β := AV) (ι := {j : Nat // j ≤ r1.length}) (M := fun j => [(5, .ptr 4 0 0 0), (6, .ptr 5 0 0 0), (10, .ptr 8 0 0 0), (13, .ptr 13 0 0 0), (41, .lis 7 0 0 LL.length), (42, .int .i64 (LL.length : Int)), (43, .int .i64 (k : Int)), (56, .ro (trows r1)), (57, .int .i64 (r1.length : Int)), (58, .int .i64 (j.1 : Int))])
            (H := fun _ => ⟨[.box 0 46 [.ro (trows x)], .box 0 46 [.ro (trows y)], .lst 2 0 53 21 (trows a), .lst 2 0 53 21 (trows b), .box 0 46 [.lis 2 0 0 a.length], .box 0 46 [.lis 3 0 0 b.length], .lst 2 0 42 22 (vrows L), .lst 0 0 35 1 (wrows LL), .box 0 46 [.lis 2 0 0 a.length], .lst 0 0 53 21 [], .box 0 35 [.ro (vrows LL[k])], .lst 0 0 42 22 [], .dead, .box 0 46 [.ro (trows r1)], .lst 0 0 53 21 []], []⟩) (r := fun _ => some (AV.bool true)) (μ := fun j => r1.length - j.1) (fun j => ?_) (fun j jh => ?_) ⟨0, Nat.zero_le _⟩ rfl rfl)
          · simp [LPB]
          · obtain ⟨j, hj0⟩ := j
            simp only at jh hj0 ⊢
            by_cases hj : j < r1.length
            · have j1 : (j : Int) < (r1.length : Int) := by omega
              have j2 : (0 : Int) ≤ (j : Int) := by omega
              have j6 : IntKind.i64.wrap ((j : Int) + 1) = ((j + 1 : Nat) : Int) := by rw [IntWalk.i64_in _ (by omega)] <;> omega
              have g2 := trows_get r1 hj
              have jh := jh ⟨j + 1, hj⟩ (by simp only; omega)
              simp only at jh
              have hxm := hin r1[j] (List.getElem_mem hj)
              generalize r1[j] = z at *
              have h32a := e32 a z (by omega)
              have h32b := e32 b z (by omega)
              rw [any_mem] at h32a h32b
              by_cases hza : z ∈ a
              · rw [decide_eq_true hza] at h32a
                simp only [RB, pickV, eqbV, notV, negV, convV, faddrV, fldV, idxV, eqaggV, iaddrV, isnilV, nilckV, pnilV, cloV, extrV, slenV, minV, sidxV, abin, cmpInt, params, growLists, fillCells, newAt, rdPtr, wrPtr, AV.cells, asVal, lenOf, boundOf, rowsOf, argIds, freshIn, scalar1, setAll, AV.isData, AV.isYld, Nat.reduceAdd, Nat.reduceMul, Nat.reduceSub, Nat.reduceEqDiff, Nat.reduceLeDiff, Nat.reduceLT, Int.reduceNeg, ↓reduceIte, reduceCtorEq, Int.reduceEq, Int.reduceLT, Int.reduceLE, Int.reduceBEq, Int.reduceBNe, Int.reduceToNat, IntKind.bits, Int.reduceAdd, Int.reduceSub, Int.reduceMul, Int.reduceTDiv, Int.reduceTMod, DB, DB4, R7B, take_add, List.append_assoc, List.length_append, Nat.add_assoc, shrink_lit, ball_app, RG, LPB, lisFits, snap, snapCell, rowsOf, List.drop_zero, ta, tb, CW_some, scalar, scalar1, lockAll, lockAt, reduceCtorEq, extrV, List.all_cons, List.all_nil, mutIds, List.take_length, Nat.le_refl, j1, j2, j6, g2, h32a, ← rtv_zer]
                exact jh
              · have hzb := hxm.resolve_left hza
                rw [decide_eq_false hza] at h32a
                rw [decide_eq_true hzb] at h32b
                simp only [RB, pickV, eqbV, notV, negV, convV, faddrV, fldV, idxV, eqaggV, iaddrV, isnilV, nilckV, pnilV, cloV, extrV, slenV, minV, sidxV, abin, cmpInt, params, growLists, fillCells, newAt, rdPtr, wrPtr, AV.cells, asVal, lenOf, boundOf, rowsOf, argIds, freshIn, scalar1, setAll, AV.isData, AV.isYld, Nat.reduceAdd, Nat.reduceMul, Nat.reduceSub, Nat.reduceEqDiff, Nat.reduceLeDiff, Nat.reduceLT, Int.reduceNeg, ↓reduceIte, reduceCtorEq, Int.reduceEq, Int.reduceLT, Int.reduceLE, Int.reduceBEq, Int.reduceBNe, Int.reduceToNat, IntKind.bits, Int.reduceAdd, Int.reduceSub, Int.reduceMul, Int.reduceTDiv, Int.reduceTMod, DB, DB4, R7B, take_add, List.append_assoc, List.length_append, Nat.add_assoc, shrink_lit, ball_app, RG, LPB, lisFits, snap, snapCell, rowsOf, List.drop_zero, ta, tb, CW_some, scalar, scalar1, lockAll, lockAt, reduceCtorEq, extrV, List.all_cons, List.all_nil, mutIds, List.take_length, Nat.le_refl, j1, j2, j6, g2, h32a, h32b, ← rtv_zer]
                exact jh
            · obtain rfl : j = r1.length := by omega
              simp only [RB, pickV, eqbV, notV, negV, convV, faddrV, fldV, idxV, eqaggV, iaddrV, isnilV, nilckV, pnilV, cloV, extrV, slenV, minV, sidxV, abin, cmpInt, params, growLists, fillCells, newAt, rdPtr, wrPtr, AV.cells, asVal, lenOf, boundOf, rowsOf, argIds, freshIn, scalar1, setAll, AV.isData, AV.isYld, Nat.reduceAdd, Nat.reduceMul, Nat.reduceSub, Nat.reduceEqDiff, Nat.reduceLeDiff, Nat.reduceLT, Int.reduceNeg, ↓reduceIte, reduceCtorEq, Int.reduceEq, Int.reduceLT, Int.reduceLE, Int.reduceBEq, Int.reduceBNe, Int.reduceToNat, IntKind.bits, Int.reduceAdd, Int.reduceSub, Int.reduceMul, Int.reduceTDiv, Int.reduceTMod, DB, DB4, R7B, take_add, List.append_assoc, List.length_append, Nat.add_assoc, shrink_lit, ball_app, RG, LPB, lisFits, snap, snapCell, rowsOf, List.drop_zero, ta, tb, CW_some, scalar, scalar1, lockAll, lockAt, reduceCtorEq, extrV, List.all_cons, List.all_nil, mutIds, List.take_length, Nat.le_refl, show ¬ ((r1.length : Nat) : Int) < (r1.length : Int) by omega]
              refine (W_rec2 (β := AV) (ι := {i : Nat // i ≤ a.length}) (M := fun i => [(5, .ptr 4 0 0 0), (6, .ptr 5 0 0 0), (10, .ptr 8 0 0 0), (13, .ptr 13 0 0 0), (41, .lis 7 0 0 LL.length), (42, .int .i64 (LL.length : Int)), (43, .int .i64 (k : Int)), (74, .lis 2 0 0 a.length), (75, .int .i64 (a.length : Int)), (76, .int .i64 (i.1 : Int))])
                (H := fun _ => ⟨[.box 0 46 [.ro (trows x)], .box 0 46 [.ro (trows y)], .lst 2 0 53 21 (trows a), .lst 2 0 53 21 (trows b), .box 0 46 [.lis 2 0 0 a.length], .box 0 46 [.lis 3 0 0 b.length], .lst 2 0 42 22 (vrows L), .lst 0 0 35 1 (wrows LL), .box 0 46 [.lis 2 0 0 a.length], .lst 0 0 53 21 [], .box 0 35 [.ro (vrows LL[k])], .lst 0 0 42 22 [], .dead, .box 0 46 [.ro (trows r1)], .lst 0 0 53 21 []], []⟩) (r := fun _ => some (AV.bool true)) (μ := fun i => a.length - i.1) (fun i => ?_) (fun i kh => ?_) ⟨0, Nat.zero_le _⟩ rfl rfl)
              · simp [LPB]
              · obtain ⟨i, hi0⟩ := i
                simp only at kh hi0 ⊢
                by_cases hi : i < a.length
                · have k1 : (i : Int) < (a.length : Int) := by omega
                  have k2 : (0 : Int) ≤ (i : Int) := by omega
                  have k6 : IntKind.i64.wrap ((i : Int) + 1) = ((i + 1 : Nat) : Int) := by rw [IntWalk.i64_in _ (by omega)] <;> omega
                  have g3 := trows_get a hi
                  have kh := kh ⟨i + 1, hi⟩ (by simp only; omega)
                  simp only at kh
                  have hxm := hst a[i] (List.getElem_mem hi)
                  generalize a[i] = z at *
                  have h32b := e32 b z (by omega)
                  have h32r := e32 r1 z (by omega)
                  rw [any_mem] at h32b h32r
                  by_cases hzb : z ∈ b
                  · rw [decide_eq_true hzb] at h32b
                    rw [decide_eq_true (hxm hzb)] at h32r
                    simp only [RB, pickV, eqbV, notV, negV, convV, faddrV, fldV, idxV, eqaggV, iaddrV, isnilV, nilckV, pnilV, cloV, extrV, slenV, minV, sidxV, abin, cmpInt, params, growLists, fillCells, newAt, rdPtr, wrPtr, AV.cells, asVal, lenOf, boundOf, rowsOf, argIds, freshIn, scalar1, setAll, AV.isData, AV.isYld, Nat.reduceAdd, Nat.reduceMul, Nat.reduceSub, Nat.reduceEqDiff, Nat.reduceLeDiff, Nat.reduceLT, Int.reduceNeg, ↓reduceIte, reduceCtorEq, Int.reduceEq, Int.reduceLT, Int.reduceLE, Int.reduceBEq, Int.reduceBNe, Int.reduceToNat, IntKind.bits, Int.reduceAdd, Int.reduceSub, Int.reduceMul, Int.reduceTDiv, Int.reduceTMod, DB, DB4, R7B, take_add, List.append_assoc, List.length_append, Nat.add_assoc, shrink_lit, ball_app, RG, LPB, lisFits, snap, snapCell, rowsOf, List.drop_zero, ta, tb, CW_some, scalar, scalar1, lockAll, lockAt, reduceCtorEq, extrV, List.all_cons, List.all_nil, mutIds, List.take_length, Nat.le_refl, k1, k2, k6, hi, g3, h32b, h32r, ← rtv_zer]
                    exact kh
                  · rw [decide_eq_false hzb] at h32b
                    simp only [RB, pickV, eqbV, notV, negV, convV, faddrV, fldV, idxV, eqaggV, iaddrV, isnilV, nilckV, pnilV, cloV, extrV, slenV, minV, sidxV, abin, cmpInt, params, growLists, fillCells, newAt, rdPtr, wrPtr, AV.cells, asVal, lenOf, boundOf, rowsOf, argIds, freshIn, scalar1, setAll, AV.isData, AV.isYld, Nat.reduceAdd, Nat.reduceMul, Nat.reduceSub, Nat.reduceEqDiff, Nat.reduceLeDiff, Nat.reduceLT, Int.reduceNeg, ↓reduceIte, reduceCtorEq, Int.reduceEq, Int.reduceLT, Int.reduceLE, Int.reduceBEq, Int.reduceBNe, Int.reduceToNat, IntKind.bits, Int.reduceAdd, Int.reduceSub, Int.reduceMul, Int.reduceTDiv, Int.reduceTMod, DB, DB4, R7B, take_add, List.append_assoc, List.length_append, Nat.add_assoc, shrink_lit, ball_app, RG, LPB, lisFits, snap, snapCell, rowsOf, List.drop_zero, ta, tb, CW_some, scalar, scalar1, lockAll, lockAt, reduceCtorEq, extrV, List.all_cons, List.all_nil, mutIds, List.take_length, Nat.le_refl, k1, k2, k6, hi, g3, h32b, ← rtv_zer]
                    exact kh
                · obtain rfl : i = a.length := by omega
                  simp only [RB, pickV, eqbV, notV, negV, convV, faddrV, fldV, idxV, eqaggV, iaddrV, isnilV, nilckV, pnilV, cloV, extrV, slenV, minV, sidxV, abin, cmpInt, params, growLists, fillCells, newAt, rdPtr, wrPtr, AV.cells, asVal, lenOf, boundOf, rowsOf, argIds, freshIn, scalar1, setAll, AV.isData, AV.isYld, Nat.reduceAdd, Nat.reduceMul, Nat.reduceSub, Nat.reduceEqDiff, Nat.reduceLeDiff, Nat.reduceLT, Int.reduceNeg, ↓reduceIte, reduceCtorEq, Int.reduceEq, Int.reduceLT, Int.reduceLE, Int.reduceBEq, Int.reduceBNe, Int.reduceToNat, IntKind.bits, Int.reduceAdd, Int.reduceSub, Int.reduceMul, Int.reduceTDiv, Int.reduceTMod, DB, DB4, R7B, take_add, List.append_assoc, List.length_append, Nat.add_assoc, shrink_lit, ball_app, RG, LPB, lisFits, snap, snapCell, rowsOf, List.drop_zero, ta, tb, CW_some, scalar, scalar1, lockAll, lockAt, reduceCtorEq, extrV, List.all_cons, List.all_nil, mutIds, List.take_length, Nat.le_refl, show ¬ ((a.length : Nat) : Int) < (a.length : Int) by omega, f6]
                  exact ih
        | false =>
          simp only [Bool.false_eq_true, if_false]
          simp only [RB, pickV, eqbV, notV, negV, convV, faddrV, fldV, idxV, eqaggV, iaddrV, isnilV, nilckV, pnilV, cloV, extrV, slenV, minV, sidxV, abin, cmpInt, params, growLists, fillCells, newAt, rdPtr, wrPtr, AV.cells, asVal, lenOf, boundOf, rowsOf, argIds, freshIn, scalar1, setAll, AV.isData, AV.isYld, Nat.reduceAdd, Nat.reduceMul, Nat.reduceSub, Nat.reduceEqDiff, Nat.reduceLeDiff, Nat.reduceLT, Int.reduceNeg, ↓reduceIte, reduceCtorEq, Int.reduceEq, Int.reduceLT, Int.reduceLE, Int.reduceBEq, Int.reduceBNe, Int.reduceToNat, IntKind.bits, Int.reduceAdd, Int.reduceSub, Int.reduceMul, Int.reduceTDiv, Int.reduceTMod, DB, DB4, R7B, take_add, List.append_assoc, List.length_append, Nat.add_assoc, shrink_lit, ball_app, RG, LPB, f1, f2, f6, hk, g1, lisFits, snap, snapCell, rowsOf, List.drop_zero, ta, h31, bne_self_eq_false, CW_some, scalar, scalar1, lockAll, lockAt, reduceCtorEq, extrV, List.all_cons, List.all_nil, mutIds, List.take_length, Nat.le_refl]
          refine (W_rec2 (β := AV) (ι := {j : Nat // j ≤ r1.length}) (M := fun j => [(5, .ptr 4 0 0 0), (6, .ptr 5 0 0 0), (10, .ptr 8 0 0 0), (13, .ptr 13 0 0 0), (41, .lis 7 0 0 LL.length), (42, .int .i64 (LL.length : Int)), (43, .int .i64 (k : Int)), (56, .ro (trows r1)), (57, .int .i64 (r1.length : Int)), (58, .int .i64 (j.1 : Int))])
            (H := fun _ => ⟨[.box 0 46 [.ro (trows x)], .box 0 46 [.ro (trows y)], .lst 2 0 53 21 (trows a), .lst 2 0 53 21 (trows b), .box 0 46 [.lis 2 0 0 a.length], .box 0 46 [.lis 3 0 0 b.length], .lst 2 0 42 22 (vrows L), .lst 0 0 35 1 (wrows LL), .box 0 46 [.ro (trows r)], .lst 0 0 53 21 [], .box 0 35 [.ro (vrows LL[k])], .lst 0 0 42 22 [], .dead, .box 0 46 [.ro (trows r1)], .lst 0 0 53 21 []], []⟩) (r := fun _ => some (AV.bool true)) (μ := fun j => r1.length - j.1) (fun j => ?_) (fun j jh => ?_) ⟨0, Nat.zero_le _⟩ rfl rfl)
          · simp [LPB]
          · obtain ⟨j, hj0⟩ := j
            simp only at jh hj0 ⊢
            by_cases hj : j < r1.length
            · have j1 : (j : Int) < (r1.length : Int) := by omega
              have j2 : (0 : Int) ≤ (j : Int) := by omega
              have j6 : IntKind.i64.wrap ((j : Int) + 1) = ((j + 1 : Nat) : Int) := by rw [IntWalk.i64_in _ (by omega)] <;> omega
              have g2 := trows_get r1 hj
              have jh := jh ⟨j + 1, hj⟩ (by simp only; omega)
              simp only at jh
              have hxm := hin r1[j] (List.getElem_mem hj)
              generalize r1[j] = z at *
              have h32a := e32 a z (by omega)
              have h32b := e32 b z (by omega)
              rw [any_mem] at h32a h32b
              by_cases hza : z ∈ a
              · rw [decide_eq_true hza] at h32a
                simp only [RB, pickV, eqbV, notV, negV, convV, faddrV, fldV, idxV, eqaggV, iaddrV, isnilV, nilckV, pnilV, cloV, extrV, slenV, minV, sidxV, abin, cmpInt, params, growLists, fillCells, newAt, rdPtr, wrPtr, AV.cells, asVal, lenOf, boundOf, rowsOf, argIds, freshIn, scalar1, setAll, AV.isData, AV.isYld, Nat.reduceAdd, Nat.reduceMul, Nat.reduceSub, Nat.reduceEqDiff, Nat.reduceLeDiff, Nat.reduceLT, Int.reduceNeg, ↓reduceIte, reduceCtorEq, Int.reduceEq, Int.reduceLT, Int.reduceLE, Int.reduceBEq, Int.reduceBNe, Int.reduceToNat, IntKind.bits, Int.reduceAdd, Int.reduceSub, Int.reduceMul, Int.reduceTDiv, Int.reduceTMod, DB, DB4, R7B, take_add, List.append_assoc, List.length_append, Nat.add_assoc, shrink_lit, ball_app, RG, LPB, lisFits, snap, snapCell, rowsOf, List.drop_zero, ta, tb, CW_some, scalar, scalar1, lockAll, lockAt, reduceCtorEq, extrV, List.all_cons, List.all_nil, mutIds, List.take_length, Nat.le_refl, j1, j2, j6, g2, h32a, ← rtv_zer]
                exact jh
              · have hzb := hxm.resolve_left hza
                rw [decide_eq_false hza] at h32a
                rw [decide_eq_true hzb] at h32b
                simp only [RB, pickV, eqbV, notV, negV, convV, faddrV, fldV, idxV, eqaggV, iaddrV, isnilV, nilckV, pnilV, cloV, extrV, slenV, minV, sidxV, abin, cmpInt, params, growLists, fillCells, newAt, rdPtr, wrPtr, AV.cells, asVal, lenOf, boundOf, rowsOf, argIds, freshIn, scalar1, setAll, AV.isData, AV.isYld, Nat.reduceAdd, Nat.reduceMul, Nat.reduceSub, Nat.reduceEqDiff, Nat.reduceLeDiff, Nat.reduceLT, Int.reduceNeg, ↓reduceIte, reduceCtorEq, Int.reduceEq, Int.reduceLT, Int.reduceLE, Int.reduceBEq, Int.reduceBNe, Int.reduceToNat, IntKind.bits, Int.reduceAdd, Int.reduceSub, Int.reduceMul, Int.reduceTDiv, Int.reduceTMod, DB, DB4, R7B, take_add, List.append_assoc, List.length_append, Nat.add_assoc, shrink_lit, ball_app, RG, LPB, lisFits, snap, snapCell, rowsOf, List.drop_zero, ta, tb, CW_some, scalar, scalar1, lockAll, lockAt, reduceCtorEq, extrV, List.all_cons, List.all_nil, mutIds, List.take_length, Nat.le_refl, j1, j2, j6, g2, h32a, h32b, ← rtv_zer]
                exact jh
            · obtain rfl : j = r1.length := by omega
              simp only [RB, pickV, eqbV, notV, negV, convV, faddrV, fldV, idxV, eqaggV, iaddrV, isnilV, nilckV, pnilV, cloV, extrV, slenV, minV, sidxV, abin, cmpInt, params, growLists, fillCells, newAt, rdPtr, wrPtr, AV.cells, asVal, lenOf, boundOf, rowsOf, argIds, freshIn, scalar1, setAll, AV.isData, AV.isYld, Nat.reduceAdd, Nat.reduceMul, Nat.reduceSub, Nat.reduceEqDiff, Nat.reduceLeDiff, Nat.reduceLT, Int.reduceNeg, ↓reduceIte, reduceCtorEq, Int.reduceEq, Int.reduceLT, Int.reduceLE, Int.reduceBEq, Int.reduceBNe, Int.reduceToNat, IntKind.bits, Int.reduceAdd, Int.reduceSub, Int.reduceMul, Int.reduceTDiv, Int.reduceTMod, DB, DB4, R7B, take_add, List.append_assoc, List.length_append, Nat.add_assoc, shrink_lit, ball_app, RG, LPB, lisFits, snap, snapCell, rowsOf, List.drop_zero, ta, tb, CW_some, scalar, scalar1, lockAll, lockAt, reduceCtorEq, extrV, List.all_cons, List.all_nil, mutIds, List.take_length, Nat.le_refl, show ¬ ((r1.length : Nat) : Int) < (r1.length : Int) by omega]
              refine (W_rec2 (β := AV) (ι := {i : Nat // i ≤ a.length}) (M := fun i => [(5, .ptr 4 0 0 0), (6, .ptr 5 0 0 0), (10, .ptr 8 0 0 0), (13, .ptr 13 0 0 0), (41, .lis 7 0 0 LL.length), (42, .int .i64 (LL.length : Int)), (43, .int .i64 (k : Int)), (74, .lis 2 0 0 a.length), (75, .int .i64 (a.length : Int)), (76, .int .i64 (i.1 : Int))])
                (H := fun _ => ⟨[.box 0 46 [.ro (trows x)], .box 0 46 [.ro (trows y)], .lst 2 0 53 21 (trows a), .lst 2 0 53 21 (trows b), .box 0 46 [.lis 2 0 0 a.length], .box 0 46 [.lis 3 0 0 b.length], .lst 2 0 42 22 (vrows L), .lst 0 0 35 1 (wrows LL), .box 0 46 [.ro (trows r)], .lst 0 0 53 21 [], .box 0 35 [.ro (vrows LL[k])], .lst 0 0 42 22 [], .dead, .box 0 46 [.ro (trows r1)], .lst 0 0 53 21 []], []⟩) (r := fun _ => some (AV.bool true)) (μ := fun i => a.length - i.1) (fun i => ?_) (fun i kh => ?_) ⟨0, Nat.zero_le _⟩ rfl rfl)
              · simp [LPB]
              · obtain ⟨i, hi0⟩ := i
                simp only at kh hi0 ⊢
                by_cases hi : i < a.length
                · have k1 : (i : Int) < (a.length : Int) := by omega
                  have k2 : (0 : Int) ≤ (i : Int) := by omega
                  have k6 : IntKind.i64.wrap ((i : Int) + 1) = ((i + 1 : Nat) : Int) := by rw [IntWalk.i64_in _ (by omega)] <;> omega
                  have g3 := trows_get a hi
                  have kh := kh ⟨i + 1, hi⟩ (by simp only; omega)
                  simp only at kh
                  have hxm := hst a[i] (List.getElem_mem hi)
                  generalize a[i] = z at *
                  have h32b := e32 b z (by omega)
                  have h32r := e32 r1 z (by omega)
                  rw [any_mem] at h32b h32r
                  by_cases hzb : z ∈ b
                  · rw [decide_eq_true hzb] at h32b
                    rw [decide_eq_true (hxm hzb)] at h32r
                    simp only [RB, pickV, eqbV, notV, negV, convV, faddrV, fldV, idxV, eqaggV, iaddrV, isnilV, nilckV, pnilV, cloV, extrV, slenV, minV, sidxV, abin, cmpInt, params, growLists, fillCells, newAt, rdPtr, wrPtr, AV.cells, asVal, lenOf, boundOf, rowsOf, argIds, freshIn, scalar1, setAll, AV.isData, AV.isYld, Nat.reduceAdd, Nat.reduceMul, Nat.reduceSub, Nat.reduceEqDiff, Nat.reduceLeDiff, Nat.reduceLT, Int.reduceNeg, ↓reduceIte, reduceCtorEq, Int.reduceEq, Int.reduceLT, Int.reduceLE, Int.reduceBEq, Int.reduceBNe, Int.reduceToNat, IntKind.bits, Int.reduceAdd, Int.reduceSub, Int.reduceMul, Int.reduceTDiv, Int.reduceTMod, DB, DB4, R7B, take_add, List.append_assoc, List.length_append, Nat.add_assoc, shrink_lit, ball_app, RG, LPB, lisFits, snap, snapCell, rowsOf, List.drop_zero, ta, tb, CW_some, scalar, scalar1, lockAll, lockAt, reduceCtorEq, extrV, List.all_cons, List.all_nil, mutIds, List.take_length, Nat.le_refl, k1, k2, k6, hi, g3, h32b, h32r, ← rtv_zer]
                    exact kh
                  · rw [decide_eq_false hzb] at h32b
                    simp only [RB, pickV, eqbV, notV, negV, convV, faddrV, fldV, idxV, eqaggV, iaddrV, isnilV, nilckV, pnilV, cloV, extrV, slenV, minV, sidxV, abin, cmpInt, params, growLists, fillCells, newAt, rdPtr, wrPtr, AV.cells, asVal, lenOf, boundOf, rowsOf, argIds, freshIn, scalar1, setAll, AV.isData, AV.isYld, Nat.reduceAdd, Nat.reduceMul, Nat.reduceSub, Nat.reduceEqDiff, Nat.reduceLeDiff, Nat.reduceLT, Int.reduceNeg, ↓reduceIte, reduceCtorEq, Int.reduceEq, Int.reduceLT, Int.reduceLE, Int.reduceBEq, Int.reduceBNe, Int.reduceToNat, IntKind.bits, Int.reduceAdd, Int.reduceSub, Int.reduceMul, Int.reduceTDiv, Int.reduceTMod, DB, DB4, R7B, take_add, List.append_assoc, List.length_append, Nat.add_assoc, shrink_lit, ball_app, RG, LPB, lisFits, snap, snapCell, rowsOf, List.drop_zero, ta, tb, CW_some, scalar, scalar1, lockAll, lockAt, reduceCtorEq, extrV, List.all_cons, List.all_nil, mutIds, List.take_length, Nat.le_refl, k1, k2, k6, hi, g3, h32b, ← rtv_zer]
                    exact kh
                · obtain rfl : i = a.length := by omega
                  simp only [RB, pickV, eqbV, notV, negV, convV, faddrV, fldV, idxV, eqaggV, iaddrV, isnilV, nilckV, pnilV, cloV, extrV, slenV, minV, sidxV, abin, cmpInt, params, growLists, fillCells, newAt, rdPtr, wrPtr, AV.cells, asVal, lenOf, boundOf, rowsOf, argIds, freshIn, scalar1, setAll, AV.isData, AV.isYld, Nat.reduceAdd, Nat.reduceMul, Nat.reduceSub, Nat.reduceEqDiff, Nat.reduceLeDiff, Nat.reduceLT, Int.reduceNeg, ↓reduceIte, reduceCtorEq, Int.reduceEq, Int.reduceLT, Int.reduceLE, Int.reduceBEq, Int.reduceBNe, Int.reduceToNat, IntKind.bits, Int.reduceAdd, Int.reduceSub, Int.reduceMul, Int.reduceTDiv, Int.reduceTMod, DB, DB4, R7B, take_add, List.append_assoc, List.length_append, Nat.add_assoc, shrink_lit, ball_app, RG, LPB, lisFits, snap, snapCell, rowsOf, List.drop_zero, ta, tb, CW_some, scalar, scalar1, lockAll, lockAt, reduceCtorEq, extrV, List.all_cons, List.all_nil, mutIds, List.take_length, Nat.le_refl, show ¬ ((a.length : Nat) : Int) < (a.length : Int) by omega, f6]
                  exact ih
      · obtain rfl : k = LL.length := by omega
        rw [List.take_length, hz, lead_end hA hB] at hr
        obtain rfl : b = r := Option.some.inj hr
        have h23 := e23 b b (by omega)
        cases c with
        | true =>
          obtain rfl : b = a := hc rfl
          simp only [if_true]
          simp only [RB, pickV, eqbV, notV, negV, convV, faddrV, fldV, idxV, eqaggV, iaddrV, isnilV, nilckV, pnilV, cloV, extrV, slenV, minV, sidxV, abin, cmpInt, params, growLists, fillCells, newAt, rdPtr, wrPtr, AV.cells, asVal, lenOf, boundOf, rowsOf, argIds, freshIn, scalar1, setAll, AV.isData, AV.isYld, Nat.reduceAdd, Nat.reduceMul, Nat.reduceSub, Nat.reduceEqDiff, Nat.reduceLeDiff, Nat.reduceLT, Int.reduceNeg, ↓reduceIte, reduceCtorEq, Int.reduceEq, Int.reduceLT, Int.reduceLE, Int.reduceBEq, Int.reduceBNe, Int.reduceToNat, IntKind.bits, Int.reduceAdd, Int.reduceSub, Int.reduceMul, Int.reduceTDiv, Int.reduceTMod, DB, DB4, R7B, take_add, List.append_assoc, List.length_append, Nat.add_assoc, shrink_lit, ball_app, RG, LPB, lisFits, snap, snapCell, rowsOf, List.drop_zero, ta, tb, CW_some, scalar, scalar1, lockAll, lockAt, reduceCtorEq, extrV, List.all_cons, List.all_nil, mutIds, List.take_length, Nat.le_refl, show ¬ ((LL.length : Nat) : Int) < (LL.length : Int) by omega, h23]
          done
        | false =>
          simp only [Bool.false_eq_true, if_false]
          simp only [RB, pickV, eqbV, notV, negV, convV, faddrV, fldV, idxV, eqaggV, iaddrV, isnilV, nilckV, pnilV, cloV, extrV, slenV, minV, sidxV, abin, cmpInt, params, growLists, fillCells, newAt, rdPtr, wrPtr, AV.cells, asVal, lenOf, boundOf, rowsOf, argIds, freshIn, scalar1, setAll, AV.isData, AV.isYld, Nat.reduceAdd, Nat.reduceMul, Nat.reduceSub, Nat.reduceEqDiff, Nat.reduceLeDiff, Nat.reduceLT, Int.reduceNeg, ↓reduceIte, reduceCtorEq, Int.reduceEq, Int.reduceLT, Int.reduceLE, Int.reduceBEq, Int.reduceBNe, Int.reduceToNat, IntKind.bits, Int.reduceAdd, Int.reduceSub, Int.reduceMul, Int.reduceTDiv, Int.reduceTMod, DB, DB4, R7B, take_add, List.append_assoc, List.length_append, Nat.add_assoc, shrink_lit, ball_app, RG, LPB, lisFits, snap, snapCell, rowsOf, List.drop_zero, ta, tb, CW_some, scalar, scalar1, lockAll, lockAt, reduceCtorEq, extrV, List.all_cons, List.all_nil, mutIds, List.take_length, Nat.le_refl, show ¬ ((LL.length : Nat) : Int) < (LL.length : Int) by omega, h23]
          done
  · have z : (rightS a b 0 0 != 0) = true := by rw [bne_iff_ne]; exact h0
    rw [show allR a b = ([], rightS a b 0 0) by unfold allR; rw [if_neg h0]] at h20
    simp only [f8, ← rtv_zer, ← upv_zer, RB, pickV, eqbV, notV, negV, convV, faddrV, fldV, idxV, eqaggV, iaddrV, isnilV, nilckV, pnilV, cloV, extrV, slenV, minV, sidxV, abin, cmpInt, params, growLists, fillCells, newAt, rdPtr, wrPtr, AV.cells, asVal, lenOf, boundOf, rowsOf, argIds, freshIn, scalar1, setAll, AV.isData, AV.isYld, Nat.reduceAdd, Nat.reduceMul, Nat.reduceSub, Nat.reduceEqDiff, Nat.reduceLeDiff, Nat.reduceLT, Int.reduceNeg, ↓reduceIte, reduceCtorEq, Int.reduceEq, Int.reduceLT, Int.reduceLE, Int.reduceBEq, Int.reduceBNe, Int.reduceToNat, IntKind.bits, Int.reduceAdd, Int.reduceSub, Int.reduceMul, Int.reduceTDiv, Int.reduceTMod, DB, DB4, R7B, take_add, List.append_assoc, List.length_append, Nat.add_assoc, shrink_lit, ball_app, RG, LPB, e9, h15a, h15b, take_agg1, pairOk, AV.ids, List.contains_cons, List.contains_nil, Nat.reduceBEq, List.all_cons, List.all_nil, Bool.or_self, Bool.not_false, Bool.and_self, Bool.or_false, snap, snapCell, rowsOf, ta, tb, h20, z, CW_some, scalar, scalar1, lockAll, lockAt, reduceCtorEq, extrV, List.all_cons, List.all_nil, mutIds, List.take_length, Nat.le_refl]
end Go.Proofs.YtgajekpigkknnaaDoor.F
