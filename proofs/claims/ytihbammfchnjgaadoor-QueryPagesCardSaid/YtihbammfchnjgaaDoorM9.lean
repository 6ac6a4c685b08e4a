/- Part 9 of the proofs of these statements. No condition. -/
import Derived.Test.YtihbammfchnjgaaDoorM8
set_option linter.unusedVariables false
set_option linter.unusedSimpArgs false
/- QueryPages: the law. No condition. -/
set_option linter.unusedSimpArgs false
namespace Go.Proofs.YtihbammfchnjgaaDoor.D
open Go Go.Proofs.YtihbammfchnjgaaDoor.A
/-- A page that is asked. -/
structure QAsk where
  p : Pfx
  c : Cur
  n : Int
def zerQ : QAsk := ⟨zerP, zerC, 0⟩
def qav (a : QAsk) : List AV := pav a.p ++ (cav a.c ++ [.int .i64 a.n])
theorem qav_zer : qav zerQ = [.int .i64 0, .int .u8 0, .int .u8 0, .int .u8 0, .int .u8 0, .int .u8 0, .int .u8 0, .int .u8 0, .int .u8 0, .int .u8 0, .int .u8 0, .int .u8 0, .int .u8 0, .int .u8 0, .int .u8 0, .int .u8 0, .int .u8 0, .int .i64 0, .bool false, .bool false, .int .i64 0, .int .u8 0, .int .u8 0, .int .u8 0, .int .u8 0, .int .u8 0, .int .u8 0, .int .u8 0, .int .u8 0, .int .u8 0, .int .u8 0, .int .u8 0, .int .u8 0, .int .u8 0, .int .u8 0, .int .u8 0, .int .u8 0, .int .i64 0, .int .i64 0] := rfl
theorem qav_len (a : QAsk) : (qav a).length = 39 := by simp [qav, pav_len, cav_len]
theorem qav_data (a : QAsk) : dataL (qav a) = true := by simp only [qav, all_data, pav_data, cav_data, data_cons, data_nil, AV.isData]; rfl
theorem qav_below (m : Nat) (a : QAsk) : belowL m (qav a) = true := below_data m (qav_data a)
theorem qav_p (a : QAsk) : piece (qav a) 0 39 = some (qav a) := pc_all _ _ (qav_len a)
theorem qav_0 (a : QAsk) : piece (qav a) 0 18 = some (pav a.p) := by
  unfold piece; rw [if_pos (by rw [qav_len]; omega)]
  rw [qav, List.drop_zero, ← pav_len a.p, List.take_left]
theorem qav_1 (a : QAsk) : piece (qav a) 18 20 = some (cav a.c) := by
  unfold piece; rw [if_pos (by rw [qav_len]; omega)]
  rw [qav, ← pav_len a.p, List.drop_left, ← cav_len a.c, List.take_left]
theorem qav_2 (a : QAsk) : piece (qav a) 38 1 = some [.int .i64 a.n] := by
  unfold piece; rw [if_pos (by rw [qav_len]; omega)]
  rw [qav, ← List.append_assoc, show (38 : Nat) = (pav a.p ++ cav a.c).length by simp [pav_len, cav_len], List.drop_left]; rfl
theorem qav_o (l : List AV) (a : QAsk) (h : l.length = 39) : ovr l 0 (qav a) = some (qav a) := ovr_all _ _ (by rw [h, qav_len])
theorem fits_cur {cs : List Value} (h : J.Fits (.b :: .b :: .i .i64 :: (k8 ++ [.i .i64])) cs) : ∃ c : Cur, cs.map avOf = cav c := by
  match cs, h with
  | a :: b :: cs, ⟨⟨x, ha⟩, ⟨y, hb⟩, h2⟩ =>
    subst ha; subst hb
    obtain ⟨p, h3, _⟩ := fits_pfx h2
    exact ⟨⟨x, y, p⟩, by simp only [List.map_cons, h3, avOf, cav]⟩
theorem fits_ask {cs : List Value} (h : J.Fits ((.i .i64 :: (k8 ++ [.i .i64])) ++ ((.b :: .b :: .i .i64 :: (k8 ++ [.i .i64])) ++ [.i .i64])) cs) : ∃ a : QAsk, cs.map avOf = qav a ∧ True := by
  obtain ⟨a, b, rfl, h1, h2⟩ := fits_split _ _ cs h
  obtain ⟨c, d, rfl, h3, h4⟩ := fits_split _ _ b h2
  obtain ⟨p, h5, _⟩ := fits_pfx h1
  obtain ⟨q, h6⟩ := fits_cur h3
  obtain ⟨n, h7, _⟩ := fits_int h4
  exact ⟨⟨p, q, n⟩, by rw [List.map_append, List.map_append, h5, h6, h7]; rfl, trivial⟩
def qrows (l : List QAsk) : List (List AV) := l.map qav
theorem qrows_len (l : List QAsk) : (qrows l).length = l.length := by simp [qrows]
theorem qrows_get (l : List QAsk) {i : Nat} (h : i < l.length) : (qrows l)[i]? = some (qav l[i]) := by simp [qrows, h]
end Go.Proofs.YtihbammfchnjgaaDoor.D
namespace Go.Proofs.YtihbammfchnjgaaDoor.F
open Go Go.Proofs.YtihbammfchnjgaaDoor.A Go.Proofs.YtihbammfchnjgaaDoor.D
theorem page_filter (p : Pfx) (c : Cur) (l : List Rw) : ((l.filter fun r => decide (Holds p r.p)).filter fun r => !c.begun || decide (cmpP c.after r.p < 0)) = l.filter (pageOf p c) := by
  rw [List.filter_filter]
  congr 1
  funext r
  unfold pageOf
  rw [Bool.and_comm, cmp_anti c.after r.p]
  congr 2
  rw [decide_eq_decide]; omega
theorem e16 (l : List Rw) (hl : l.length ≤ 1000000) (p : Pfx) (c : Cur) (n : Nat) (h0 : 0 < n) (h1 : n ≤ 16) : LV E 16 [.agg [.ro (rrows l)], .agg (pav p), .agg (cav c), .int .i64 (n : Int)] =
    some (.tup [.ro (rrows ((l.filter (pageOf p c)).take n)), .agg (cav (curOf c (decide ((l.filter (pageOf p c)).length ≤ n)) ((l.filter (pageOf p c)).take n)))]) := by
  rw [LV_R (fn := f16) rfl rfl rfl]
  simp only [f16, ← rav_zer, ← cav_zer, RB, pickV, eqbV, notV, negV, convV, faddrV, fldV, idxV, eqaggV, iaddrV, isnilV, nilckV, cloV, extrV, slenV, minV, sidxV, abin, cmpInt, params, growLists, fillCells, newAt, rdPtr, wrPtr, AV.cells, asVal, lenOf, boundOf, rowsOf, argIds, freshIn, scalar1, setAll, AV.isData, AV.isYld, Nat.reduceAdd, Nat.reduceMul, Nat.reduceSub, Nat.reduceEqDiff, Nat.reduceLeDiff, Nat.reduceLT, Int.reduceNeg, ↓reduceIte, reduceCtorEq, Int.reduceEq, Int.reduceLT, Int.reduceLE, Int.reduceBEq, Int.reduceBNe, Int.reduceToNat, IntKind.bits, Int.reduceAdd, Int.reduceSub, Int.reduceMul, Int.reduceTDiv, Int.reduceTMod, DB, DB2, R7B, e29 l hl]
  rw [← page_filter]
  have hB : (l.filter fun r => decide (Holds p r.p)).length ≤ 1000000 := Nat.le_trans (List.length_filter_le _ _) hl
  generalize (l.filter fun r => decide (Holds p r.p)) = B at *
  refine (W_rec2 (β := AV) (ι := {s : Nat × List Rw // s.2.length ≤ s.1 ∧ s.1 ≤ B.length}) (M := fun s => [(3, .int .i64 (n : Int)), (6, .ptr 2 0 0 0), (9, .ptr 4 0 0 0), (10, .lis 5 s.1.2.length 0 s.1.2.length), (16, .ro (rrows B)), (17, .int .i64 (B.length : Int)), (18, .int .i64 (s.1.1 : Int))])
    (H := fun s => ⟨[.box 0 24 [.ro (rrows l)], .box 0 32 (pav p), .box 0 34 (cav c), .lst 0 0 59 19 [], .box 0 34 (cav zerC), .lst 0 s.1.2.length 59 19 (rrows s.1.2)], []⟩)
    (r := fun s => some (AV.tup [.ro (rrows ((s.1.2 ++ (B.drop s.1.1).filter fun r => !c.begun || decide (cmpP c.after r.p < 0)).take n)), .agg (cav (curOf c (decide ((s.1.2 ++ (B.drop s.1.1).filter fun r => !c.begun || decide (cmpP c.after r.p < 0)).length ≤ n)) ((s.1.2 ++ (B.drop s.1.1).filter fun r => !c.begun || decide (cmpP c.after r.p < 0)).take n)))])) (μ := fun s => B.length - s.1.1) (fun s => ?_) (fun s ih => ?_) ⟨(0, []), Nat.le_refl _, Nat.zero_le _⟩ rfl rfl)
  · simp [LPB, cav_below]
  · obtain ⟨⟨k, F⟩, hF, hkB⟩ := s
    simp only at ih hF hkB ⊢
    by_cases hk : k < B.length
    · have f1 : (k : Int) < (B.length : Int) := by omega
      have f2 : (0 : Int) ≤ (k : Int) := by omega
      have f6 : IntKind.i64.wrap ((k : Int) + 1) = ((k + 1 : Nat) : Int) := by rw [IntWalk.i64_in _ (by omega)] <;> omega
      have g1 := rrows_get B hk
      rw [row_drop B hk]
      generalize row B k = x at *
      have f7 : (F.length + 1) * 40 ≤ 140737488355328 := by omega
      have f8 : F.length ≤ 4611686018427387903 := by omega
      have f12 : headFits 19 [rav x] = true := rrows_fit [x]
      have ihT := ih ⟨(k + 1, F ++ [x]), by simp; omega, by omega⟩ (by simp only; omega)
      have ihF := ih ⟨(k + 1, F), by simp only; omega, by simp only; omega⟩ (by simp only; omega)
      simp only [List.length_append, List.length_cons, List.length_nil, Nat.zero_add, List.append_assoc, List.singleton_append] at ihT
      simp only at ihF
      obtain ⟨b, d, a⟩ := c
      cases b
      · simp only [RB, pickV, eqbV, notV, negV, convV, faddrV, fldV, idxV, eqaggV, iaddrV, isnilV, nilckV, cloV, extrV, slenV, minV, sidxV, abin, cmpInt, params, growLists, fillCells, newAt, rdPtr, wrPtr, AV.cells, asVal, lenOf, boundOf, rowsOf, argIds, freshIn, scalar1, setAll, AV.isData, AV.isYld, Nat.reduceAdd, Nat.reduceMul, Nat.reduceSub, Nat.reduceEqDiff, Nat.reduceLeDiff, Nat.reduceLT, Int.reduceNeg, ↓reduceIte, reduceCtorEq, Int.reduceEq, Int.reduceLT, Int.reduceLE, Int.reduceBEq, Int.reduceBNe, Int.reduceToNat, IntKind.bits, Int.reduceAdd, Int.reduceSub, Int.reduceMul, Int.reduceTDiv, Int.reduceTMod, DB, DB2, R7B, f1, f2, f6, g1, e49, CW_some, scalar, scalar1, lockAll, lockAt, reduceCtorEq, extrV, List.all_cons, List.all_nil, aop_buildSl, fillRows, asData, aappend, f7, f8, f12, List.take_length, List.filter_cons, Bool.not_false, Bool.true_or, List.length_append, List.length_cons, Nat.add_assoc]
        simp only [Bool.not_false, Bool.true_or, List.length_append, List.length_cons, Nat.add_assoc] at ihT
        exact ihT
      · by_cases hp : cmpP a x.p < 0
        · simp only [RB, pickV, eqbV, notV, negV, convV, faddrV, fldV, idxV, eqaggV, iaddrV, isnilV, nilckV, cloV, extrV, slenV, minV, sidxV, abin, cmpInt, params, growLists, fillCells, newAt, rdPtr, wrPtr, AV.cells, asVal, lenOf, boundOf, rowsOf, argIds, freshIn, scalar1, setAll, AV.isData, AV.isYld, Nat.reduceAdd, Nat.reduceMul, Nat.reduceSub, Nat.reduceEqDiff, Nat.reduceLeDiff, Nat.reduceLT, Int.reduceNeg, ↓reduceIte, reduceCtorEq, Int.reduceEq, Int.reduceLT, Int.reduceLE, Int.reduceBEq, Int.reduceBNe, Int.reduceToNat, IntKind.bits, Int.reduceAdd, Int.reduceSub, Int.reduceMul, Int.reduceTDiv, Int.reduceTMod, DB, DB2, R7B, f1, f2, f6, g1, e49, hp, CW_some, scalar, scalar1, lockAll, lockAt, reduceCtorEq, extrV, List.all_cons, List.all_nil, aop_buildSl, fillRows, asData, aappend, f7, f8, f12, List.take_length, List.filter_cons, Bool.not_true, Bool.false_or, decide_true, List.length_append, List.length_cons, Nat.add_assoc]
          simp only [Bool.not_true, Bool.false_or, List.length_append, List.length_cons, Nat.add_assoc] at ihT
          exact ihT
        · simp only [RB, pickV, eqbV, notV, negV, convV, faddrV, fldV, idxV, eqaggV, iaddrV, isnilV, nilckV, cloV, extrV, slenV, minV, sidxV, abin, cmpInt, params, growLists, fillCells, newAt, rdPtr, wrPtr, AV.cells, asVal, lenOf, boundOf, rowsOf, argIds, freshIn, scalar1, setAll, AV.isData, AV.isYld, Nat.reduceAdd, Nat.reduceMul, Nat.reduceSub, Nat.reduceEqDiff, Nat.reduceLeDiff, Nat.reduceLT, Int.reduceNeg, ↓reduceIte, reduceCtorEq, Int.reduceEq, Int.reduceLT, Int.reduceLE, Int.reduceBEq, Int.reduceBNe, Int.reduceToNat, IntKind.bits, Int.reduceAdd, Int.reduceSub, Int.reduceMul, Int.reduceTDiv, Int.reduceTMod, DB, DB2, R7B, f1, f2, f6, g1, e49, hp, CW_some, scalar, scalar1, lockAll, lockAt, reduceCtorEq, extrV, List.all_cons, List.all_nil, List.filter_cons, Bool.not_true, Bool.false_or, decide_false, List.length_append]
          simp only [Bool.not_true, Bool.false_or, List.length_append] at ihF
          exact ihF
    · have : k = B.length := by omega
      subst this
      simp only [List.drop_length, List.filter_nil, List.append_nil]
      have last : ∀ N, 0 < N → N ≤ F.length → ∃ r, (rrows F)[N - 1]? = some (rav r) ∧ ∀ d, curOf c d (F.take N) = ⟨true, d, r.p⟩ := fun N h0 h1 => by
        have h2 : N - 1 < F.length := by omega
        refine ⟨F[N - 1], by simp [rrows, h2], fun d => ?_⟩
        unfold curOf
        have : (F.take N).getLast? = some F[N - 1] := by
          rw [List.getLast?_eq_getElem?, List.length_take, Nat.min_eq_left h1, List.getElem?_take, if_pos (by omega), List.getElem?_eq_getElem h2]
        rw [this]
      have ar : (rrows F).take F.length = rrows F := by rw [← rrows_len F, List.take_length]
      by_cases hn : F.length ≤ n
      · have m1 : ¬ ((n : Int) < (F.length : Int)) := by omega
        have e1 : F.take n = F := List.take_of_length_le hn
        by_cases hF0 : F = []
        · subst hF0
          simp only [RB, pickV, eqbV, notV, negV, convV, faddrV, fldV, idxV, eqaggV, iaddrV, isnilV, nilckV, cloV, extrV, slenV, minV, sidxV, abin, cmpInt, params, growLists, fillCells, newAt, rdPtr, wrPtr, AV.cells, asVal, lenOf, boundOf, rowsOf, argIds, freshIn, scalar1, setAll, AV.isData, AV.isYld, Nat.reduceAdd, Nat.reduceMul, Nat.reduceSub, Nat.reduceEqDiff, Nat.reduceLeDiff, Nat.reduceLT, Int.reduceNeg, ↓reduceIte, reduceCtorEq, Int.reduceEq, Int.reduceLT, Int.reduceLE, Int.reduceBEq, Int.reduceBNe, Int.reduceToNat, IntKind.bits, Int.reduceAdd, Int.reduceSub, Int.reduceMul, Int.reduceTDiv, Int.reduceTMod, DB, DB2, R7B, show ¬ (B.length : Int) < (B.length : Int) by omega, aminmax, List.length_nil, Int.cast_ofNat_Int, show ¬ (n : Int) < 0 by omega, pairOk, AV.ids, List.contains_cons, List.contains_nil, Nat.reduceBEq, List.all_cons, List.all_nil, Bool.or_self, Bool.not_false, Bool.and_self, Bool.or_false, asliceL, lisFits, lockAt, Option.isSome_some, expCell, List.nodup_cons, List.nodup_nil, List.not_mem_nil, not_false_eq_true, not_true_eq_false, and_true, and_false, if_false, List.mem_cons, mutIds, Nat.zero_le, cav_below, rrows_nil, List.take_nil, curOf_nil]
          done
        · have hpos : 0 < F.length := List.length_pos_iff.2 hF0
          obtain ⟨r, g2, g3⟩ := last F.length hpos (Nat.le_refl _)
          rw [List.take_length] at g3
          have d1 : IntKind.i64.wrap ((F.length : Int) - 1) = ((F.length - 1 : Nat) : Int) := by rw [IntWalk.i64_in _ (by omega)] <;> omega
          simp only [RB, pickV, eqbV, notV, negV, convV, faddrV, fldV, idxV, eqaggV, iaddrV, isnilV, nilckV, cloV, extrV, slenV, minV, sidxV, abin, cmpInt, params, growLists, fillCells, newAt, rdPtr, wrPtr, AV.cells, asVal, lenOf, boundOf, rowsOf, argIds, freshIn, scalar1, setAll, AV.isData, AV.isYld, Nat.reduceAdd, Nat.reduceMul, Nat.reduceSub, Nat.reduceEqDiff, Nat.reduceLeDiff, Nat.reduceLT, Int.reduceNeg, ↓reduceIte, reduceCtorEq, Int.reduceEq, Int.reduceLT, Int.reduceLE, Int.reduceBEq, Int.reduceBNe, Int.reduceToNat, IntKind.bits, Int.reduceAdd, Int.reduceSub, Int.reduceMul, Int.reduceTDiv, Int.reduceTMod, DB, DB2, R7B, show ¬ (B.length : Int) < (B.length : Int) by omega, aminmax, m1, e1, hn, g2, g3, d1, show (0 : Int) < (F.length : Int) by omega, show F.length - 1 < F.length by omega, show (0 : Int) ≤ ((F.length - 1 : Nat) : Int) by omega, pairOk, AV.ids, List.contains_cons, List.contains_nil, Nat.reduceBEq, List.all_cons, List.all_nil, Bool.or_self, Bool.not_false, Bool.and_self, Bool.or_false, asliceL, lisFits, lockAt, Option.isSome_some, expCell, List.nodup_cons, List.nodup_nil, List.not_mem_nil, not_false_eq_true, not_true_eq_false, and_true, and_false, if_false, List.mem_cons, mutIds, cav_below, Nat.le_refl, ar]
          done
      · have m1 : ((n : Int) < (F.length : Int)) := by omega
        obtain ⟨r, g2, g3⟩ := last n h0 (by omega)
        have d1 : IntKind.i64.wrap ((n : Int) - 1) = ((n - 1 : Nat) : Int) := by rw [IntWalk.i64_in _ (by omega)] <;> omega
        have d2 : ((n : Int) == (F.length : Int)) = false := by rw [beq_eq_false_iff_ne]; omega
        simp only [RB, pickV, eqbV, notV, negV, convV, faddrV, fldV, idxV, eqaggV, iaddrV, isnilV, nilckV, cloV, extrV, slenV, minV, sidxV, abin, cmpInt, params, growLists, fillCells, newAt, rdPtr, wrPtr, AV.cells, asVal, lenOf, boundOf, rowsOf, argIds, freshIn, scalar1, setAll, AV.isData, AV.isYld, Nat.reduceAdd, Nat.reduceMul, Nat.reduceSub, Nat.reduceEqDiff, Nat.reduceLeDiff, Nat.reduceLT, Int.reduceNeg, ↓reduceIte, reduceCtorEq, Int.reduceEq, Int.reduceLT, Int.reduceLE, Int.reduceBEq, Int.reduceBNe, Int.reduceToNat, IntKind.bits, Int.reduceAdd, Int.reduceSub, Int.reduceMul, Int.reduceTDiv, Int.reduceTMod, DB, DB2, R7B, show ¬ (B.length : Int) < (B.length : Int) by omega, aminmax, m1, hn, g2, g3, d1, d2, show (0 : Int) < (n : Int) by omega, show n - 1 < F.length by omega, show n ≤ F.length by omega, show (0 : Int) ≤ ((n - 1 : Nat) : Int) by omega, pairOk, AV.ids, List.contains_cons, List.contains_nil, Nat.reduceBEq, List.all_cons, List.all_nil, Bool.or_self, Bool.not_false, Bool.and_self, Bool.or_false, asliceL, lisFits, lockAt, Option.isSome_some, expCell, List.nodup_cons, List.nodup_nil, List.not_mem_nil, not_false_eq_true, not_true_eq_false, and_true, and_false, if_false, List.mem_cons, mutIds, cav_below, Nat.le_refl, ar, rrows_take]
        done
set_option maxRecDepth 4000 in
theorem pagesLaw (x : List Rw) (l : List QAsk) (hl : l.length ≤ 9223372036854775807) : LV E 3 [.agg [.ro (rrows x)], .ro (qrows l)] = some (.bool true) := by
  have hT : (x.take 41).length ≤ 1000000 := by simp; omega
  rw [LV_R (fn := f3) rfl rfl rfl]
  simp only [f3, ← qav_zer]
  simp only [← cav_zer, RB, pickV, eqbV, notV, negV, convV, faddrV, fldV, idxV, eqaggV, iaddrV, isnilV, nilckV, cloV, extrV, slenV, minV, sidxV, abin, cmpInt, params, growLists, fillCells, newAt, rdPtr, wrPtr, AV.cells, asVal, lenOf, boundOf, rowsOf, argIds, freshIn, scalar1, setAll, AV.isData, AV.isYld, Nat.reduceAdd, Nat.reduceMul, Nat.reduceSub, Nat.reduceEqDiff, Nat.reduceLeDiff, Nat.reduceLT, Int.reduceNeg, ↓reduceIte, reduceCtorEq, Int.reduceEq, Int.reduceLT, Int.reduceLE, Int.reduceBEq, Int.reduceBNe, Int.reduceToNat, IntKind.bits, Int.reduceAdd, Int.reduceSub, Int.reduceMul, Int.reduceTDiv, Int.reduceTMod, DB, DB2, R7B, e11, e12, qrows_len, pairOk, AV.ids, List.contains_cons, List.contains_nil, Nat.reduceBEq, List.all_cons, List.all_nil, Bool.or_self, Bool.not_false, Bool.and_self, Bool.or_false, mutIds]
  generalize x.take 41 = T at *
  refine (W_rec2 (β := AV) (ι := {k : Nat // k ≤ 12}) (M := fun s => [(5, .ptr 1 0 0 0), (6, .ptr 2 0 0 0), (21, .ro (qrows l)), (22, .int .i64 (l.length : Int)), (23, .int .i64 (s.1 : Int))])
    (H := fun _ => ⟨[.box 0 24 [.ro (rrows x)], .box 0 24 [.ro (rrows T)], .box 0 24 [.ro (rrows T)]], []⟩)
    (r := fun _ => some (AV.bool true)) (μ := fun s => 13 - s.1) (fun s => ?_) (fun s ih => ?_) ⟨0, by omega⟩ rfl rfl)
  · simp [LPB]
  · obtain ⟨k, hk12⟩ := s
    simp only at ih ⊢
    by_cases hk : k < l.length
    · have f1 : (k : Int) < (l.length : Int) := by omega
      have f2 : (0 : Int) ≤ (k : Int) := by omega
      have g1 := qrows_get l hk
      generalize l[k] = q at g1
      by_cases h12 : k = 12
      · have f3 : ((k : Int) == 12) = true := by rw [beq_iff_eq]; omega
        simp only [RB, pickV, eqbV, notV, negV, convV, faddrV, fldV, idxV, eqaggV, iaddrV, isnilV, nilckV, cloV, extrV, slenV, minV, sidxV, abin, cmpInt, params, growLists, fillCells, newAt, rdPtr, wrPtr, AV.cells, asVal, lenOf, boundOf, rowsOf, argIds, freshIn, scalar1, setAll, AV.isData, AV.isYld, Nat.reduceAdd, Nat.reduceMul, Nat.reduceSub, Nat.reduceEqDiff, Nat.reduceLeDiff, Nat.reduceLT, Int.reduceNeg, ↓reduceIte, reduceCtorEq, Int.reduceEq, Int.reduceLT, Int.reduceLE, Int.reduceBEq, Int.reduceBNe, Int.reduceToNat, IntKind.bits, Int.reduceAdd, Int.reduceSub, Int.reduceMul, Int.reduceTDiv, Int.reduceTMod, DB, DB2, R7B, f1, f2, f3, g1, qav_len, qav_p, qav_0, qav_1, qav_2, qav_o]
      · have f3 : ((k : Int) == 12) = false := by rw [beq_eq_false_iff_ne]; omega
        have f6 : IntKind.i64.wrap ((k : Int) + 1) = ((k + 1 : Nat) : Int) := by rw [IntWalk.i64_in _ (by omega)] <;> omega
        have ih := ih ⟨k + 1, by omega⟩ (by simp only; omega)
        simp only at ih
        have hT4 : T.length ≤ 4611686018427387904 := by omega
        by_cases h1 : TabOk T
        · by_cases h2 : PfxOk q.p
          · by_cases h3 : GoOn q.c
            · by_cases h4 : q.n < 1
              · have hr : page T q.p q.c q.n = ⟨[], zerC, 2⟩ := by unfold page; rw [if_pos h1, if_pos h2, if_neg (by omega)]
                simp only [RB, pickV, eqbV, notV, negV, convV, faddrV, fldV, idxV, eqaggV, iaddrV, isnilV, nilckV, cloV, extrV, slenV, minV, sidxV, abin, cmpInt, params, growLists, fillCells, newAt, rdPtr, wrPtr, AV.cells, asVal, lenOf, boundOf, rowsOf, argIds, freshIn, scalar1, setAll, AV.isData, AV.isYld, Nat.reduceAdd, Nat.reduceMul, Nat.reduceSub, Nat.reduceEqDiff, Nat.reduceLeDiff, Nat.reduceLT, Int.reduceNeg, ↓reduceIte, reduceCtorEq, Int.reduceEq, Int.reduceLT, Int.reduceLE, Int.reduceBEq, Int.reduceBNe, Int.reduceToNat, IntKind.bits, Int.reduceAdd, Int.reduceSub, Int.reduceMul, Int.reduceTDiv, Int.reduceTMod, DB, DB2, R7B, f1, f2, f3, f6, g1, qav_len, qav_p, qav_0, qav_1, qav_2, qav_o, e13 T hT, hr, e14 T hT4, e15, h1, h2, h3, h4, bne_self_eq_false, rrows_nil, CW_some, scalar, scalar1, lockAll, lockAt, reduceCtorEq, extrV, List.all_cons, List.all_nil]
                exact ih
              · by_cases h5 : 16 < q.n
                · have hr : page T q.p q.c q.n = ⟨[], zerC, 2⟩ := by unfold page; rw [if_pos h1, if_pos h2, if_neg (by omega)]
                  simp only [RB, pickV, eqbV, notV, negV, convV, faddrV, fldV, idxV, eqaggV, iaddrV, isnilV, nilckV, cloV, extrV, slenV, minV, sidxV, abin, cmpInt, params, growLists, fillCells, newAt, rdPtr, wrPtr, AV.cells, asVal, lenOf, boundOf, rowsOf, argIds, freshIn, scalar1, setAll, AV.isData, AV.isYld, Nat.reduceAdd, Nat.reduceMul, Nat.reduceSub, Nat.reduceEqDiff, Nat.reduceLeDiff, Nat.reduceLT, Int.reduceNeg, ↓reduceIte, reduceCtorEq, Int.reduceEq, Int.reduceLT, Int.reduceLE, Int.reduceBEq, Int.reduceBNe, Int.reduceToNat, IntKind.bits, Int.reduceAdd, Int.reduceSub, Int.reduceMul, Int.reduceTDiv, Int.reduceTMod, DB, DB2, R7B, f1, f2, f3, f6, g1, qav_len, qav_p, qav_0, qav_1, qav_2, qav_o, e13 T hT, hr, e14 T hT4, e15, h1, h2, h3, h4, h5, bne_self_eq_false, rrows_nil, CW_some, scalar, scalar1, lockAll, lockAt, reduceCtorEq, extrV, List.all_cons, List.all_nil]
                  exact ih
                · obtain ⟨n, hn⟩ : ∃ n : Nat, q.n = (n : Int) := ⟨q.n.toNat, by omega⟩
                  have hr : page T q.p q.c q.n = ⟨(T.filter (pageOf q.p q.c)).take n, curOf q.c (decide ((T.filter (pageOf q.p q.c)).length ≤ n)) ((T.filter (pageOf q.p q.c)).take n), 0⟩ := by
                    unfold page; rw [if_pos h1, if_pos h2, if_pos ⟨h3, by omega, by omega⟩, hn]; rfl
                  have he := e16 T hT q.p q.c n (by omega) (by omega)
                  rw [← hn] at he
                  have hA : ((T.filter (pageOf q.p q.c)).take n).length ≤ 1000000 := Nat.le_trans (by rw [List.length_take]; exact Nat.min_le_right _ _) (Nat.le_trans (List.length_filter_le _ _) hT)
                  generalize ((T.filter (pageOf q.p q.c)).take n) = F at *
                  generalize curOf q.c _ F = c' at *
                  have hsp := r18 (ys := []) (bs := [.box 0 24 [.ro (rrows x)], .box 0 24 [.ro (rrows T)], .box 0 24 [.ro (rrows T)], .box 0 36 (qav q), .lst 0 0 59 19 (rrows F), .box 0 34 (cav c'), .box 0 34 (cav c')]) (pend := []) [(4, 0, F)]
                    (fun x hx => by simp only [List.mem_cons, List.not_mem_nil, or_false] at hx; subst hx; exact ⟨rfl, by assumption⟩) (by simp) (by simp) (by simp [LPB, cav_below, qav_below])
                  simp only [spoilB, List.map_cons, List.map_nil, List.foldl_cons, List.foldl_nil, List.set_cons_succ, List.set_cons_zero] at hsp
                  simp only [RB, pickV, eqbV, notV, negV, convV, faddrV, fldV, idxV, eqaggV, iaddrV, isnilV, nilckV, cloV, extrV, slenV, minV, sidxV, abin, cmpInt, params, growLists, fillCells, newAt, rdPtr, wrPtr, AV.cells, asVal, lenOf, boundOf, rowsOf, argIds, freshIn, scalar1, setAll, AV.isData, AV.isYld, Nat.reduceAdd, Nat.reduceMul, Nat.reduceSub, Nat.reduceEqDiff, Nat.reduceLeDiff, Nat.reduceLT, Int.reduceNeg, ↓reduceIte, reduceCtorEq, Int.reduceEq, Int.reduceLT, Int.reduceLE, Int.reduceBEq, Int.reduceBNe, Int.reduceToNat, IntKind.bits, Int.reduceAdd, Int.reduceSub, Int.reduceMul, Int.reduceTDiv, Int.reduceTMod, DB, DB2, R7B, f1, f2, f3, f6, g1, qav_len, qav_p, qav_0, qav_1, qav_2, qav_o, e13 T hT, hr, e14 T hT4, e15, he, h1, h2, h3, h4, h5, bne_self_eq_false, CW_some, scalar, scalar1, lockAll, lockAt, reduceCtorEq, extrV, List.all_cons, List.all_nil, List.take_length, e17 F F (by omega), e19 T T hT4, fillRf, hsp, shrink_lit, LPB, cav_below, qav_below]
                  exact ih
            · have hr : page T q.p q.c q.n = ⟨[], zerC, 2⟩ := by unfold page; rw [if_pos h1, if_pos h2, if_neg (fun h => h3 h.1)]
              simp only [RB, pickV, eqbV, notV, negV, convV, faddrV, fldV, idxV, eqaggV, iaddrV, isnilV, nilckV, cloV, extrV, slenV, minV, sidxV, abin, cmpInt, params, growLists, fillCells, newAt, rdPtr, wrPtr, AV.cells, asVal, lenOf, boundOf, rowsOf, argIds, freshIn, scalar1, setAll, AV.isData, AV.isYld, Nat.reduceAdd, Nat.reduceMul, Nat.reduceSub, Nat.reduceEqDiff, Nat.reduceLeDiff, Nat.reduceLT, Int.reduceNeg, ↓reduceIte, reduceCtorEq, Int.reduceEq, Int.reduceLT, Int.reduceLE, Int.reduceBEq, Int.reduceBNe, Int.reduceToNat, IntKind.bits, Int.reduceAdd, Int.reduceSub, Int.reduceMul, Int.reduceTDiv, Int.reduceTMod, DB, DB2, R7B, f1, f2, f3, f6, g1, qav_len, qav_p, qav_0, qav_1, qav_2, qav_o, e13 T hT, hr, e14 T hT4, e15, h1, h2, h3, bne_self_eq_false, rrows_nil, CW_some, scalar, scalar1, lockAll, lockAt, reduceCtorEq, extrV, List.all_cons, List.all_nil]
              exact ih
          · have hr : page T q.p q.c q.n = ⟨[], zerC, 151⟩ := by unfold page; rw [if_pos h1, if_neg h2]
            simp only [RB, pickV, eqbV, notV, negV, convV, faddrV, fldV, idxV, eqaggV, iaddrV, isnilV, nilckV, cloV, extrV, slenV, minV, sidxV, abin, cmpInt, params, growLists, fillCells, newAt, rdPtr, wrPtr, AV.cells, asVal, lenOf, boundOf, rowsOf, argIds, freshIn, scalar1, setAll, AV.isData, AV.isYld, Nat.reduceAdd, Nat.reduceMul, Nat.reduceSub, Nat.reduceEqDiff, Nat.reduceLeDiff, Nat.reduceLT, Int.reduceNeg, ↓reduceIte, reduceCtorEq, Int.reduceEq, Int.reduceLT, Int.reduceLE, Int.reduceBEq, Int.reduceBNe, Int.reduceToNat, IntKind.bits, Int.reduceAdd, Int.reduceSub, Int.reduceMul, Int.reduceTDiv, Int.reduceTMod, DB, DB2, R7B, f1, f2, f3, f6, g1, qav_len, qav_p, qav_0, qav_1, qav_2, qav_o, e13 T hT, hr, e14 T hT4, h1, h2, bne_self_eq_false, rrows_nil, CW_some, scalar, scalar1, lockAll, lockAt, reduceCtorEq, extrV, List.all_cons, List.all_nil]
            exact ih
        · have hr : page T q.p q.c q.n = ⟨[], zerC, 190⟩ := by unfold page; rw [if_neg h1]
          simp only [RB, pickV, eqbV, notV, negV, convV, faddrV, fldV, idxV, eqaggV, iaddrV, isnilV, nilckV, cloV, extrV, slenV, minV, sidxV, abin, cmpInt, params, growLists, fillCells, newAt, rdPtr, wrPtr, AV.cells, asVal, lenOf, boundOf, rowsOf, argIds, freshIn, scalar1, setAll, AV.isData, AV.isYld, Nat.reduceAdd, Nat.reduceMul, Nat.reduceSub, Nat.reduceEqDiff, Nat.reduceLeDiff, Nat.reduceLT, Int.reduceNeg, ↓reduceIte, reduceCtorEq, Int.reduceEq, Int.reduceLT, Int.reduceLE, Int.reduceBEq, Int.reduceBNe, Int.reduceToNat, IntKind.bits, Int.reduceAdd, Int.reduceSub, Int.reduceMul, Int.reduceTDiv, Int.reduceTMod, DB, DB2, R7B, f1, f2, f3, f6, g1, qav_len, qav_p, qav_0, qav_1, qav_2, qav_o, e13 T hT, hr, e14 T hT4, h1, bne_self_eq_false, rrows_nil, CW_some, scalar, scalar1, lockAll, lockAt, reduceCtorEq, extrV, List.all_cons, List.all_nil]
          exact ih
    · simp only [RB, pickV, eqbV, notV, negV, convV, faddrV, fldV, idxV, eqaggV, iaddrV, isnilV, nilckV, cloV, extrV, slenV, minV, sidxV, abin, cmpInt, params, growLists, fillCells, newAt, rdPtr, wrPtr, AV.cells, asVal, lenOf, boundOf, rowsOf, argIds, freshIn, scalar1, setAll, AV.isData, AV.isYld, Nat.reduceAdd, Nat.reduceMul, Nat.reduceSub, Nat.reduceEqDiff, Nat.reduceLeDiff, Nat.reduceLT, Int.reduceNeg, ↓reduceIte, reduceCtorEq, Int.reduceEq, Int.reduceLT, Int.reduceLE, Int.reduceBEq, Int.reduceBNe, Int.reduceToNat, IntKind.bits, Int.reduceAdd, Int.reduceSub, Int.reduceMul, Int.reduceTDiv, Int.reduceTMod, DB, DB2, R7B, show ¬ (k : Int) < (l.length : Int) by omega]
end Go.Proofs.YtihbammfchnjgaaDoor.F
