/- Part 9 of the proofs of these statements. No condition. -/
import Derived.Test.YtnpdaegfmfkghaaDoorM8
set_option linter.unusedVariables false
set_option linter.unusedSimpArgs false
/- The program's prefixes: what its functions tell. No condition. -/
set_option linter.unusedSimpArgs false
namespace Go.Proofs.YtnpdaegfmfkghaaDoor.F
open Go Go.Proofs.YtnpdaegfmfkghaaDoor.A Go.Proofs.YtnpdaegfmfkghaaDoor.D
theorem e_prefix_Width (v : Int) : LV E 20 [.int .i64 v] = some (.int .i64 (width v)) := by
  rw [LV_R (fn := f20) rfl rfl rfl]
  simp only [f20, RB, pickV, eqbV, notV, negV, convV, faddrV, fldV, idxV, eqaggV, iaddrV, isnilV, nilckV, pnilV, cloV, extrV, slenV, minV, sidxV, abin, cmpInt, params, growLists, fillCells, newAt, rdPtr, wrPtr, AV.cells, asVal, lenOf, boundOf, rowsOf, argIds, freshIn, scalar1, setAll, AV.isData, AV.isYld, Nat.reduceAdd, Nat.reduceMul, Nat.reduceSub, Nat.reduceEqDiff, Nat.reduceLeDiff, Nat.reduceLT, Int.reduceNeg, ↓reduceIte, reduceCtorEq, Int.reduceEq, Int.reduceLT, Int.reduceLE, Int.reduceBEq, Int.reduceBNe, Int.reduceToNat, IntKind.bits, Int.reduceAdd, Int.reduceSub, Int.reduceMul, Int.reduceTDiv, Int.reduceTMod]
  (repeat' (first
    | (refine Ci_cases (fun h => ?_) (fun h => ?_) <;> simp only [h, RB, pickV, eqbV, notV, negV, convV, faddrV, fldV, idxV, eqaggV, iaddrV, isnilV, nilckV, pnilV, cloV, extrV, slenV, minV, sidxV, abin, cmpInt, params, growLists, fillCells, newAt, rdPtr, wrPtr, AV.cells, asVal, lenOf, boundOf, rowsOf, argIds, freshIn, scalar1, setAll, AV.isData, AV.isYld, Nat.reduceAdd, Nat.reduceMul, Nat.reduceSub, Nat.reduceEqDiff, Nat.reduceLeDiff, Nat.reduceLT, Int.reduceNeg, ↓reduceIte, reduceCtorEq, Int.reduceEq, Int.reduceLT, Int.reduceLE, Int.reduceBEq, Int.reduceBNe, Int.reduceToNat, IntKind.bits, Int.reduceAdd, Int.reduceSub, Int.reduceMul, Int.reduceTDiv, Int.reduceTMod])
    | (refine Gi_cases (fun h => ?_) (fun h => ?_) <;> simp only [h, RB, pickV, eqbV, notV, negV, convV, faddrV, fldV, idxV, eqaggV, iaddrV, isnilV, nilckV, pnilV, cloV, extrV, slenV, minV, sidxV, abin, cmpInt, params, growLists, fillCells, newAt, rdPtr, wrPtr, AV.cells, asVal, lenOf, boundOf, rowsOf, argIds, freshIn, scalar1, setAll, AV.isData, AV.isYld, Nat.reduceAdd, Nat.reduceMul, Nat.reduceSub, Nat.reduceEqDiff, Nat.reduceLeDiff, Nat.reduceLT, Int.reduceNeg, ↓reduceIte, reduceCtorEq, Int.reduceEq, Int.reduceLT, Int.reduceLE, Int.reduceBEq, Int.reduceBNe, Int.reduceToNat, IntKind.bits, Int.reduceAdd, Int.reduceSub, Int.reduceMul, Int.reduceTDiv, Int.reduceTMod])
    | (refine Gj_cases (fun h => ?_) (fun h => ?_) <;> simp only [h, RB, pickV, eqbV, notV, negV, convV, faddrV, fldV, idxV, eqaggV, iaddrV, isnilV, nilckV, pnilV, cloV, extrV, slenV, minV, sidxV, abin, cmpInt, params, growLists, fillCells, newAt, rdPtr, wrPtr, AV.cells, asVal, lenOf, boundOf, rowsOf, argIds, freshIn, scalar1, setAll, AV.isData, AV.isYld, Nat.reduceAdd, Nat.reduceMul, Nat.reduceSub, Nat.reduceEqDiff, Nat.reduceLeDiff, Nat.reduceLT, Int.reduceNeg, ↓reduceIte, reduceCtorEq, Int.reduceEq, Int.reduceLT, Int.reduceLE, Int.reduceBEq, Int.reduceBNe, Int.reduceToNat, IntKind.bits, Int.reduceAdd, Int.reduceSub, Int.reduceMul, Int.reduceTDiv, Int.reduceTMod])))
  · simp only [decide_eq_true_eq] at h
    simp [width, show v ≠ 4 by omega, show v ≠ 6 by omega]
  · simp only [decide_eq_true_eq, decide_eq_false_iff_not] at *
    simp [width, show v ≠ 4 by omega, show v ≠ 6 by omega]
  · simp only [decide_eq_false_iff_not] at *
    have : v = 0 ∨ v = 1 ∨ v = 2 ∨ v = 3 ∨ v = 4 ∨ v = 5 ∨ v = 6 := by omega
    rcases this with rfl | rfl | rfl | rfl | rfl | rfl | rfl <;> simp [RB, pickV, eqbV, notV, negV, convV, faddrV, fldV, idxV, eqaggV, iaddrV, isnilV, nilckV, pnilV, cloV, extrV, slenV, minV, sidxV, abin, cmpInt, params, growLists, fillCells, newAt, rdPtr, wrPtr, AV.cells, asVal, lenOf, boundOf, rowsOf, argIds, freshIn, scalar1, setAll, AV.isData, AV.isYld, Nat.reduceAdd, Nat.reduceMul, Nat.reduceSub, Nat.reduceEqDiff, Nat.reduceLeDiff, Nat.reduceLT, Int.reduceNeg, ↓reduceIte, reduceCtorEq, Int.reduceEq, Int.reduceLT, Int.reduceLE, Int.reduceBEq, Int.reduceBNe, Int.reduceToNat, IntKind.bits, Int.reduceAdd, Int.reduceSub, Int.reduceMul, Int.reduceTDiv, Int.reduceTMod, piece, width]
theorem e_cmp_isNaN_int (v : Int) : LV E 85 [.int .i64 v] = some (.bool false) := by
  rw [LV_R (fn := f85) rfl rfl rfl]
  simp only [f85, RB, pickV, eqbV, notV, negV, convV, faddrV, fldV, idxV, eqaggV, iaddrV, isnilV, nilckV, pnilV, cloV, extrV, slenV, minV, sidxV, abin, cmpInt, params, growLists, fillCells, newAt, rdPtr, wrPtr, AV.cells, asVal, lenOf, boundOf, rowsOf, argIds, freshIn, scalar1, setAll, AV.isData, AV.isYld, Nat.reduceAdd, Nat.reduceMul, Nat.reduceSub, Nat.reduceEqDiff, Nat.reduceLeDiff, Nat.reduceLT, Int.reduceNeg, ↓reduceIte, reduceCtorEq, Int.reduceEq, Int.reduceLT, Int.reduceLE, Int.reduceBEq, Int.reduceBNe, Int.reduceToNat, IntKind.bits, Int.reduceAdd, Int.reduceSub, Int.reduceMul, Int.reduceTDiv, Int.reduceTMod, bne_self_eq_false]
theorem e_cmp_Compare_int (a b : Int) : LV E 71 [.int .i64 a, .int .i64 b] = some (.int .i64 (cmpI a b)) := by
  rw [LV_R (fn := f71) rfl rfl rfl]
  simp only [f71, RB, pickV, eqbV, notV, negV, convV, faddrV, fldV, idxV, eqaggV, iaddrV, isnilV, nilckV, pnilV, cloV, extrV, slenV, minV, sidxV, abin, cmpInt, params, growLists, fillCells, newAt, rdPtr, wrPtr, AV.cells, asVal, lenOf, boundOf, rowsOf, argIds, freshIn, scalar1, setAll, AV.isData, AV.isYld, Nat.reduceAdd, Nat.reduceMul, Nat.reduceSub, Nat.reduceEqDiff, Nat.reduceLeDiff, Nat.reduceLT, Int.reduceNeg, ↓reduceIte, reduceCtorEq, Int.reduceEq, Int.reduceLT, Int.reduceLE, Int.reduceBEq, Int.reduceBNe, Int.reduceToNat, IntKind.bits, Int.reduceAdd, Int.reduceSub, Int.reduceMul, Int.reduceTDiv, Int.reduceTMod, e_cmp_isNaN_int]
  (repeat' (first
    | (refine Ci_cases (fun h => ?_) (fun h => ?_) <;> simp only [h, RB, pickV, eqbV, notV, negV, convV, faddrV, fldV, idxV, eqaggV, iaddrV, isnilV, nilckV, pnilV, cloV, extrV, slenV, minV, sidxV, abin, cmpInt, params, growLists, fillCells, newAt, rdPtr, wrPtr, AV.cells, asVal, lenOf, boundOf, rowsOf, argIds, freshIn, scalar1, setAll, AV.isData, AV.isYld, Nat.reduceAdd, Nat.reduceMul, Nat.reduceSub, Nat.reduceEqDiff, Nat.reduceLeDiff, Nat.reduceLT, Int.reduceNeg, ↓reduceIte, reduceCtorEq, Int.reduceEq, Int.reduceLT, Int.reduceLE, Int.reduceBEq, Int.reduceBNe, Int.reduceToNat, IntKind.bits, Int.reduceAdd, Int.reduceSub, Int.reduceMul, Int.reduceTDiv, Int.reduceTMod])
    | (refine Gi_cases (fun h => ?_) (fun h => ?_) <;> simp only [h, RB, pickV, eqbV, notV, negV, convV, faddrV, fldV, idxV, eqaggV, iaddrV, isnilV, nilckV, pnilV, cloV, extrV, slenV, minV, sidxV, abin, cmpInt, params, growLists, fillCells, newAt, rdPtr, wrPtr, AV.cells, asVal, lenOf, boundOf, rowsOf, argIds, freshIn, scalar1, setAll, AV.isData, AV.isYld, Nat.reduceAdd, Nat.reduceMul, Nat.reduceSub, Nat.reduceEqDiff, Nat.reduceLeDiff, Nat.reduceLT, Int.reduceNeg, ↓reduceIte, reduceCtorEq, Int.reduceEq, Int.reduceLT, Int.reduceLE, Int.reduceBEq, Int.reduceBNe, Int.reduceToNat, IntKind.bits, Int.reduceAdd, Int.reduceSub, Int.reduceMul, Int.reduceTDiv, Int.reduceTMod])
    | (refine Gj_cases (fun h => ?_) (fun h => ?_) <;> simp only [h, RB, pickV, eqbV, notV, negV, convV, faddrV, fldV, idxV, eqaggV, iaddrV, isnilV, nilckV, pnilV, cloV, extrV, slenV, minV, sidxV, abin, cmpInt, params, growLists, fillCells, newAt, rdPtr, wrPtr, AV.cells, asVal, lenOf, boundOf, rowsOf, argIds, freshIn, scalar1, setAll, AV.isData, AV.isYld, Nat.reduceAdd, Nat.reduceMul, Nat.reduceSub, Nat.reduceEqDiff, Nat.reduceLeDiff, Nat.reduceLT, Int.reduceNeg, ↓reduceIte, reduceCtorEq, Int.reduceEq, Int.reduceLT, Int.reduceLE, Int.reduceBEq, Int.reduceBNe, Int.reduceToNat, IntKind.bits, Int.reduceAdd, Int.reduceSub, Int.reduceMul, Int.reduceTDiv, Int.reduceTMod])))
  all_goals (simp only [decide_eq_true_eq, decide_eq_false_iff_not] at *; simp only [cmpI, Option.some.injEq, AV.int.injEq, true_and]; (repeat split) <;> omega)
theorem e_prefix_clear (b : B16) (n : Nat) : LV E 63 [.agg (bav b), .int .i64 (n : Int)] = some (.bool (decide (Clr b n))) := by
  rw [LV_R (fn := f63) rfl rfl rfl]
  simp only [f63, RB, pickV, eqbV, notV, negV, convV, faddrV, fldV, idxV, eqaggV, iaddrV, isnilV, nilckV, pnilV, cloV, extrV, slenV, minV, sidxV, abin, cmpInt, params, growLists, fillCells, newAt, rdPtr, wrPtr, AV.cells, asVal, lenOf, boundOf, rowsOf, argIds, freshIn, scalar1, setAll, AV.isData, AV.isYld, Nat.reduceAdd, Nat.reduceMul, Nat.reduceSub, Nat.reduceEqDiff, Nat.reduceLeDiff, Nat.reduceLT, Int.reduceNeg, ↓reduceIte, reduceCtorEq, Int.reduceEq, Int.reduceLT, Int.reduceLE, Int.reduceBEq, Int.reduceBNe, Int.reduceToNat, IntKind.bits, Int.reduceAdd, Int.reduceSub, Int.reduceMul, Int.reduceTDiv, Int.reduceTMod, DB]
  refine W_rec (ι := Nat) (M := fun k => [(2, .ptr 0 0 0 0), (5, .int .i64 (k : Int))]) (H := fun _ => ⟨[.box 0 33 (bav b)], []⟩) (r := fun k => some (AV.bool (decide (Clr b k)))) (μ := fun k => 128 - k) (fun i => ?_) (fun k ih => ?_) n
  · simp [LPB]
  by_cases hk : k < 128
  · have f1 : (k : Int) < 128 := by omega
    have f2 : k / 8 < 16 := by omega
    have f3 : ((k / 8 : Nat) : Int) < 16 := by omega
    have f4 : (0 : Int) ≤ ((k / 8 : Nat) : Int) := by omega
    have f5 : (0 : Int) ≤ ((7 - k % 8 : Nat) : Int) := by omega
    have f6 : IntKind.i64.wrap ((k : Int) + 1) = ((k + 1 : Nat) : Int) := by rw [IntWalk.i64_in _ (by omega)] <;> omega
    cases hb : bit b k with
    | true =>
      simp only [RB, pickV, eqbV, notV, negV, convV, faddrV, fldV, idxV, eqaggV, iaddrV, isnilV, nilckV, pnilV, cloV, extrV, slenV, minV, sidxV, abin, cmpInt, params, growLists, fillCells, newAt, rdPtr, wrPtr, AV.cells, asVal, lenOf, boundOf, rowsOf, argIds, freshIn, scalar1, setAll, AV.isData, AV.isYld, Nat.reduceAdd, Nat.reduceMul, Nat.reduceSub, Nat.reduceEqDiff, Nat.reduceLeDiff, Nat.reduceLT, Int.reduceNeg, ↓reduceIte, reduceCtorEq, Int.reduceEq, Int.reduceLT, Int.reduceLE, Int.reduceBEq, Int.reduceBNe, Int.reduceToNat, IntKind.bits, Int.reduceAdd, Int.reduceSub, Int.reduceMul, Int.reduceTDiv, Int.reduceTMod, DB, f1, f3, f4, f5, quo8 k (by omega), rem8, sub7, bav_i b (k / 8) f2, shrN _ (7 - k % 8) (by omega), and1 _ (Nat.lt_of_le_of_lt (Nat.div_le_self _ _) (b.get_lt (k / 8))), bit_and, hb]
      rw [decide_eq_false fun hc => by rw [hc k (Nat.le_refl _) hk] at hb; cases hb]
    | false =>
      simp only [RB, pickV, eqbV, notV, negV, convV, faddrV, fldV, idxV, eqaggV, iaddrV, isnilV, nilckV, pnilV, cloV, extrV, slenV, minV, sidxV, abin, cmpInt, params, growLists, fillCells, newAt, rdPtr, wrPtr, AV.cells, asVal, lenOf, boundOf, rowsOf, argIds, freshIn, scalar1, setAll, AV.isData, AV.isYld, Nat.reduceAdd, Nat.reduceMul, Nat.reduceSub, Nat.reduceEqDiff, Nat.reduceLeDiff, Nat.reduceLT, Int.reduceNeg, ↓reduceIte, reduceCtorEq, Int.reduceEq, Int.reduceLT, Int.reduceLE, Int.reduceBEq, Int.reduceBNe, Int.reduceToNat, IntKind.bits, Int.reduceAdd, Int.reduceSub, Int.reduceMul, Int.reduceTDiv, Int.reduceTMod, DB, f1, f3, f4, f5, quo8 k (by omega), rem8, sub7, bav_i b (k / 8) f2, shrN _ (7 - k % 8) (by omega), and1 _ (Nat.lt_of_le_of_lt (Nat.div_le_self _ _) (b.get_lt (k / 8))), bit_and, hb, f6]
      rw [ih (k + 1) (by omega)]
      congr 2
      refine decide_eq_decide.2 ⟨fun h j h1 h2 => ?_, fun h j h1 h2 => h j (by omega) h2⟩
      rcases Nat.lt_or_eq_of_le h1 with h3 | rfl
      · exact h j h3 h2
      · exact hb
  · simp only [RB, pickV, eqbV, notV, negV, convV, faddrV, fldV, idxV, eqaggV, iaddrV, isnilV, nilckV, pnilV, cloV, extrV, slenV, minV, sidxV, abin, cmpInt, params, growLists, fillCells, newAt, rdPtr, wrPtr, AV.cells, asVal, lenOf, boundOf, rowsOf, argIds, freshIn, scalar1, setAll, AV.isData, AV.isYld, Nat.reduceAdd, Nat.reduceMul, Nat.reduceSub, Nat.reduceEqDiff, Nat.reduceLeDiff, Nat.reduceLT, Int.reduceNeg, ↓reduceIte, reduceCtorEq, Int.reduceEq, Int.reduceLT, Int.reduceLE, Int.reduceBEq, Int.reduceBNe, Int.reduceToNat, IntKind.bits, Int.reduceAdd, Int.reduceSub, Int.reduceMul, Int.reduceTDiv, Int.reduceTMod, DB, show ¬ (k : Int) < 128 by omega]
    rw [decide_eq_true (show Clr b k from fun j h1 h2 => absurd h2 (by omega))]
theorem e_prefix_CheckAddr (a : Adr) : LV E 39 [.agg (aav a)] = some (.int .i64 (if AddrOk a then 0 else 150)) := by
  rw [LV_R (fn := f39) rfl rfl rfl]
  simp only [f39, RB, pickV, eqbV, notV, negV, convV, faddrV, fldV, idxV, eqaggV, iaddrV, isnilV, nilckV, pnilV, cloV, extrV, slenV, minV, sidxV, abin, cmpInt, params, growLists, fillCells, newAt, rdPtr, wrPtr, AV.cells, asVal, lenOf, boundOf, rowsOf, argIds, freshIn, scalar1, setAll, AV.isData, AV.isYld, Nat.reduceAdd, Nat.reduceMul, Nat.reduceSub, Nat.reduceEqDiff, Nat.reduceLeDiff, Nat.reduceLT, Int.reduceNeg, ↓reduceIte, reduceCtorEq, Int.reduceEq, Int.reduceLT, Int.reduceLE, Int.reduceBEq, Int.reduceBNe, Int.reduceToNat, IntKind.bits, Int.reduceAdd, Int.reduceSub, Int.reduceMul, Int.reduceTDiv, Int.reduceTMod, DB, e_prefix_Width, e_prefix_clear]
  (repeat' (first
    | (refine Ci_cases (fun h => ?_) (fun h => ?_) <;> simp only [h, RB, pickV, eqbV, notV, negV, convV, faddrV, fldV, idxV, eqaggV, iaddrV, isnilV, nilckV, pnilV, cloV, extrV, slenV, minV, sidxV, abin, cmpInt, params, growLists, fillCells, newAt, rdPtr, wrPtr, AV.cells, asVal, lenOf, boundOf, rowsOf, argIds, freshIn, scalar1, setAll, AV.isData, AV.isYld, Nat.reduceAdd, Nat.reduceMul, Nat.reduceSub, Nat.reduceEqDiff, Nat.reduceLeDiff, Nat.reduceLT, Int.reduceNeg, ↓reduceIte, reduceCtorEq, Int.reduceEq, Int.reduceLT, Int.reduceLE, Int.reduceBEq, Int.reduceBNe, Int.reduceToNat, IntKind.bits, Int.reduceAdd, Int.reduceSub, Int.reduceMul, Int.reduceTDiv, Int.reduceTMod, DB, e_prefix_Width, e_prefix_clear])
    | (refine Gi_cases (fun h => ?_) (fun h => ?_) <;> simp only [h, RB, pickV, eqbV, notV, negV, convV, faddrV, fldV, idxV, eqaggV, iaddrV, isnilV, nilckV, pnilV, cloV, extrV, slenV, minV, sidxV, abin, cmpInt, params, growLists, fillCells, newAt, rdPtr, wrPtr, AV.cells, asVal, lenOf, boundOf, rowsOf, argIds, freshIn, scalar1, setAll, AV.isData, AV.isYld, Nat.reduceAdd, Nat.reduceMul, Nat.reduceSub, Nat.reduceEqDiff, Nat.reduceLeDiff, Nat.reduceLT, Int.reduceNeg, ↓reduceIte, reduceCtorEq, Int.reduceEq, Int.reduceLT, Int.reduceLE, Int.reduceBEq, Int.reduceBNe, Int.reduceToNat, IntKind.bits, Int.reduceAdd, Int.reduceSub, Int.reduceMul, Int.reduceTDiv, Int.reduceTMod, DB, e_prefix_Width, e_prefix_clear])
    | (refine Gj_cases (fun h => ?_) (fun h => ?_) <;> simp only [h, RB, pickV, eqbV, notV, negV, convV, faddrV, fldV, idxV, eqaggV, iaddrV, isnilV, nilckV, pnilV, cloV, extrV, slenV, minV, sidxV, abin, cmpInt, params, growLists, fillCells, newAt, rdPtr, wrPtr, AV.cells, asVal, lenOf, boundOf, rowsOf, argIds, freshIn, scalar1, setAll, AV.isData, AV.isYld, Nat.reduceAdd, Nat.reduceMul, Nat.reduceSub, Nat.reduceEqDiff, Nat.reduceLeDiff, Nat.reduceLT, Int.reduceNeg, ↓reduceIte, reduceCtorEq, Int.reduceEq, Int.reduceLT, Int.reduceLE, Int.reduceBEq, Int.reduceBNe, Int.reduceToNat, IntKind.bits, Int.reduceAdd, Int.reduceSub, Int.reduceMul, Int.reduceTDiv, Int.reduceTMod, DB, e_prefix_Width, e_prefix_clear])))
  all_goals simp_all [AddrOk]
theorem e_prefix_clear' (b : B16) {n : Int} (h : 0 ≤ n) : LV E 63 [.agg (bav b), .int .i64 n] = some (.bool (decide (Clr b n.toNat))) := by
  rw [show n = (n.toNat : Int) by omega, e_prefix_clear]; rfl
theorem e_prefix_Check (p : Pfx) : LV E 37 [.agg (pav p)] = some (.int .i64 (if PfxOk p then 0 else 151)) := by
  rw [LV_R (fn := f37) rfl rfl rfl]
  simp only [f37, RB, pickV, eqbV, notV, negV, convV, faddrV, fldV, idxV, eqaggV, iaddrV, isnilV, nilckV, pnilV, cloV, extrV, slenV, minV, sidxV, abin, cmpInt, params, growLists, fillCells, newAt, rdPtr, wrPtr, AV.cells, asVal, lenOf, boundOf, rowsOf, argIds, freshIn, scalar1, setAll, AV.isData, AV.isYld, Nat.reduceAdd, Nat.reduceMul, Nat.reduceSub, Nat.reduceEqDiff, Nat.reduceLeDiff, Nat.reduceLT, Int.reduceNeg, ↓reduceIte, reduceCtorEq, Int.reduceEq, Int.reduceLT, Int.reduceLE, Int.reduceBEq, Int.reduceBNe, Int.reduceToNat, IntKind.bits, Int.reduceAdd, Int.reduceSub, Int.reduceMul, Int.reduceTDiv, Int.reduceTMod, DB, e_prefix_CheckAddr]
  by_cases h1 : AddrOk p.adr
  · by_cases h2 : p.bits < 0
    · simp only [RB, pickV, eqbV, notV, negV, convV, faddrV, fldV, idxV, eqaggV, iaddrV, isnilV, nilckV, pnilV, cloV, extrV, slenV, minV, sidxV, abin, cmpInt, params, growLists, fillCells, newAt, rdPtr, wrPtr, AV.cells, asVal, lenOf, boundOf, rowsOf, argIds, freshIn, scalar1, setAll, AV.isData, AV.isYld, Nat.reduceAdd, Nat.reduceMul, Nat.reduceSub, Nat.reduceEqDiff, Nat.reduceLeDiff, Nat.reduceLT, Int.reduceNeg, ↓reduceIte, reduceCtorEq, Int.reduceEq, Int.reduceLT, Int.reduceLE, Int.reduceBEq, Int.reduceBNe, Int.reduceToNat, IntKind.bits, Int.reduceAdd, Int.reduceSub, Int.reduceMul, Int.reduceTDiv, Int.reduceTMod, DB, e_prefix_CheckAddr, e_prefix_Width, h1, h2]
      simp [PfxOk, h1, show ¬ 0 ≤ p.bits by omega]
    · by_cases h3 : (width p.adr.ver : Int) < p.bits
      · simp only [RB, pickV, eqbV, notV, negV, convV, faddrV, fldV, idxV, eqaggV, iaddrV, isnilV, nilckV, pnilV, cloV, extrV, slenV, minV, sidxV, abin, cmpInt, params, growLists, fillCells, newAt, rdPtr, wrPtr, AV.cells, asVal, lenOf, boundOf, rowsOf, argIds, freshIn, scalar1, setAll, AV.isData, AV.isYld, Nat.reduceAdd, Nat.reduceMul, Nat.reduceSub, Nat.reduceEqDiff, Nat.reduceLeDiff, Nat.reduceLT, Int.reduceNeg, ↓reduceIte, reduceCtorEq, Int.reduceEq, Int.reduceLT, Int.reduceLE, Int.reduceBEq, Int.reduceBNe, Int.reduceToNat, IntKind.bits, Int.reduceAdd, Int.reduceSub, Int.reduceMul, Int.reduceTDiv, Int.reduceTMod, DB, e_prefix_CheckAddr, e_prefix_Width, h1, h2, h3]
        simp [PfxOk, h1, show ¬ p.bits ≤ width p.adr.ver by omega]
      · simp only [RB, pickV, eqbV, notV, negV, convV, faddrV, fldV, idxV, eqaggV, iaddrV, isnilV, nilckV, pnilV, cloV, extrV, slenV, minV, sidxV, abin, cmpInt, params, growLists, fillCells, newAt, rdPtr, wrPtr, AV.cells, asVal, lenOf, boundOf, rowsOf, argIds, freshIn, scalar1, setAll, AV.isData, AV.isYld, Nat.reduceAdd, Nat.reduceMul, Nat.reduceSub, Nat.reduceEqDiff, Nat.reduceLeDiff, Nat.reduceLT, Int.reduceNeg, ↓reduceIte, reduceCtorEq, Int.reduceEq, Int.reduceLT, Int.reduceLE, Int.reduceBEq, Int.reduceBNe, Int.reduceToNat, IntKind.bits, Int.reduceAdd, Int.reduceSub, Int.reduceMul, Int.reduceTDiv, Int.reduceTMod, DB, e_prefix_CheckAddr, e_prefix_Width, h1, h2, h3, e_prefix_clear' _ (Int.not_lt.1 h2)]
        by_cases h4 : Clr p.adr.b p.bits.toNat
        · simp only [RB, pickV, eqbV, notV, negV, convV, faddrV, fldV, idxV, eqaggV, iaddrV, isnilV, nilckV, pnilV, cloV, extrV, slenV, minV, sidxV, abin, cmpInt, params, growLists, fillCells, newAt, rdPtr, wrPtr, AV.cells, asVal, lenOf, boundOf, rowsOf, argIds, freshIn, scalar1, setAll, AV.isData, AV.isYld, Nat.reduceAdd, Nat.reduceMul, Nat.reduceSub, Nat.reduceEqDiff, Nat.reduceLeDiff, Nat.reduceLT, Int.reduceNeg, ↓reduceIte, reduceCtorEq, Int.reduceEq, Int.reduceLT, Int.reduceLE, Int.reduceBEq, Int.reduceBNe, Int.reduceToNat, IntKind.bits, Int.reduceAdd, Int.reduceSub, Int.reduceMul, Int.reduceTDiv, Int.reduceTMod, h4]
          simp [PfxOk, h1, h4, Int.not_lt.1 h2, Int.not_lt.1 h3]
        · simp only [RB, pickV, eqbV, notV, negV, convV, faddrV, fldV, idxV, eqaggV, iaddrV, isnilV, nilckV, pnilV, cloV, extrV, slenV, minV, sidxV, abin, cmpInt, params, growLists, fillCells, newAt, rdPtr, wrPtr, AV.cells, asVal, lenOf, boundOf, rowsOf, argIds, freshIn, scalar1, setAll, AV.isData, AV.isYld, Nat.reduceAdd, Nat.reduceMul, Nat.reduceSub, Nat.reduceEqDiff, Nat.reduceLeDiff, Nat.reduceLT, Int.reduceNeg, ↓reduceIte, reduceCtorEq, Int.reduceEq, Int.reduceLT, Int.reduceLE, Int.reduceBEq, Int.reduceBNe, Int.reduceToNat, IntKind.bits, Int.reduceAdd, Int.reduceSub, Int.reduceMul, Int.reduceTDiv, Int.reduceTMod, h4]
          simp [PfxOk, h1, h4]
  · simp only [RB, pickV, eqbV, notV, negV, convV, faddrV, fldV, idxV, eqaggV, iaddrV, isnilV, nilckV, pnilV, cloV, extrV, slenV, minV, sidxV, abin, cmpInt, params, growLists, fillCells, newAt, rdPtr, wrPtr, AV.cells, asVal, lenOf, boundOf, rowsOf, argIds, freshIn, scalar1, setAll, AV.isData, AV.isYld, Nat.reduceAdd, Nat.reduceMul, Nat.reduceSub, Nat.reduceEqDiff, Nat.reduceLeDiff, Nat.reduceLT, Int.reduceNeg, ↓reduceIte, reduceCtorEq, Int.reduceEq, Int.reduceLT, Int.reduceLE, Int.reduceBEq, Int.reduceBNe, Int.reduceToNat, IntKind.bits, Int.reduceAdd, Int.reduceSub, Int.reduceMul, Int.reduceTDiv, Int.reduceTMod, DB, e_prefix_CheckAddr, h1]
    simp [PfxOk, h1]
theorem e_prefix_cut (b : B16) (n : Nat) (hn : n ≤ 9223372036854775807) : LV E 40 [.agg (bav b), .int .i64 (n : Int)] = some (.agg (bav (cut b n))) := by
  rw [LV_R (fn := f40) rfl rfl rfl]
  simp only [f40, RB, pickV, eqbV, notV, negV, convV, faddrV, fldV, idxV, eqaggV, iaddrV, isnilV, nilckV, pnilV, cloV, extrV, slenV, minV, sidxV, abin, cmpInt, params, growLists, fillCells, newAt, rdPtr, wrPtr, AV.cells, asVal, lenOf, boundOf, rowsOf, argIds, freshIn, scalar1, setAll, AV.isData, AV.isYld, Nat.reduceAdd, Nat.reduceMul, Nat.reduceSub, Nat.reduceEqDiff, Nat.reduceLeDiff, Nat.reduceLT, Int.reduceNeg, ↓reduceIte, reduceCtorEq, Int.reduceEq, Int.reduceLT, Int.reduceLE, Int.reduceBEq, Int.reduceBNe, Int.reduceToNat, IntKind.bits, Int.reduceAdd, Int.reduceSub, Int.reduceMul, Int.reduceTDiv, Int.reduceTMod, DB]
  rw [← cutTo_0 b n]
  refine (W_rec (ι := {k : Nat // k ≤ 16}) (M := fun k => [(1, .int .i64 (n : Int)), (2, .ptr 0 0 0 0), (4, .ptr 1 0 0 0), (7, .int .i64 (k.1 : Int))])
    (H := fun k => ⟨[.box 0 33 (bav (cutTo b n k.1)), .box 0 33 [.int .u8 0, .int .u8 0, .int .u8 0, .int .u8 0, .int .u8 0, .int .u8 0, .int .u8 0, .int .u8 0, .int .u8 0, .int .u8 0, .int .u8 0, .int .u8 0, .int .u8 0, .int .u8 0, .int .u8 0, .int .u8 0]], []⟩)
    (r := fun _ => some (AV.agg (bav (cut b n)))) (μ := fun k => 16 - k.1) (fun i => ?_) (fun k ih => ?_) ⟨0, by omega⟩).trans (by rw [cutTo_0])
  · simp [LPB]
  obtain ⟨k, hk16⟩ := k
  by_cases hk : k < 16
  · have ih := ih ⟨k + 1, by omega⟩ (by simp only; omega)
    simp only at ih
    have f1 : (k : Int) < 16 := by omega
    have f2 : IntKind.i64.wrap (8 * (k : Int)) = ((8 * k : Nat) : Int) := by rw [IntWalk.i64_in _ (by omega)] <;> omega
    have f3 : IntKind.i64.wrap ((n : Int) - ((8 * k : Nat) : Int)) = (n : Int) - ((8 * k : Nat) : Int) := IntWalk.i64_in _ (by omega)
    have f4 : (0 : Int) ≤ (k : Int) := by omega
    have f6 : IntKind.i64.wrap ((k : Int) + 1) = ((k + 1 : Nat) : Int) := by rw [IntWalk.i64_in _ (by omega)] <;> omega
    have g := cutTo_get b n k hk
    rw [if_neg (Nat.lt_irrefl k)] at g
    by_cases h1 : n ≤ 8 * k
    · simp only [RB, pickV, eqbV, notV, negV, convV, faddrV, fldV, idxV, eqaggV, iaddrV, isnilV, nilckV, pnilV, cloV, extrV, slenV, minV, sidxV, abin, cmpInt, params, growLists, fillCells, newAt, rdPtr, wrPtr, AV.cells, asVal, lenOf, boundOf, rowsOf, argIds, freshIn, scalar1, setAll, AV.isData, AV.isYld, Nat.reduceAdd, Nat.reduceMul, Nat.reduceSub, Nat.reduceEqDiff, Nat.reduceLeDiff, Nat.reduceLT, Int.reduceNeg, ↓reduceIte, reduceCtorEq, Int.reduceEq, Int.reduceLT, Int.reduceLE, Int.reduceBEq, Int.reduceBNe, Int.reduceToNat, IntKind.bits, Int.reduceAdd, Int.reduceSub, Int.reduceMul, Int.reduceTDiv, Int.reduceTMod, DB, f1, f2, f3, f4, f6, show (n : Int) - ((8 * k : Nat) : Int) ≤ 0 by omega, bav_put0 _ hk]
      rw [cutTo_put b n k hk (by unfold cutN; rw [show 8 - (n - 8 * k) = 8 by omega, Nat.div_eq_of_lt (b.get_lt k), Nat.zero_mul])]
      exact ih
    · by_cases h2 : n < 8 * k + 8
      · have f7 : IntKind.i64.wrap (8 - ((n : Int) - ((8 * k : Nat) : Int))) = ((8 - (n - 8 * k) : Nat) : Int) := by rw [IntWalk.i64_in _ (by omega)] <;> omega
        have f8 : (0 : Int) ≤ ((8 - (n - 8 * k) : Nat) : Int) := by omega
        have f9 : b.get k / 2 ^ (8 - (n - 8 * k)) * 2 ^ (8 - (n - 8 * k)) < 256 := Nat.lt_of_le_of_lt (cutN_le _ _) (b.get_lt k)
        simp only [RB, pickV, eqbV, notV, negV, convV, faddrV, fldV, idxV, eqaggV, iaddrV, isnilV, nilckV, pnilV, cloV, extrV, slenV, minV, sidxV, abin, cmpInt, params, growLists, fillCells, newAt, rdPtr, wrPtr, AV.cells, asVal, lenOf, boundOf, rowsOf, argIds, freshIn, scalar1, setAll, AV.isData, AV.isYld, Nat.reduceAdd, Nat.reduceMul, Nat.reduceSub, Nat.reduceEqDiff, Nat.reduceLeDiff, Nat.reduceLT, Int.reduceNeg, ↓reduceIte, reduceCtorEq, Int.reduceEq, Int.reduceLT, Int.reduceLE, Int.reduceBEq, Int.reduceBNe, Int.reduceToNat, IntKind.bits, Int.reduceAdd, Int.reduceSub, Int.reduceMul, Int.reduceTDiv, Int.reduceTMod, DB, f1, f2, f3, f4, f6, f7, f8, show ¬ (n : Int) - ((8 * k : Nat) : Int) ≤ 0 by omega, show (n : Int) - ((8 * k : Nat) : Int) < 8 by omega, bav_i _ k hk, g, and255 _ (8 - (n - 8 * k)) (b.get_lt k) (by omega), bav_put _ hk f9]
        rw [cutTo_put b n k hk (show b.get k / 2 ^ (8 - (n - 8 * k)) * 2 ^ (8 - (n - 8 * k)) = cutN (b.get k) (n - 8 * k) from rfl)]
        exact ih
      · simp only [RB, pickV, eqbV, notV, negV, convV, faddrV, fldV, idxV, eqaggV, iaddrV, isnilV, nilckV, pnilV, cloV, extrV, slenV, minV, sidxV, abin, cmpInt, params, growLists, fillCells, newAt, rdPtr, wrPtr, AV.cells, asVal, lenOf, boundOf, rowsOf, argIds, freshIn, scalar1, setAll, AV.isData, AV.isYld, Nat.reduceAdd, Nat.reduceMul, Nat.reduceSub, Nat.reduceEqDiff, Nat.reduceLeDiff, Nat.reduceLT, Int.reduceNeg, ↓reduceIte, reduceCtorEq, Int.reduceEq, Int.reduceLT, Int.reduceLE, Int.reduceBEq, Int.reduceBNe, Int.reduceToNat, IntKind.bits, Int.reduceAdd, Int.reduceSub, Int.reduceMul, Int.reduceTDiv, Int.reduceTMod, DB, f1, f2, f3, f4, f6, show ¬ (n : Int) - ((8 * k : Nat) : Int) ≤ 0 by omega, show ¬ (n : Int) - ((8 * k : Nat) : Int) < 8 by omega]
        rw [cutTo_same b n k (by unfold cutN; rw [show 8 - (n - 8 * k) = 0 by omega]; simp)]
        exact ih
  · have : k = 16 := by omega
    subst this
    simp only [RB, pickV, eqbV, notV, negV, convV, faddrV, fldV, idxV, eqaggV, iaddrV, isnilV, nilckV, pnilV, cloV, extrV, slenV, minV, sidxV, abin, cmpInt, params, growLists, fillCells, newAt, rdPtr, wrPtr, AV.cells, asVal, lenOf, boundOf, rowsOf, argIds, freshIn, scalar1, setAll, AV.isData, AV.isYld, Nat.reduceAdd, Nat.reduceMul, Nat.reduceSub, Nat.reduceEqDiff, Nat.reduceLeDiff, Nat.reduceLT, Int.reduceNeg, ↓reduceIte, reduceCtorEq, Int.reduceEq, Int.reduceLT, Int.reduceLE, Int.reduceBEq, Int.reduceBNe, Int.reduceToNat, IntKind.bits, Int.reduceAdd, Int.reduceSub, Int.reduceMul, Int.reduceTDiv, Int.reduceTMod, DB, show ¬ ((16 : Nat) : Int) < 16 by omega, cutTo_16]
theorem e_prefix_cut' (b : B16) {n : Int} (h : 0 ≤ n) (h' : n ≤ 128) : LV E 40 [.agg (bav b), .int .i64 n] = some (.agg (bav (cut b n.toNat))) := by
  rw [show n = (n.toNat : Int) by omega, e_prefix_cut _ _ (by omega)]; rfl
theorem e_prefix_Has (p : Pfx) (a : Adr) : LV E 38 [.agg (pav p), .agg (aav a)] = some (.bool (decide (Has p a))) := by
  rw [LV_R (fn := f38) rfl rfl rfl]
  simp only [f38, RB, pickV, eqbV, notV, negV, convV, faddrV, fldV, idxV, eqaggV, iaddrV, isnilV, nilckV, pnilV, cloV, extrV, slenV, minV, sidxV, abin, cmpInt, params, growLists, fillCells, newAt, rdPtr, wrPtr, AV.cells, asVal, lenOf, boundOf, rowsOf, argIds, freshIn, scalar1, setAll, AV.isData, AV.isYld, Nat.reduceAdd, Nat.reduceMul, Nat.reduceSub, Nat.reduceEqDiff, Nat.reduceLeDiff, Nat.reduceLT, Int.reduceNeg, ↓reduceIte, reduceCtorEq, Int.reduceEq, Int.reduceLT, Int.reduceLE, Int.reduceBEq, Int.reduceBNe, Int.reduceToNat, IntKind.bits, Int.reduceAdd, Int.reduceSub, Int.reduceMul, Int.reduceTDiv, Int.reduceTMod, DB, e_prefix_Check]
  by_cases h1 : PfxOk p
  · by_cases h2 : AddrOk a
    · by_cases h3 : p.adr.ver = a.ver
      · have h4 : p.bits ≤ 128 := by have := h1.2.2.1; have := width_le p.adr.ver; omega
        simp only [RB, pickV, eqbV, notV, negV, convV, faddrV, fldV, idxV, eqaggV, iaddrV, isnilV, nilckV, pnilV, cloV, extrV, slenV, minV, sidxV, abin, cmpInt, params, growLists, fillCells, newAt, rdPtr, wrPtr, AV.cells, asVal, lenOf, boundOf, rowsOf, argIds, freshIn, scalar1, setAll, AV.isData, AV.isYld, Nat.reduceAdd, Nat.reduceMul, Nat.reduceSub, Nat.reduceEqDiff, Nat.reduceLeDiff, Nat.reduceLT, Int.reduceNeg, ↓reduceIte, reduceCtorEq, Int.reduceEq, Int.reduceLT, Int.reduceLE, Int.reduceBEq, Int.reduceBNe, Int.reduceToNat, IntKind.bits, Int.reduceAdd, Int.reduceSub, Int.reduceMul, Int.reduceTDiv, Int.reduceTMod, DB, e_prefix_Check, e_prefix_CheckAddr, h1, h2, h3, bne_self_eq_false, e_prefix_cut' _ h1.2.1 h4]
        simp [Has, h1, h2, h3]
      · simp only [RB, pickV, eqbV, notV, negV, convV, faddrV, fldV, idxV, eqaggV, iaddrV, isnilV, nilckV, pnilV, cloV, extrV, slenV, minV, sidxV, abin, cmpInt, params, growLists, fillCells, newAt, rdPtr, wrPtr, AV.cells, asVal, lenOf, boundOf, rowsOf, argIds, freshIn, scalar1, setAll, AV.isData, AV.isYld, Nat.reduceAdd, Nat.reduceMul, Nat.reduceSub, Nat.reduceEqDiff, Nat.reduceLeDiff, Nat.reduceLT, Int.reduceNeg, ↓reduceIte, reduceCtorEq, Int.reduceEq, Int.reduceLT, Int.reduceLE, Int.reduceBEq, Int.reduceBNe, Int.reduceToNat, IntKind.bits, Int.reduceAdd, Int.reduceSub, Int.reduceMul, Int.reduceTDiv, Int.reduceTMod, DB, e_prefix_Check, e_prefix_CheckAddr, h1, h2, bne_iff_ne.2 h3]
        simp [Has, h1, h2, h3]
    · simp only [RB, pickV, eqbV, notV, negV, convV, faddrV, fldV, idxV, eqaggV, iaddrV, isnilV, nilckV, pnilV, cloV, extrV, slenV, minV, sidxV, abin, cmpInt, params, growLists, fillCells, newAt, rdPtr, wrPtr, AV.cells, asVal, lenOf, boundOf, rowsOf, argIds, freshIn, scalar1, setAll, AV.isData, AV.isYld, Nat.reduceAdd, Nat.reduceMul, Nat.reduceSub, Nat.reduceEqDiff, Nat.reduceLeDiff, Nat.reduceLT, Int.reduceNeg, ↓reduceIte, reduceCtorEq, Int.reduceEq, Int.reduceLT, Int.reduceLE, Int.reduceBEq, Int.reduceBNe, Int.reduceToNat, IntKind.bits, Int.reduceAdd, Int.reduceSub, Int.reduceMul, Int.reduceTDiv, Int.reduceTMod, DB, e_prefix_Check, e_prefix_CheckAddr, h1, h2]
      simp [Has, h1, h2]
  · simp only [RB, pickV, eqbV, notV, negV, convV, faddrV, fldV, idxV, eqaggV, iaddrV, isnilV, nilckV, pnilV, cloV, extrV, slenV, minV, sidxV, abin, cmpInt, params, growLists, fillCells, newAt, rdPtr, wrPtr, AV.cells, asVal, lenOf, boundOf, rowsOf, argIds, freshIn, scalar1, setAll, AV.isData, AV.isYld, Nat.reduceAdd, Nat.reduceMul, Nat.reduceSub, Nat.reduceEqDiff, Nat.reduceLeDiff, Nat.reduceLT, Int.reduceNeg, ↓reduceIte, reduceCtorEq, Int.reduceEq, Int.reduceLT, Int.reduceLE, Int.reduceBEq, Int.reduceBNe, Int.reduceToNat, IntKind.bits, Int.reduceAdd, Int.reduceSub, Int.reduceMul, Int.reduceTDiv, Int.reduceTMod, DB, e_prefix_Check, h1]
    simp [Has, h1]
theorem e_prefix_Holds (p q : Pfx) : LV E 19 [.agg (pav p), .agg (pav q)] = some (.bool (decide (Holds p q))) := by
  rw [LV_R (fn := f19) rfl rfl rfl]
  simp only [f19, RB, pickV, eqbV, notV, negV, convV, faddrV, fldV, idxV, eqaggV, iaddrV, isnilV, nilckV, pnilV, cloV, extrV, slenV, minV, sidxV, abin, cmpInt, params, growLists, fillCells, newAt, rdPtr, wrPtr, AV.cells, asVal, lenOf, boundOf, rowsOf, argIds, freshIn, scalar1, setAll, AV.isData, AV.isYld, Nat.reduceAdd, Nat.reduceMul, Nat.reduceSub, Nat.reduceEqDiff, Nat.reduceLeDiff, Nat.reduceLT, Int.reduceNeg, ↓reduceIte, reduceCtorEq, Int.reduceEq, Int.reduceLT, Int.reduceLE, Int.reduceBEq, Int.reduceBNe, Int.reduceToNat, IntKind.bits, Int.reduceAdd, Int.reduceSub, Int.reduceMul, Int.reduceTDiv, Int.reduceTMod, DB, e_prefix_Check]
  by_cases h1 : PfxOk q
  · by_cases h2 : p.bits ≤ q.bits
    · simp only [RB, pickV, eqbV, notV, negV, convV, faddrV, fldV, idxV, eqaggV, iaddrV, isnilV, nilckV, pnilV, cloV, extrV, slenV, minV, sidxV, abin, cmpInt, params, growLists, fillCells, newAt, rdPtr, wrPtr, AV.cells, asVal, lenOf, boundOf, rowsOf, argIds, freshIn, scalar1, setAll, AV.isData, AV.isYld, Nat.reduceAdd, Nat.reduceMul, Nat.reduceSub, Nat.reduceEqDiff, Nat.reduceLeDiff, Nat.reduceLT, Int.reduceNeg, ↓reduceIte, reduceCtorEq, Int.reduceEq, Int.reduceLT, Int.reduceLE, Int.reduceBEq, Int.reduceBNe, Int.reduceToNat, IntKind.bits, Int.reduceAdd, Int.reduceSub, Int.reduceMul, Int.reduceTDiv, Int.reduceTMod, DB, e_prefix_Check, e_prefix_Has, h1, h2]
      simp [Holds, h1, h2]
    · simp only [RB, pickV, eqbV, notV, negV, convV, faddrV, fldV, idxV, eqaggV, iaddrV, isnilV, nilckV, pnilV, cloV, extrV, slenV, minV, sidxV, abin, cmpInt, params, growLists, fillCells, newAt, rdPtr, wrPtr, AV.cells, asVal, lenOf, boundOf, rowsOf, argIds, freshIn, scalar1, setAll, AV.isData, AV.isYld, Nat.reduceAdd, Nat.reduceMul, Nat.reduceSub, Nat.reduceEqDiff, Nat.reduceLeDiff, Nat.reduceLT, Int.reduceNeg, ↓reduceIte, reduceCtorEq, Int.reduceEq, Int.reduceLT, Int.reduceLE, Int.reduceBEq, Int.reduceBNe, Int.reduceToNat, IntKind.bits, Int.reduceAdd, Int.reduceSub, Int.reduceMul, Int.reduceTDiv, Int.reduceTMod, DB, e_prefix_Check, h1, h2]
      simp [Holds, h1, h2]
  · simp only [RB, pickV, eqbV, notV, negV, convV, faddrV, fldV, idxV, eqaggV, iaddrV, isnilV, nilckV, pnilV, cloV, extrV, slenV, minV, sidxV, abin, cmpInt, params, growLists, fillCells, newAt, rdPtr, wrPtr, AV.cells, asVal, lenOf, boundOf, rowsOf, argIds, freshIn, scalar1, setAll, AV.isData, AV.isYld, Nat.reduceAdd, Nat.reduceMul, Nat.reduceSub, Nat.reduceEqDiff, Nat.reduceLeDiff, Nat.reduceLT, Int.reduceNeg, ↓reduceIte, reduceCtorEq, Int.reduceEq, Int.reduceLT, Int.reduceLE, Int.reduceBEq, Int.reduceBNe, Int.reduceToNat, IntKind.bits, Int.reduceAdd, Int.reduceSub, Int.reduceMul, Int.reduceTDiv, Int.reduceTMod, DB, e_prefix_Check, h1]
    simp [Holds, h1]
end Go.Proofs.YtnpdaegfmfkghaaDoor.F

/- The order of prefixes: what the program tells. No condition. -/
set_option linter.unusedSimpArgs false
namespace Go.Proofs.YtnpdaegfmfkghaaDoor.F
open Go Go.Proofs.YtnpdaegfmfkghaaDoor.A Go.Proofs.YtnpdaegfmfkghaaDoor.D
theorem e_bytes_Compare (a b : B16) : LV E 72 [.ro (brows a), .ro (brows b)] = some (.int .i64 (lexL (ints a) (ints b))) := by
  rw [LV_R (fn := f72) rfl rfl rfl]
  have h : LV E 86 [.ro (brows a), .ro (brows b)] = some (.int .i64 (lexL (ints a) (ints b))) := by
    rw [LV_prim (p := pCmp) rfl, cmp_b16]; rfl
  simp only [f72, RB, pickV, eqbV, notV, negV, convV, faddrV, fldV, idxV, eqaggV, iaddrV, isnilV, nilckV, pnilV, cloV, extrV, slenV, minV, sidxV, abin, cmpInt, params, growLists, fillCells, newAt, rdPtr, wrPtr, AV.cells, asVal, lenOf, boundOf, rowsOf, argIds, freshIn, scalar1, setAll, AV.isData, AV.isYld, Nat.reduceAdd, Nat.reduceMul, Nat.reduceSub, Nat.reduceEqDiff, Nat.reduceLeDiff, Nat.reduceLT, Int.reduceNeg, ↓reduceIte, reduceCtorEq, Int.reduceEq, Int.reduceLT, Int.reduceLE, Int.reduceBEq, Int.reduceBNe, Int.reduceToNat, IntKind.bits, Int.reduceAdd, Int.reduceSub, Int.reduceMul, Int.reduceTDiv, Int.reduceTMod, h]
theorem e_cmp_Or_int (a b c : Int) : LV E 70 [.clip [[.int .i64 a], [.int .i64 b], [.int .i64 c]]] = some (.int .i64 (if a ≠ 0 then a else if b ≠ 0 then b else c)) := by
  rw [LV_R (fn := f70) rfl rfl rfl]
  simp only [f70, RB, pickV, eqbV, notV, negV, convV, faddrV, fldV, idxV, eqaggV, iaddrV, isnilV, nilckV, pnilV, cloV, extrV, slenV, minV, sidxV, abin, cmpInt, params, growLists, fillCells, newAt, rdPtr, wrPtr, AV.cells, asVal, lenOf, boundOf, rowsOf, argIds, freshIn, scalar1, setAll, AV.isData, AV.isYld, Nat.reduceAdd, Nat.reduceMul, Nat.reduceSub, Nat.reduceEqDiff, Nat.reduceLeDiff, Nat.reduceLT, Int.reduceNeg, ↓reduceIte, reduceCtorEq, Int.reduceEq, Int.reduceLT, Int.reduceLE, Int.reduceBEq, Int.reduceBNe, Int.reduceToNat, IntKind.bits, Int.reduceAdd, Int.reduceSub, Int.reduceMul, Int.reduceTDiv, Int.reduceTMod]
  by_cases ha : a = 0
  · subst ha
    by_cases hb : b = 0
    · subst hb
      by_cases hc : c = 0
      · subst hc
        simp only [RB, pickV, eqbV, notV, negV, convV, faddrV, fldV, idxV, eqaggV, iaddrV, isnilV, nilckV, pnilV, cloV, extrV, slenV, minV, sidxV, abin, cmpInt, params, growLists, fillCells, newAt, rdPtr, wrPtr, AV.cells, asVal, lenOf, boundOf, rowsOf, argIds, freshIn, scalar1, setAll, AV.isData, AV.isYld, Nat.reduceAdd, Nat.reduceMul, Nat.reduceSub, Nat.reduceEqDiff, Nat.reduceLeDiff, Nat.reduceLT, Int.reduceNeg, ↓reduceIte, reduceCtorEq, Int.reduceEq, Int.reduceLT, Int.reduceLE, Int.reduceBEq, Int.reduceBNe, Int.reduceToNat, IntKind.bits, Int.reduceAdd, Int.reduceSub, Int.reduceMul, Int.reduceTDiv, Int.reduceTMod, W_go, LPB, bne_self_eq_false, Nat.le_refl, IntWalk.i64_in]
      · simp only [RB, pickV, eqbV, notV, negV, convV, faddrV, fldV, idxV, eqaggV, iaddrV, isnilV, nilckV, pnilV, cloV, extrV, slenV, minV, sidxV, abin, cmpInt, params, growLists, fillCells, newAt, rdPtr, wrPtr, AV.cells, asVal, lenOf, boundOf, rowsOf, argIds, freshIn, scalar1, setAll, AV.isData, AV.isYld, Nat.reduceAdd, Nat.reduceMul, Nat.reduceSub, Nat.reduceEqDiff, Nat.reduceLeDiff, Nat.reduceLT, Int.reduceNeg, ↓reduceIte, reduceCtorEq, Int.reduceEq, Int.reduceLT, Int.reduceLE, Int.reduceBEq, Int.reduceBNe, Int.reduceToNat, IntKind.bits, Int.reduceAdd, Int.reduceSub, Int.reduceMul, Int.reduceTDiv, Int.reduceTMod, W_go, LPB, bne_self_eq_false, bne_iff_ne.2 hc, Nat.le_refl]
    · simp only [RB, pickV, eqbV, notV, negV, convV, faddrV, fldV, idxV, eqaggV, iaddrV, isnilV, nilckV, pnilV, cloV, extrV, slenV, minV, sidxV, abin, cmpInt, params, growLists, fillCells, newAt, rdPtr, wrPtr, AV.cells, asVal, lenOf, boundOf, rowsOf, argIds, freshIn, scalar1, setAll, AV.isData, AV.isYld, Nat.reduceAdd, Nat.reduceMul, Nat.reduceSub, Nat.reduceEqDiff, Nat.reduceLeDiff, Nat.reduceLT, Int.reduceNeg, ↓reduceIte, reduceCtorEq, Int.reduceEq, Int.reduceLT, Int.reduceLE, Int.reduceBEq, Int.reduceBNe, Int.reduceToNat, IntKind.bits, Int.reduceAdd, Int.reduceSub, Int.reduceMul, Int.reduceTDiv, Int.reduceTMod, W_go, LPB, bne_self_eq_false, bne_iff_ne.2 hb, hb]
  · simp only [RB, pickV, eqbV, notV, negV, convV, faddrV, fldV, idxV, eqaggV, iaddrV, isnilV, nilckV, pnilV, cloV, extrV, slenV, minV, sidxV, abin, cmpInt, params, growLists, fillCells, newAt, rdPtr, wrPtr, AV.cells, asVal, lenOf, boundOf, rowsOf, argIds, freshIn, scalar1, setAll, AV.isData, AV.isYld, Nat.reduceAdd, Nat.reduceMul, Nat.reduceSub, Nat.reduceEqDiff, Nat.reduceLeDiff, Nat.reduceLT, Int.reduceNeg, ↓reduceIte, reduceCtorEq, Int.reduceEq, Int.reduceLT, Int.reduceLE, Int.reduceBEq, Int.reduceBNe, Int.reduceToNat, IntKind.bits, Int.reduceAdd, Int.reduceSub, Int.reduceMul, Int.reduceTDiv, Int.reduceTMod, W_go, LPB, bne_self_eq_false, bne_iff_ne.2 ha, ha]
theorem e_prefix_Compare (p q : Pfx) : LV E 55 [.agg (pav p), .agg (pav q)] = some (.int .i64 (cmpP p q)) := by
  rw [LV_R (fn := f55) rfl rfl rfl]
  have hb : ∀ b : B16, (bav b).map (fun c => [c]) = brows b := fun _ => rfl
  simp only [f55, RB, pickV, eqbV, notV, negV, convV, faddrV, fldV, idxV, eqaggV, iaddrV, isnilV, nilckV, pnilV, cloV, extrV, slenV, minV, sidxV, abin, cmpInt, params, growLists, fillCells, newAt, rdPtr, wrPtr, AV.cells, asVal, lenOf, boundOf, rowsOf, argIds, freshIn, scalar1, setAll, AV.isData, AV.isYld, Nat.reduceAdd, Nat.reduceMul, Nat.reduceSub, Nat.reduceEqDiff, Nat.reduceLeDiff, Nat.reduceLT, Int.reduceNeg, ↓reduceIte, reduceCtorEq, Int.reduceEq, Int.reduceLT, Int.reduceLE, Int.reduceBEq, Int.reduceBNe, Int.reduceToNat, IntKind.bits, Int.reduceAdd, Int.reduceSub, Int.reduceMul, Int.reduceTDiv, Int.reduceTMod, DB, e_cmp_Compare_int, aop, O_buildSlq, quietOk, hb, e_bytes_Compare, e_cmp_Or_int, fillRows, asData]
  rw [cmp_key]
end Go.Proofs.YtnpdaegfmfkghaaDoor.F

/- The document's answer for prefixes: what its functions tell. No condition. -/
set_option linter.unusedSimpArgs false
namespace Go.Proofs.YtnpdaegfmfkghaaDoor.F
open Go Go.Proofs.YtnpdaegfmfkghaaDoor.A Go.Proofs.YtnpdaegfmfkghaaDoor.D
theorem e_ref05_Width (v : Int) : LV E 58 [.int .i64 v] = some (.int .i64 (width v)) := by
  rw [LV_R (fn := f58) rfl rfl rfl]
  simp only [f58, RB, pickV, eqbV, notV, negV, convV, faddrV, fldV, idxV, eqaggV, iaddrV, isnilV, nilckV, pnilV, cloV, extrV, slenV, minV, sidxV, abin, cmpInt, params, growLists, fillCells, newAt, rdPtr, wrPtr, AV.cells, asVal, lenOf, boundOf, rowsOf, argIds, freshIn, scalar1, setAll, AV.isData, AV.isYld, Nat.reduceAdd, Nat.reduceMul, Nat.reduceSub, Nat.reduceEqDiff, Nat.reduceLeDiff, Nat.reduceLT, Int.reduceNeg, ↓reduceIte, reduceCtorEq, Int.reduceEq, Int.reduceLT, Int.reduceLE, Int.reduceBEq, Int.reduceBNe, Int.reduceToNat, IntKind.bits, Int.reduceAdd, Int.reduceSub, Int.reduceMul, Int.reduceTDiv, Int.reduceTMod]
  by_cases h1 : v = 4
  · subst h1; simp only [RB, pickV, eqbV, notV, negV, convV, faddrV, fldV, idxV, eqaggV, iaddrV, isnilV, nilckV, pnilV, cloV, extrV, slenV, minV, sidxV, abin, cmpInt, params, growLists, fillCells, newAt, rdPtr, wrPtr, AV.cells, asVal, lenOf, boundOf, rowsOf, argIds, freshIn, scalar1, setAll, AV.isData, AV.isYld, Nat.reduceAdd, Nat.reduceMul, Nat.reduceSub, Nat.reduceEqDiff, Nat.reduceLeDiff, Nat.reduceLT, Int.reduceNeg, ↓reduceIte, reduceCtorEq, Int.reduceEq, Int.reduceLT, Int.reduceLE, Int.reduceBEq, Int.reduceBNe, Int.reduceToNat, IntKind.bits, Int.reduceAdd, Int.reduceSub, Int.reduceMul, Int.reduceTDiv, Int.reduceTMod]; rfl
  · by_cases h2 : v = 6
    · subst h2; simp only [RB, pickV, eqbV, notV, negV, convV, faddrV, fldV, idxV, eqaggV, iaddrV, isnilV, nilckV, pnilV, cloV, extrV, slenV, minV, sidxV, abin, cmpInt, params, growLists, fillCells, newAt, rdPtr, wrPtr, AV.cells, asVal, lenOf, boundOf, rowsOf, argIds, freshIn, scalar1, setAll, AV.isData, AV.isYld, Nat.reduceAdd, Nat.reduceMul, Nat.reduceSub, Nat.reduceEqDiff, Nat.reduceLeDiff, Nat.reduceLT, Int.reduceNeg, ↓reduceIte, reduceCtorEq, Int.reduceEq, Int.reduceLT, Int.reduceLE, Int.reduceBEq, Int.reduceBNe, Int.reduceToNat, IntKind.bits, Int.reduceAdd, Int.reduceSub, Int.reduceMul, Int.reduceTDiv, Int.reduceTMod]; rfl
    · simp only [RB, pickV, eqbV, notV, negV, convV, faddrV, fldV, idxV, eqaggV, iaddrV, isnilV, nilckV, pnilV, cloV, extrV, slenV, minV, sidxV, abin, cmpInt, params, growLists, fillCells, newAt, rdPtr, wrPtr, AV.cells, asVal, lenOf, boundOf, rowsOf, argIds, freshIn, scalar1, setAll, AV.isData, AV.isYld, Nat.reduceAdd, Nat.reduceMul, Nat.reduceSub, Nat.reduceEqDiff, Nat.reduceLeDiff, Nat.reduceLT, Int.reduceNeg, ↓reduceIte, reduceCtorEq, Int.reduceEq, Int.reduceLT, Int.reduceLE, Int.reduceBEq, Int.reduceBNe, Int.reduceToNat, IntKind.bits, Int.reduceAdd, Int.reduceSub, Int.reduceMul, Int.reduceTDiv, Int.reduceTMod, beq_eq_false_iff_ne.2 h1, beq_eq_false_iff_ne.2 h2]
      simp [width, h1, h2]
def b01 (b : Bool) : Int := if b then 1 else 0
theorem e_ref05_at (b : B16) (k : Nat) (hk : k < 128) : LV E 59 [.agg (bav b), .int .i64 (k : Int)] = some (.int .i64 (b01 (bit b k))) := by
  rw [LV_R (fn := f59) rfl rfl rfl]
  have f2 : k / 8 < 16 := by omega
  have f3 : ((k / 8 : Nat) : Int) < 16 := by omega
  have f4 : (0 : Int) ≤ ((k / 8 : Nat) : Int) := by omega
  have f5 : (0 : Int) ≤ ((7 - k % 8 : Nat) : Int) := by omega
  have f6 : IntKind.u64.wrap ((7 - k % 8 : Nat) : Int) = ((7 - k % 8 : Nat) : Int) := IntWalk.u64_in _ (by omega)
  have f7 : IntKind.i64.wrap (b.get (k / 8) : Int) = (b.get (k / 8) : Int) := IntWalk.i64_in _ (by have := b.get_lt (k / 8); omega)
  have f8 : ((b.get (k / 8) : Int).fdiv (2 ^ (Nat.min (7 - k % 8) 64))) = ((b.get (k / 8) / 2 ^ (7 - k % 8) : Nat) : Int) := by
    rw [show Nat.min (7 - k % 8) 64 = 7 - k % 8 from Nat.min_eq_left (by omega), Int.fdiv_eq_ediv_of_nonneg _ (Int.pow_nonneg (by decide))]
    simp
  have f9 : ((b.get (k / 8) / 2 ^ (7 - k % 8) : Nat) : Int).tmod 2 = b01 (bit b k) := by
    rw [Int.tmod_eq_emod_of_nonneg (Int.natCast_nonneg _)]
    exact bit_and b k
  simp only [f59, RB, pickV, eqbV, notV, negV, convV, faddrV, fldV, idxV, eqaggV, iaddrV, isnilV, nilckV, pnilV, cloV, extrV, slenV, minV, sidxV, abin, cmpInt, params, growLists, fillCells, newAt, rdPtr, wrPtr, AV.cells, asVal, lenOf, boundOf, rowsOf, argIds, freshIn, scalar1, setAll, AV.isData, AV.isYld, Nat.reduceAdd, Nat.reduceMul, Nat.reduceSub, Nat.reduceEqDiff, Nat.reduceLeDiff, Nat.reduceLT, Int.reduceNeg, ↓reduceIte, reduceCtorEq, Int.reduceEq, Int.reduceLT, Int.reduceLE, Int.reduceBEq, Int.reduceBNe, Int.reduceToNat, IntKind.bits, Int.reduceAdd, Int.reduceSub, Int.reduceMul, Int.reduceTDiv, Int.reduceTMod, DB, f3, f4, f5, f6, f7, f8, f9, quo8 k (by omega), rem8, sub7, bav_i b (k / 8) f2]
theorem b01_eq (b : Bool) : (b01 b == 1) = b := by cases b <;> rfl
theorem b01_ne (a b : Bool) : (b01 a != b01 b) = (a != b) := by cases a <;> cases b <;> rfl
theorem e_ref05_RightAddr (a : Adr) : LV E 57 [.agg (aav a)] = some (.bool (decide (AddrOk a))) := by
  rw [LV_R (fn := f57) rfl rfl rfl]
  simp only [f57, RB, pickV, eqbV, notV, negV, convV, faddrV, fldV, idxV, eqaggV, iaddrV, isnilV, nilckV, pnilV, cloV, extrV, slenV, minV, sidxV, abin, cmpInt, params, growLists, fillCells, newAt, rdPtr, wrPtr, AV.cells, asVal, lenOf, boundOf, rowsOf, argIds, freshIn, scalar1, setAll, AV.isData, AV.isYld, Nat.reduceAdd, Nat.reduceMul, Nat.reduceSub, Nat.reduceEqDiff, Nat.reduceLeDiff, Nat.reduceLT, Int.reduceNeg, ↓reduceIte, reduceCtorEq, Int.reduceEq, Int.reduceLT, Int.reduceLE, Int.reduceBEq, Int.reduceBNe, Int.reduceToNat, IntKind.bits, Int.reduceAdd, Int.reduceSub, Int.reduceMul, Int.reduceTDiv, Int.reduceTMod, DB, e_ref05_Width]
  refine (W_rec (β := AV) (ι := Nat) (M := fun k => [(1, .ptr 0 0 0 0), (3, .int .i64 (width a.ver : Int)), (4, .int .i64 (k : Int))]) (H := fun _ => ⟨[.box 0 35 (aav a)], []⟩) (r := fun k => some (AV.bool (decide (width a.ver ≠ 0 ∧ Clr a.b k)))) (μ := fun k => 128 - k) (fun i => ?_) (fun k ih => ?_) (width a.ver)).trans ?_
  · simp [LPB]
  · by_cases hk : k < 128
    · have f1 : (k : Int) < 128 := by omega
      have f6 : IntKind.i64.wrap ((k : Int) + 1) = ((k + 1 : Nat) : Int) := by rw [IntWalk.i64_in _ (by omega)] <;> omega
      have ih := ih (k + 1) (by omega)
      cases hb : bit a.b k with
      | true =>
        simp only [RB, pickV, eqbV, notV, negV, convV, faddrV, fldV, idxV, eqaggV, iaddrV, isnilV, nilckV, pnilV, cloV, extrV, slenV, minV, sidxV, abin, cmpInt, params, growLists, fillCells, newAt, rdPtr, wrPtr, AV.cells, asVal, lenOf, boundOf, rowsOf, argIds, freshIn, scalar1, setAll, AV.isData, AV.isYld, Nat.reduceAdd, Nat.reduceMul, Nat.reduceSub, Nat.reduceEqDiff, Nat.reduceLeDiff, Nat.reduceLT, Int.reduceNeg, ↓reduceIte, reduceCtorEq, Int.reduceEq, Int.reduceLT, Int.reduceLE, Int.reduceBEq, Int.reduceBNe, Int.reduceToNat, IntKind.bits, Int.reduceAdd, Int.reduceSub, Int.reduceMul, Int.reduceTDiv, Int.reduceTMod, DB, f1, e_ref05_at _ k hk, b01_eq, hb]
        rw [decide_eq_false fun hc => by rw [hc.2 k (Nat.le_refl _) hk] at hb; cases hb]
      | false =>
        simp only [RB, pickV, eqbV, notV, negV, convV, faddrV, fldV, idxV, eqaggV, iaddrV, isnilV, nilckV, pnilV, cloV, extrV, slenV, minV, sidxV, abin, cmpInt, params, growLists, fillCells, newAt, rdPtr, wrPtr, AV.cells, asVal, lenOf, boundOf, rowsOf, argIds, freshIn, scalar1, setAll, AV.isData, AV.isYld, Nat.reduceAdd, Nat.reduceMul, Nat.reduceSub, Nat.reduceEqDiff, Nat.reduceLeDiff, Nat.reduceLT, Int.reduceNeg, ↓reduceIte, reduceCtorEq, Int.reduceEq, Int.reduceLT, Int.reduceLE, Int.reduceBEq, Int.reduceBNe, Int.reduceToNat, IntKind.bits, Int.reduceAdd, Int.reduceSub, Int.reduceMul, Int.reduceTDiv, Int.reduceTMod, DB, f1, e_ref05_at _ k hk, b01_eq, hb, f6]
        rw [ih]
        congr 2
        refine decide_eq_decide.2 (and_congr_right fun _ => ⟨fun h j h1 h2 => ?_, fun h j h1 h2 => h j (by omega) h2⟩)
        rcases Nat.lt_or_eq_of_le h1 with h3 | rfl
        · exact h j h3 h2
        · exact hb
    · simp only [RB, pickV, eqbV, notV, negV, convV, faddrV, fldV, idxV, eqaggV, iaddrV, isnilV, nilckV, pnilV, cloV, extrV, slenV, minV, sidxV, abin, cmpInt, params, growLists, fillCells, newAt, rdPtr, wrPtr, AV.cells, asVal, lenOf, boundOf, rowsOf, argIds, freshIn, scalar1, setAll, AV.isData, AV.isYld, Nat.reduceAdd, Nat.reduceMul, Nat.reduceSub, Nat.reduceEqDiff, Nat.reduceLeDiff, Nat.reduceLT, Int.reduceNeg, ↓reduceIte, reduceCtorEq, Int.reduceEq, Int.reduceLT, Int.reduceLE, Int.reduceBEq, Int.reduceBNe, Int.reduceToNat, IntKind.bits, Int.reduceAdd, Int.reduceSub, Int.reduceMul, Int.reduceTDiv, Int.reduceTMod, DB, show ¬ (k : Int) < 128 by omega]
      congr 2
      refine decide_eq_decide.2 ⟨fun h => ⟨by omega, fun j h1 h2 => absurd h2 (by omega)⟩, fun h => by have := h.1; omega⟩
  · exact congrArg (fun b => some (AV.bool b)) (decide_eq_decide.2 Iff.rfl)
theorem e_ref05_Right (p : Pfx) : LV E 34 [.agg (pav p)] = some (.bool (decide (PfxOk p))) := by
  rw [LV_R (fn := f34) rfl rfl rfl]
  simp only [f34, RB, pickV, eqbV, notV, negV, convV, faddrV, fldV, idxV, eqaggV, iaddrV, isnilV, nilckV, pnilV, cloV, extrV, slenV, minV, sidxV, abin, cmpInt, params, growLists, fillCells, newAt, rdPtr, wrPtr, AV.cells, asVal, lenOf, boundOf, rowsOf, argIds, freshIn, scalar1, setAll, AV.isData, AV.isYld, Nat.reduceAdd, Nat.reduceMul, Nat.reduceSub, Nat.reduceEqDiff, Nat.reduceLeDiff, Nat.reduceLT, Int.reduceNeg, ↓reduceIte, reduceCtorEq, Int.reduceEq, Int.reduceLT, Int.reduceLE, Int.reduceBEq, Int.reduceBNe, Int.reduceToNat, IntKind.bits, Int.reduceAdd, Int.reduceSub, Int.reduceMul, Int.reduceTDiv, Int.reduceTMod, DB, e_ref05_RightAddr]
  by_cases h1 : AddrOk p.adr
  · by_cases h2 : p.bits < 0
    · simp only [RB, pickV, eqbV, notV, negV, convV, faddrV, fldV, idxV, eqaggV, iaddrV, isnilV, nilckV, pnilV, cloV, extrV, slenV, minV, sidxV, abin, cmpInt, params, growLists, fillCells, newAt, rdPtr, wrPtr, AV.cells, asVal, lenOf, boundOf, rowsOf, argIds, freshIn, scalar1, setAll, AV.isData, AV.isYld, Nat.reduceAdd, Nat.reduceMul, Nat.reduceSub, Nat.reduceEqDiff, Nat.reduceLeDiff, Nat.reduceLT, Int.reduceNeg, ↓reduceIte, reduceCtorEq, Int.reduceEq, Int.reduceLT, Int.reduceLE, Int.reduceBEq, Int.reduceBNe, Int.reduceToNat, IntKind.bits, Int.reduceAdd, Int.reduceSub, Int.reduceMul, Int.reduceTDiv, Int.reduceTMod, DB, e_ref05_Width, h1, h2]
      simp [PfxOk, h1, show ¬ 0 ≤ p.bits by omega]
    · by_cases h3 : (width p.adr.ver : Int) < p.bits
      · simp only [RB, pickV, eqbV, notV, negV, convV, faddrV, fldV, idxV, eqaggV, iaddrV, isnilV, nilckV, pnilV, cloV, extrV, slenV, minV, sidxV, abin, cmpInt, params, growLists, fillCells, newAt, rdPtr, wrPtr, AV.cells, asVal, lenOf, boundOf, rowsOf, argIds, freshIn, scalar1, setAll, AV.isData, AV.isYld, Nat.reduceAdd, Nat.reduceMul, Nat.reduceSub, Nat.reduceEqDiff, Nat.reduceLeDiff, Nat.reduceLT, Int.reduceNeg, ↓reduceIte, reduceCtorEq, Int.reduceEq, Int.reduceLT, Int.reduceLE, Int.reduceBEq, Int.reduceBNe, Int.reduceToNat, IntKind.bits, Int.reduceAdd, Int.reduceSub, Int.reduceMul, Int.reduceTDiv, Int.reduceTMod, DB, e_ref05_Width, h1, h2, h3]
        simp [PfxOk, h1, show ¬ p.bits ≤ width p.adr.ver by omega]
      · simp only [RB, pickV, eqbV, notV, negV, convV, faddrV, fldV, idxV, eqaggV, iaddrV, isnilV, nilckV, pnilV, cloV, extrV, slenV, minV, sidxV, abin, cmpInt, params, growLists, fillCells, newAt, rdPtr, wrPtr, AV.cells, asVal, lenOf, boundOf, rowsOf, argIds, freshIn, scalar1, setAll, AV.isData, AV.isYld, Nat.reduceAdd, Nat.reduceMul, Nat.reduceSub, Nat.reduceEqDiff, Nat.reduceLeDiff, Nat.reduceLT, Int.reduceNeg, ↓reduceIte, reduceCtorEq, Int.reduceEq, Int.reduceLT, Int.reduceLE, Int.reduceBEq, Int.reduceBNe, Int.reduceToNat, IntKind.bits, Int.reduceAdd, Int.reduceSub, Int.reduceMul, Int.reduceTDiv, Int.reduceTMod, DB, e_ref05_Width, h1, h2, h3]
        obtain ⟨ad, n⟩ := p
        simp only at *
        obtain ⟨n, rfl⟩ : ∃ m : Nat, n = (m : Int) := ⟨n.toNat, by omega⟩
        refine (W_rec (β := AV) (ι := Nat) (M := fun k => [(1, .ptr 0 0 0 0), (3, .int .i64 (k : Int))]) (H := fun _ => ⟨[.box 0 37 (pav ⟨ad, n⟩)], []⟩) (r := fun k => some (AV.bool (decide (Clr ad.b k)))) (μ := fun k => 128 - k) (fun i => ?_) (fun k ih => ?_) n).trans ?_
        · simp [LPB]
        · by_cases hk : k < 128
          · have f1 : (k : Int) < 128 := by omega
            have f6 : IntKind.i64.wrap ((k : Int) + 1) = ((k + 1 : Nat) : Int) := by rw [IntWalk.i64_in _ (by omega)] <;> omega
            have ih := ih (k + 1) (by omega)
            cases hb : bit ad.b k with
            | true =>
              simp only [RB, pickV, eqbV, notV, negV, convV, faddrV, fldV, idxV, eqaggV, iaddrV, isnilV, nilckV, pnilV, cloV, extrV, slenV, minV, sidxV, abin, cmpInt, params, growLists, fillCells, newAt, rdPtr, wrPtr, AV.cells, asVal, lenOf, boundOf, rowsOf, argIds, freshIn, scalar1, setAll, AV.isData, AV.isYld, Nat.reduceAdd, Nat.reduceMul, Nat.reduceSub, Nat.reduceEqDiff, Nat.reduceLeDiff, Nat.reduceLT, Int.reduceNeg, ↓reduceIte, reduceCtorEq, Int.reduceEq, Int.reduceLT, Int.reduceLE, Int.reduceBEq, Int.reduceBNe, Int.reduceToNat, IntKind.bits, Int.reduceAdd, Int.reduceSub, Int.reduceMul, Int.reduceTDiv, Int.reduceTMod, DB, f1, e_ref05_at _ k hk, b01_eq, hb]
              rw [decide_eq_false fun hc => by rw [hc k (Nat.le_refl _) hk] at hb; cases hb]
            | false =>
              simp only [RB, pickV, eqbV, notV, negV, convV, faddrV, fldV, idxV, eqaggV, iaddrV, isnilV, nilckV, pnilV, cloV, extrV, slenV, minV, sidxV, abin, cmpInt, params, growLists, fillCells, newAt, rdPtr, wrPtr, AV.cells, asVal, lenOf, boundOf, rowsOf, argIds, freshIn, scalar1, setAll, AV.isData, AV.isYld, Nat.reduceAdd, Nat.reduceMul, Nat.reduceSub, Nat.reduceEqDiff, Nat.reduceLeDiff, Nat.reduceLT, Int.reduceNeg, ↓reduceIte, reduceCtorEq, Int.reduceEq, Int.reduceLT, Int.reduceLE, Int.reduceBEq, Int.reduceBNe, Int.reduceToNat, IntKind.bits, Int.reduceAdd, Int.reduceSub, Int.reduceMul, Int.reduceTDiv, Int.reduceTMod, DB, f1, e_ref05_at _ k hk, b01_eq, hb, f6]
              rw [ih]
              congr 2
              refine decide_eq_decide.2 ⟨fun h j h1 h2 => ?_, fun h j h1 h2 => h j (by omega) h2⟩
              rcases Nat.lt_or_eq_of_le h1 with h3 | rfl
              · exact h j h3 h2
              · exact hb
          · simp only [RB, pickV, eqbV, notV, negV, convV, faddrV, fldV, idxV, eqaggV, iaddrV, isnilV, nilckV, pnilV, cloV, extrV, slenV, minV, sidxV, abin, cmpInt, params, growLists, fillCells, newAt, rdPtr, wrPtr, AV.cells, asVal, lenOf, boundOf, rowsOf, argIds, freshIn, scalar1, setAll, AV.isData, AV.isYld, Nat.reduceAdd, Nat.reduceMul, Nat.reduceSub, Nat.reduceEqDiff, Nat.reduceLeDiff, Nat.reduceLT, Int.reduceNeg, ↓reduceIte, reduceCtorEq, Int.reduceEq, Int.reduceLT, Int.reduceLE, Int.reduceBEq, Int.reduceBNe, Int.reduceToNat, IntKind.bits, Int.reduceAdd, Int.reduceSub, Int.reduceMul, Int.reduceTDiv, Int.reduceTMod, DB, show ¬ (k : Int) < 128 by omega]
            rw [decide_eq_true (show Clr ad.b k from fun j h1 h2 => absurd h2 (by omega))]
        · congr 2
          refine decide_eq_decide.2 ⟨fun h => ⟨h1, by simp, by simpa using h3, by simpa using h⟩, fun h => by simpa using h.2.2.2⟩
  · simp only [RB, pickV, eqbV, notV, negV, convV, faddrV, fldV, idxV, eqaggV, iaddrV, isnilV, nilckV, pnilV, cloV, extrV, slenV, minV, sidxV, abin, cmpInt, params, growLists, fillCells, newAt, rdPtr, wrPtr, AV.cells, asVal, lenOf, boundOf, rowsOf, argIds, freshIn, scalar1, setAll, AV.isData, AV.isYld, Nat.reduceAdd, Nat.reduceMul, Nat.reduceSub, Nat.reduceEqDiff, Nat.reduceLeDiff, Nat.reduceLT, Int.reduceNeg, ↓reduceIte, reduceCtorEq, Int.reduceEq, Int.reduceLT, Int.reduceLE, Int.reduceBEq, Int.reduceBNe, Int.reduceToNat, IntKind.bits, Int.reduceAdd, Int.reduceSub, Int.reduceMul, Int.reduceTDiv, Int.reduceTMod, DB, h1]
    simp [PfxOk, h1]
def Agree (b c : B16) (k n : Nat) : Prop := ∀ i, k ≤ i → i < n → bit b i = bit c i
noncomputable instance {b c : B16} {k n : Nat} : Decidable (Agree b c k n) := Classical.propDecidable _
theorem e_ref05_Has (p : Pfx) (a : Adr) : LV E 87 [.agg (pav p), .agg (aav a)] = some (.bool (decide (Has p a))) := by
  rw [LV_R (fn := f87) rfl rfl rfl]
  simp only [f87, RB, pickV, eqbV, notV, negV, convV, faddrV, fldV, idxV, eqaggV, iaddrV, isnilV, nilckV, pnilV, cloV, extrV, slenV, minV, sidxV, abin, cmpInt, params, growLists, fillCells, newAt, rdPtr, wrPtr, AV.cells, asVal, lenOf, boundOf, rowsOf, argIds, freshIn, scalar1, setAll, AV.isData, AV.isYld, Nat.reduceAdd, Nat.reduceMul, Nat.reduceSub, Nat.reduceEqDiff, Nat.reduceLeDiff, Nat.reduceLT, Int.reduceNeg, ↓reduceIte, reduceCtorEq, Int.reduceEq, Int.reduceLT, Int.reduceLE, Int.reduceBEq, Int.reduceBNe, Int.reduceToNat, IntKind.bits, Int.reduceAdd, Int.reduceSub, Int.reduceMul, Int.reduceTDiv, Int.reduceTMod, DB, e_ref05_Right]
  by_cases h1 : PfxOk p
  · by_cases h2 : AddrOk a
    · by_cases h3 : p.adr.ver = a.ver
      · simp only [RB, pickV, eqbV, notV, negV, convV, faddrV, fldV, idxV, eqaggV, iaddrV, isnilV, nilckV, pnilV, cloV, extrV, slenV, minV, sidxV, abin, cmpInt, params, growLists, fillCells, newAt, rdPtr, wrPtr, AV.cells, asVal, lenOf, boundOf, rowsOf, argIds, freshIn, scalar1, setAll, AV.isData, AV.isYld, Nat.reduceAdd, Nat.reduceMul, Nat.reduceSub, Nat.reduceEqDiff, Nat.reduceLeDiff, Nat.reduceLT, Int.reduceNeg, ↓reduceIte, reduceCtorEq, Int.reduceEq, Int.reduceLT, Int.reduceLE, Int.reduceBEq, Int.reduceBNe, Int.reduceToNat, IntKind.bits, Int.reduceAdd, Int.reduceSub, Int.reduceMul, Int.reduceTDiv, Int.reduceTMod, DB, e_ref05_RightAddr, h1, h2, h3, bne_self_eq_false]
        have h4 : p.bits ≤ 128 := by have := h1.2.2.1; have := width_le p.adr.ver; omega
        have h0 := h1.2.1
        have hc := h1.2.2.2
        have e : decide (Has p a) = decide (Agree p.adr.b a.b 0 p.bits.toNat) := by
          refine decide_eq_decide.2 ⟨fun h i _ hi => (has_bits hc).1 h.2.2.2 i hi (by omega), fun h => ⟨h1, h2, h3, (has_bits hc).2 fun i hi _ => h i (Nat.zero_le _) hi⟩⟩
        rw [e]
        refine (W_rec (β := AV) (ι := Nat) (M := fun k => [(2, .ptr 0 0 0 0), (3, .ptr 1 0 0 0), (5, .int .i64 (k : Int))]) (H := fun _ => ⟨[.box 0 37 (pav p), .box 0 35 (aav a)], []⟩) (r := fun k => some (AV.bool (decide (Agree p.adr.b a.b k p.bits.toNat)))) (μ := fun k => 128 - k) (fun i => ?_) (fun k ih => ?_) 0).trans ?_
        · simp [LPB]
        · by_cases hk : (k : Int) < p.bits
          · have f6 : IntKind.i64.wrap ((k : Int) + 1) = ((k + 1 : Nat) : Int) := by rw [IntWalk.i64_in _ (by omega)] <;> omega
            have ih := ih (k + 1) (by omega)
            by_cases hb : bit p.adr.b k = bit a.b k
            · simp only [RB, pickV, eqbV, notV, negV, convV, faddrV, fldV, idxV, eqaggV, iaddrV, isnilV, nilckV, pnilV, cloV, extrV, slenV, minV, sidxV, abin, cmpInt, params, growLists, fillCells, newAt, rdPtr, wrPtr, AV.cells, asVal, lenOf, boundOf, rowsOf, argIds, freshIn, scalar1, setAll, AV.isData, AV.isYld, Nat.reduceAdd, Nat.reduceMul, Nat.reduceSub, Nat.reduceEqDiff, Nat.reduceLeDiff, Nat.reduceLT, Int.reduceNeg, ↓reduceIte, reduceCtorEq, Int.reduceEq, Int.reduceLT, Int.reduceLE, Int.reduceBEq, Int.reduceBNe, Int.reduceToNat, IntKind.bits, Int.reduceAdd, Int.reduceSub, Int.reduceMul, Int.reduceTDiv, Int.reduceTMod, DB, e_ref05_at _ k (show k < 128 by omega), hk, b01_ne, hb, bne_self_eq_false, f6]
              rw [ih]
              congr 2
              refine decide_eq_decide.2 ⟨fun h j h1 h2 => ?_, fun h j h1 h2 => h j (by omega) h2⟩
              rcases Nat.lt_or_eq_of_le h1 with h3 | rfl
              · exact h j h3 h2
              · exact hb
            · simp only [RB, pickV, eqbV, notV, negV, convV, faddrV, fldV, idxV, eqaggV, iaddrV, isnilV, nilckV, pnilV, cloV, extrV, slenV, minV, sidxV, abin, cmpInt, params, growLists, fillCells, newAt, rdPtr, wrPtr, AV.cells, asVal, lenOf, boundOf, rowsOf, argIds, freshIn, scalar1, setAll, AV.isData, AV.isYld, Nat.reduceAdd, Nat.reduceMul, Nat.reduceSub, Nat.reduceEqDiff, Nat.reduceLeDiff, Nat.reduceLT, Int.reduceNeg, ↓reduceIte, reduceCtorEq, Int.reduceEq, Int.reduceLT, Int.reduceLE, Int.reduceBEq, Int.reduceBNe, Int.reduceToNat, IntKind.bits, Int.reduceAdd, Int.reduceSub, Int.reduceMul, Int.reduceTDiv, Int.reduceTMod, DB, e_ref05_at _ k (show k < 128 by omega), hk, b01_ne, bne_iff_ne.2 hb]
              rw [decide_eq_false fun hc => hb (hc k (Nat.le_refl _) (by omega))]
          · simp only [RB, pickV, eqbV, notV, negV, convV, faddrV, fldV, idxV, eqaggV, iaddrV, isnilV, nilckV, pnilV, cloV, extrV, slenV, minV, sidxV, abin, cmpInt, params, growLists, fillCells, newAt, rdPtr, wrPtr, AV.cells, asVal, lenOf, boundOf, rowsOf, argIds, freshIn, scalar1, setAll, AV.isData, AV.isYld, Nat.reduceAdd, Nat.reduceMul, Nat.reduceSub, Nat.reduceEqDiff, Nat.reduceLeDiff, Nat.reduceLT, Int.reduceNeg, ↓reduceIte, reduceCtorEq, Int.reduceEq, Int.reduceLT, Int.reduceLE, Int.reduceBEq, Int.reduceBNe, Int.reduceToNat, IntKind.bits, Int.reduceAdd, Int.reduceSub, Int.reduceMul, Int.reduceTDiv, Int.reduceTMod, DB, hk]
            rw [decide_eq_true (show Agree p.adr.b a.b k p.bits.toNat from fun j h1 h2 => absurd h2 (by omega))]
        · rfl
      · simp only [RB, pickV, eqbV, notV, negV, convV, faddrV, fldV, idxV, eqaggV, iaddrV, isnilV, nilckV, pnilV, cloV, extrV, slenV, minV, sidxV, abin, cmpInt, params, growLists, fillCells, newAt, rdPtr, wrPtr, AV.cells, asVal, lenOf, boundOf, rowsOf, argIds, freshIn, scalar1, setAll, AV.isData, AV.isYld, Nat.reduceAdd, Nat.reduceMul, Nat.reduceSub, Nat.reduceEqDiff, Nat.reduceLeDiff, Nat.reduceLT, Int.reduceNeg, ↓reduceIte, reduceCtorEq, Int.reduceEq, Int.reduceLT, Int.reduceLE, Int.reduceBEq, Int.reduceBNe, Int.reduceToNat, IntKind.bits, Int.reduceAdd, Int.reduceSub, Int.reduceMul, Int.reduceTDiv, Int.reduceTMod, DB, e_ref05_RightAddr, h1, h2, bne_iff_ne.2 h3]
        simp [Has, h1, h2, h3]
    · simp only [RB, pickV, eqbV, notV, negV, convV, faddrV, fldV, idxV, eqaggV, iaddrV, isnilV, nilckV, pnilV, cloV, extrV, slenV, minV, sidxV, abin, cmpInt, params, growLists, fillCells, newAt, rdPtr, wrPtr, AV.cells, asVal, lenOf, boundOf, rowsOf, argIds, freshIn, scalar1, setAll, AV.isData, AV.isYld, Nat.reduceAdd, Nat.reduceMul, Nat.reduceSub, Nat.reduceEqDiff, Nat.reduceLeDiff, Nat.reduceLT, Int.reduceNeg, ↓reduceIte, reduceCtorEq, Int.reduceEq, Int.reduceLT, Int.reduceLE, Int.reduceBEq, Int.reduceBNe, Int.reduceToNat, IntKind.bits, Int.reduceAdd, Int.reduceSub, Int.reduceMul, Int.reduceTDiv, Int.reduceTMod, DB, e_ref05_RightAddr, h1, h2]
      simp [Has, h1, h2]
  · simp only [RB, pickV, eqbV, notV, negV, convV, faddrV, fldV, idxV, eqaggV, iaddrV, isnilV, nilckV, pnilV, cloV, extrV, slenV, minV, sidxV, abin, cmpInt, params, growLists, fillCells, newAt, rdPtr, wrPtr, AV.cells, asVal, lenOf, boundOf, rowsOf, argIds, freshIn, scalar1, setAll, AV.isData, AV.isYld, Nat.reduceAdd, Nat.reduceMul, Nat.reduceSub, Nat.reduceEqDiff, Nat.reduceLeDiff, Nat.reduceLT, Int.reduceNeg, ↓reduceIte, reduceCtorEq, Int.reduceEq, Int.reduceLT, Int.reduceLE, Int.reduceBEq, Int.reduceBNe, Int.reduceToNat, IntKind.bits, Int.reduceAdd, Int.reduceSub, Int.reduceMul, Int.reduceTDiv, Int.reduceTMod, DB, h1]
    simp [Has, h1]
theorem e_ref05_Holds (p q : Pfx) : LV E 74 [.agg (pav p), .agg (pav q)] = some (.bool (decide (Holds p q))) := by
  rw [LV_R (fn := f74) rfl rfl rfl]
  simp only [f74, RB, pickV, eqbV, notV, negV, convV, faddrV, fldV, idxV, eqaggV, iaddrV, isnilV, nilckV, pnilV, cloV, extrV, slenV, minV, sidxV, abin, cmpInt, params, growLists, fillCells, newAt, rdPtr, wrPtr, AV.cells, asVal, lenOf, boundOf, rowsOf, argIds, freshIn, scalar1, setAll, AV.isData, AV.isYld, Nat.reduceAdd, Nat.reduceMul, Nat.reduceSub, Nat.reduceEqDiff, Nat.reduceLeDiff, Nat.reduceLT, Int.reduceNeg, ↓reduceIte, reduceCtorEq, Int.reduceEq, Int.reduceLT, Int.reduceLE, Int.reduceBEq, Int.reduceBNe, Int.reduceToNat, IntKind.bits, Int.reduceAdd, Int.reduceSub, Int.reduceMul, Int.reduceTDiv, Int.reduceTMod, DB, e_ref05_Right]
  by_cases h1 : PfxOk q
  · by_cases h2 : p.bits ≤ q.bits
    · simp only [RB, pickV, eqbV, notV, negV, convV, faddrV, fldV, idxV, eqaggV, iaddrV, isnilV, nilckV, pnilV, cloV, extrV, slenV, minV, sidxV, abin, cmpInt, params, growLists, fillCells, newAt, rdPtr, wrPtr, AV.cells, asVal, lenOf, boundOf, rowsOf, argIds, freshIn, scalar1, setAll, AV.isData, AV.isYld, Nat.reduceAdd, Nat.reduceMul, Nat.reduceSub, Nat.reduceEqDiff, Nat.reduceLeDiff, Nat.reduceLT, Int.reduceNeg, ↓reduceIte, reduceCtorEq, Int.reduceEq, Int.reduceLT, Int.reduceLE, Int.reduceBEq, Int.reduceBNe, Int.reduceToNat, IntKind.bits, Int.reduceAdd, Int.reduceSub, Int.reduceMul, Int.reduceTDiv, Int.reduceTMod, DB, e_ref05_Has, h1, h2]
      simp [Holds, h1, h2]
    · simp only [RB, pickV, eqbV, notV, negV, convV, faddrV, fldV, idxV, eqaggV, iaddrV, isnilV, nilckV, pnilV, cloV, extrV, slenV, minV, sidxV, abin, cmpInt, params, growLists, fillCells, newAt, rdPtr, wrPtr, AV.cells, asVal, lenOf, boundOf, rowsOf, argIds, freshIn, scalar1, setAll, AV.isData, AV.isYld, Nat.reduceAdd, Nat.reduceMul, Nat.reduceSub, Nat.reduceEqDiff, Nat.reduceLeDiff, Nat.reduceLT, Int.reduceNeg, ↓reduceIte, reduceCtorEq, Int.reduceEq, Int.reduceLT, Int.reduceLE, Int.reduceBEq, Int.reduceBNe, Int.reduceToNat, IntKind.bits, Int.reduceAdd, Int.reduceSub, Int.reduceMul, Int.reduceTDiv, Int.reduceTMod, DB, h1, h2]
      simp [Holds, h1, h2]
  · simp only [RB, pickV, eqbV, notV, negV, convV, faddrV, fldV, idxV, eqaggV, iaddrV, isnilV, nilckV, pnilV, cloV, extrV, slenV, minV, sidxV, abin, cmpInt, params, growLists, fillCells, newAt, rdPtr, wrPtr, AV.cells, asVal, lenOf, boundOf, rowsOf, argIds, freshIn, scalar1, setAll, AV.isData, AV.isYld, Nat.reduceAdd, Nat.reduceMul, Nat.reduceSub, Nat.reduceEqDiff, Nat.reduceLeDiff, Nat.reduceLT, Int.reduceNeg, ↓reduceIte, reduceCtorEq, Int.reduceEq, Int.reduceLT, Int.reduceLE, Int.reduceBEq, Int.reduceBNe, Int.reduceToNat, IntKind.bits, Int.reduceAdd, Int.reduceSub, Int.reduceMul, Int.reduceTDiv, Int.reduceTMod, DB, h1]
    simp [Holds, h1]
end Go.Proofs.YtnpdaegfmfkghaaDoor.F

/- The order of prefixes by the document, and the prefixes of addresses. No condition. -/
set_option linter.unusedSimpArgs false
namespace Go.Proofs.YtnpdaegfmfkghaaDoor.F
open Go Go.Proofs.YtnpdaegfmfkghaaDoor.A Go.Proofs.YtnpdaegfmfkghaaDoor.D
def irow (l : List Int) : List (List AV) := l.map fun x => [.int .i64 x]
theorem irow_len (l : List Int) : (irow l).length = l.length := by simp [irow]
theorem irow_snoc (l : List Int) (x : Int) : irow l ++ [[.int .i64 x]] = irow (l ++ [x]) := by simp [irow]
theorem irow_one (x : Int) : [[AV.int .i64 x]] = irow [x] := rfl
theorem irow_take (l : List Int) (n : Nat) (h : l.length = n) : (irow l).take n = irow l := by rw [← h, ← irow_len, List.take_length]
theorem irow_get (l : List Int) (n : Nat) (h : n < l.length) : (irow l)[n]? = some [.int .i64 l[n]] := by simp [irow, h]
def pre (p : Pfx) (k : Nat) : List Int := p.adr.ver :: (ints p.adr.b).take k
theorem pre_len (p : Pfx) (k : Nat) (h : k ≤ 16) : (pre p k).length = k + 1 := by simp [pre, ints_len, h]
theorem pre_snoc (p : Pfx) (k : Nat) (h : k < 16) : pre p k ++ [(p.adr.b.get k : Int)] = pre p (k + 1) := by
  have : (ints p.adr.b)[k]? = some (p.adr.b.get k : Int) := by simp [ints, p.adr.b.get_some h]
  simp only [pre, List.cons_append, List.take_add_one, this, Option.toList_some]
theorem pre_16 (p : Pfx) : pre p 16 ++ [p.bits] = key p := by
  simp only [pre, key, List.cons_append]; rw [← ints_len p.adr.b, List.take_length]
theorem pav_i (p : Pfx) (n : Nat) (h : n < 16) : piece (pav p) (1 + n) 1 = some [.int .u8 (p.adr.b.get n : Int)] := by
  have h1 := bav_i p.adr.b n h
  unfold piece at h1 ⊢
  rw [if_pos (by rw [bav_len]; omega)] at h1
  rw [if_pos (by rw [pav_len]; omega), ← h1, Nat.add_comm 1 n]
  simp only [pav, List.drop_succ_cons]
  have h2 := bav_len p.adr.b
  rw [List.drop_append_of_le_length (by omega), List.take_append_of_le_length (by simp; omega)]
theorem lex_drop (l r : List Int) (j : Nat) (h1 : j < l.length) (h2 : j < r.length) : lexL (l.drop j) (r.drop j) = if l[j] < r[j] then -1 else if r[j] < l[j] then 1 else lexL (l.drop (j + 1)) (r.drop (j + 1)) := by
  rw [List.drop_eq_getElem_cons h1, List.drop_eq_getElem_cons h2, lexL]
end Go.Proofs.YtnpdaegfmfkghaaDoor.F

/- The prefixes of addresses, by the program and by the document. No condition. -/
set_option linter.unusedSimpArgs false
namespace Go.Proofs.YtnpdaegfmfkghaaDoor.D
open Go Go.Proofs.YtnpdaegfmfkghaaDoor.A
theorem aav_ov (a : Adr) (v : Int) : ovr (aav a) 0 [.int .i64 v] = some (aav ⟨v, a.b⟩) := by
  unfold ovr; rw [if_pos (by rw [aav_len]; simp)]; rfl
theorem pav_put (p : Pfx) {n v : Nat} (hn : n < 16) (hv : v < 256) : ovr (pav p) (1 + n) [.int .u8 (v : Int)] = some (pav ⟨⟨p.adr.ver, p.adr.b.put n v⟩, p.bits⟩) := by
  have h := bav_put p.adr.b hn hv
  unfold ovr at h ⊢
  rw [if_pos (by simp [bav_len]; omega)] at h
  rw [if_pos (by simp [pav_len]; omega)]
  have h' := Option.some.inj h
  have hl := bav_len p.adr.b
  simp only [pav, ← h', Nat.add_comm 1 n, List.take_succ_cons, List.length_cons, List.length_nil, Nat.zero_add, List.drop_succ_cons, List.cons_append]
  rw [List.take_append_of_le_length (by omega), List.drop_append_of_le_length (by omega)]
  simp
theorem cutN_ge (x n : Nat) (h : 8 ≤ n) : cutN x n = x := by unfold cutN; rw [show 8 - n = 0 by omega]; simp
theorem cutN_0 (x : Nat) (h : x < 256) : cutN x 0 = 0 := by unfold cutN; rw [show (8 - 0 : Nat) = 8 by omega, Nat.div_eq_of_lt h, Nat.zero_mul]
theorem cutN_step (x j : Nat) (hx : x < 256) (hj : j < 8) : cutN x (j + 1) = cutN x j + (if x.testBit (7 - j) then 128 / 2 ^ j else 0) := by
  have : ∀ x < 256, ∀ j < 8, cutN x (j + 1) = cutN x j + (if x.testBit (7 - j) then 128 / 2 ^ j else 0) := by decide +kernel
  exact this x hx j hj
theorem cut_next (b : B16) (k : Nat) {i : Nat} (hi : i < 16) : (cut b (k + 1)).get i = if i = k / 8 then cutN (b.get i) (k % 8) + (if bit b k then 128 / 2 ^ (k % 8) else 0) else (cut b k).get i := by
  rw [cut_get _ _ hi, cut_get _ _ hi]
  by_cases h : i = k / 8
  · subst h
    rw [if_pos rfl, show k + 1 - 8 * (k / 8) = k % 8 + 1 by omega, cutN_step _ _ (b.get_lt _) (by omega)]; rfl
  · rw [if_neg h]
    by_cases h2 : i < k / 8
    · rw [cutN_ge _ _ (by omega), cutN_ge _ _ (by omega)]
    · rw [show k + 1 - 8 * i = 0 by omega, show k - 8 * i = 0 by omega]
theorem cut_put (b : B16) (k : Nat) (hk : k < 128) (hb : bit b k = true) : (cut b k).put (k / 8) ((cut b k).get (k / 8) + 128 / 2 ^ (k % 8)) = cut b (k + 1) ∧ (cut b k).get (k / 8) + 128 / 2 ^ (k % 8) < 256 := by
  have h1 : (cut b k).get (k / 8) + 128 / 2 ^ (k % 8) = (cut b (k + 1)).get (k / 8) := by
    rw [cut_next b k (by omega), if_pos rfl, hb, if_pos rfl, cut_get _ _ (by omega), show k - 8 * (k / 8) = k % 8 by omega]
  have h2 := (cut b (k + 1)).get_lt (k / 8)
  refine ⟨B16.ext' fun i hi => ?_, by omega⟩
  rw [B16.get_put _ (by omega) (by omega), h1]
  by_cases h : i = k / 8
  · rw [if_pos h, h]
  · rw [if_neg h, cut_next b k hi, if_neg h]
theorem cut_skip (b : B16) (k : Nat) (hb : bit b k = false) : cut b (k + 1) = cut b k := B16.ext' fun i hi => by
  rw [cut_next b k hi, hb]
  by_cases h : i = k / 8
  · rw [if_pos h, h, cut_get _ _ (by omega), show k - 8 * (k / 8) = k % 8 by omega]; simp
  · rw [if_neg h]
theorem cut_zero (b : B16) : cut b 0 = zerB := B16.ext' fun i hi => by
  rw [cut_get _ _ hi, show 0 - 8 * i = 0 by omega, cutN_0 _ (b.get_lt i)]
  have : ∀ i < 16, 0 = zerB.get i := by decide
  exact this i hi
def ofE (a : Adr) (n : Int) : Int := if AddrOk a then if 0 ≤ n ∧ n ≤ width a.ver then 0 else 2 else 150
def ofP (a : Adr) (n : Int) : Pfx := if AddrOk a ∧ 0 ≤ n ∧ n ≤ width a.ver then ⟨⟨a.ver, cut a.b n.toNat⟩, n⟩ else zerP
end Go.Proofs.YtnpdaegfmfkghaaDoor.D
namespace Go.Proofs.YtnpdaegfmfkghaaDoor.F
open Go Go.Proofs.YtnpdaegfmfkghaaDoor.A Go.Proofs.YtnpdaegfmfkghaaDoor.D
theorem e_prefix_Of (a : Adr) (n : Int) : LV E 21 [.agg (aav a), .int .i64 n] = some (.tup [.agg (pav (ofP a n)), .int .i64 (ofE a n)]) := by
  rw [LV_R (fn := f21) rfl rfl rfl]
  simp only [f21, ← pav_zer, RB, pickV, eqbV, notV, negV, convV, faddrV, fldV, idxV, eqaggV, iaddrV, isnilV, nilckV, pnilV, cloV, extrV, slenV, minV, sidxV, abin, cmpInt, params, growLists, fillCells, newAt, rdPtr, wrPtr, AV.cells, asVal, lenOf, boundOf, rowsOf, argIds, freshIn, scalar1, setAll, AV.isData, AV.isYld, Nat.reduceAdd, Nat.reduceMul, Nat.reduceSub, Nat.reduceEqDiff, Nat.reduceLeDiff, Nat.reduceLT, Int.reduceNeg, ↓reduceIte, reduceCtorEq, Int.reduceEq, Int.reduceLT, Int.reduceLE, Int.reduceBEq, Int.reduceBNe, Int.reduceToNat, IntKind.bits, Int.reduceAdd, Int.reduceSub, Int.reduceMul, Int.reduceTDiv, Int.reduceTMod, DB, e_prefix_CheckAddr]
  by_cases h1 : AddrOk a
  · by_cases h2 : n < 0
    · simp only [RB, pickV, eqbV, notV, negV, convV, faddrV, fldV, idxV, eqaggV, iaddrV, isnilV, nilckV, pnilV, cloV, extrV, slenV, minV, sidxV, abin, cmpInt, params, growLists, fillCells, newAt, rdPtr, wrPtr, AV.cells, asVal, lenOf, boundOf, rowsOf, argIds, freshIn, scalar1, setAll, AV.isData, AV.isYld, Nat.reduceAdd, Nat.reduceMul, Nat.reduceSub, Nat.reduceEqDiff, Nat.reduceLeDiff, Nat.reduceLT, Int.reduceNeg, ↓reduceIte, reduceCtorEq, Int.reduceEq, Int.reduceLT, Int.reduceLE, Int.reduceBEq, Int.reduceBNe, Int.reduceToNat, IntKind.bits, Int.reduceAdd, Int.reduceSub, Int.reduceMul, Int.reduceTDiv, Int.reduceTMod, DB, e_prefix_CheckAddr, h1, h2, ← pav_zer, Bool.false_eq_true, false_and]
      simp [ofP, ofE, h1, show ¬ 0 ≤ n by omega]
    · by_cases h3 : (width a.ver : Int) < n
      · simp only [RB, pickV, eqbV, notV, negV, convV, faddrV, fldV, idxV, eqaggV, iaddrV, isnilV, nilckV, pnilV, cloV, extrV, slenV, minV, sidxV, abin, cmpInt, params, growLists, fillCells, newAt, rdPtr, wrPtr, AV.cells, asVal, lenOf, boundOf, rowsOf, argIds, freshIn, scalar1, setAll, AV.isData, AV.isYld, Nat.reduceAdd, Nat.reduceMul, Nat.reduceSub, Nat.reduceEqDiff, Nat.reduceLeDiff, Nat.reduceLT, Int.reduceNeg, ↓reduceIte, reduceCtorEq, Int.reduceEq, Int.reduceLT, Int.reduceLE, Int.reduceBEq, Int.reduceBNe, Int.reduceToNat, IntKind.bits, Int.reduceAdd, Int.reduceSub, Int.reduceMul, Int.reduceTDiv, Int.reduceTMod, DB, e_prefix_CheckAddr, e_prefix_Width, h1, h2, h3, ← pav_zer, Bool.false_eq_true, false_and]
        simp [ofP, ofE, h1, show ¬ n ≤ width a.ver by omega]
      · have h4 : n ≤ 128 := by have := width_le a.ver; omega
        simp only [RB, pickV, eqbV, notV, negV, convV, faddrV, fldV, idxV, eqaggV, iaddrV, isnilV, nilckV, pnilV, cloV, extrV, slenV, minV, sidxV, abin, cmpInt, params, growLists, fillCells, newAt, rdPtr, wrPtr, AV.cells, asVal, lenOf, boundOf, rowsOf, argIds, freshIn, scalar1, setAll, AV.isData, AV.isYld, Nat.reduceAdd, Nat.reduceMul, Nat.reduceSub, Nat.reduceEqDiff, Nat.reduceLeDiff, Nat.reduceLT, Int.reduceNeg, ↓reduceIte, reduceCtorEq, Int.reduceEq, Int.reduceLT, Int.reduceLE, Int.reduceBEq, Int.reduceBNe, Int.reduceToNat, IntKind.bits, Int.reduceAdd, Int.reduceSub, Int.reduceMul, Int.reduceTDiv, Int.reduceTMod, DB, e_prefix_CheckAddr, e_prefix_Width, h1, h2, h3, ← pav_zer, Bool.false_eq_true, false_and, e_prefix_cut' _ (Int.not_lt.1 h2) h4]
        simp [ofP, ofE, h1, show n ≤ width a.ver by omega, show 0 ≤ n by omega]
  · simp only [RB, pickV, eqbV, notV, negV, convV, faddrV, fldV, idxV, eqaggV, iaddrV, isnilV, nilckV, pnilV, cloV, extrV, slenV, minV, sidxV, abin, cmpInt, params, growLists, fillCells, newAt, rdPtr, wrPtr, AV.cells, asVal, lenOf, boundOf, rowsOf, argIds, freshIn, scalar1, setAll, AV.isData, AV.isYld, Nat.reduceAdd, Nat.reduceMul, Nat.reduceSub, Nat.reduceEqDiff, Nat.reduceLeDiff, Nat.reduceLT, Int.reduceNeg, ↓reduceIte, reduceCtorEq, Int.reduceEq, Int.reduceLT, Int.reduceLE, Int.reduceBEq, Int.reduceBNe, Int.reduceToNat, IntKind.bits, Int.reduceAdd, Int.reduceSub, Int.reduceMul, Int.reduceTDiv, Int.reduceTMod, DB, e_prefix_CheckAddr, h1, ← pav_zer, Bool.false_eq_true, false_and]
    simp [ofP, ofE, h1]
end Go.Proofs.YtnpdaegfmfkghaaDoor.F

/- Halves and wholes of prefixes, as the program and the document tell them. No condition. -/
set_option linter.unusedSimpArgs false
namespace Go.Proofs.YtnpdaegfmfkghaaDoor.D
open Go Go.Proofs.YtnpdaegfmfkghaaDoor.A
theorem xor_u8 (x m : Nat) (hx : x < 256) (hm : m < 8) : bits2 .xor .u8 (x : Int) ((128 / 2 ^ m : Nat) : Int) = some ((x ^^^ 128 / 2 ^ m : Nat) : Int) := by
  have : ∀ x < 256, ∀ m < 8, bits2 .xor .u8 ((x : Nat) : Int) ((128 / 2 ^ m : Nat) : Int) = some ((x ^^^ 128 / 2 ^ m : Nat) : Int) := by decide +kernel
  exact this x hx m hm
theorem or_u8 (x m : Nat) (hx : x < 256) (hm : m < 8) : bits2 .or .u8 (x : Int) ((128 / 2 ^ m : Nat) : Int) = some ((x ||| 128 / 2 ^ m : Nat) : Int) := by
  have : ∀ x < 256, ∀ m < 8, bits2 .or .u8 ((x : Nat) : Int) ((128 / 2 ^ m : Nat) : Int) = some ((x ||| 128 / 2 ^ m : Nat) : Int) := by decide +kernel
  exact this x hx m hm
theorem or_xor (x m : Nat) (hx : x < 256) (hm : m < 8) (h : x.testBit (7 - m) = false) : x ||| 128 / 2 ^ m = x ^^^ 128 / 2 ^ m := by
  have : ∀ x < 256, ∀ m < 8, x.testBit (7 - m) = false → x ||| 128 / 2 ^ m = x ^^^ 128 / 2 ^ m := by decide +kernel
  exact this x hx m hm h
end Go.Proofs.YtnpdaegfmfkghaaDoor.D
namespace Go.Proofs.YtnpdaegfmfkghaaDoor.F
open Go Go.Proofs.YtnpdaegfmfkghaaDoor.A Go.Proofs.YtnpdaegfmfkghaaDoor.D
theorem e73 (i : Nat) (hi : i ≤ 1000) : LV E 73 [.int .i64 (i : Int)] = some (.int .u8 ((128 / 2 ^ (i % 8) : Nat) : Int)) := by
  rw [LV_R (fn := f73) rfl rfl rfl]
  have f8 : (0 : Int) ≤ ((i % 8 : Nat) : Int) := by omega
  have f9 : (128 : Int).fdiv (2 ^ (Nat.min (i % 8) 8)) = ((128 / 2 ^ (i % 8) : Nat) : Int) := shrN 128 (i % 8) (by omega)
  simp only [f73, RB, pickV, eqbV, notV, negV, convV, faddrV, fldV, idxV, eqaggV, iaddrV, isnilV, nilckV, pnilV, cloV, extrV, slenV, minV, sidxV, abin, cmpInt, params, growLists, fillCells, newAt, rdPtr, wrPtr, AV.cells, asVal, lenOf, boundOf, rowsOf, argIds, freshIn, scalar1, setAll, AV.isData, AV.isYld, Nat.reduceAdd, Nat.reduceMul, Nat.reduceSub, Nat.reduceEqDiff, Nat.reduceLeDiff, Nat.reduceLT, Int.reduceNeg, ↓reduceIte, reduceCtorEq, Int.reduceEq, Int.reduceLT, Int.reduceLE, Int.reduceBEq, Int.reduceBNe, Int.reduceToNat, IntKind.bits, Int.reduceAdd, Int.reduceSub, Int.reduceMul, Int.reduceTDiv, Int.reduceTMod, rem8, f8, f9]
theorem e56 (p : Pfx) (h0 : 0 < p.bits) (h1 : p.bits ≤ 128) : LV E 56 [.agg (pav p)] = some (.agg (pav (half p))) := by
  rw [LV_R (fn := f56) rfl rfl rfl]
  obtain ⟨k, hk⟩ : ∃ k : Nat, p.bits = (k : Int) + 1 := ⟨p.bits.toNat - 1, by omega⟩
  have f1 : IntKind.i64.wrap (p.bits - 1) = (k : Int) := by rw [IntWalk.i64_in _ (by omega)]; omega
  have f3 : ((k / 8 : Nat) : Int) < 16 := by omega
  have f4 : (0 : Int) ≤ ((k / 8 : Nat) : Int) := by omega
  have g3 := pav_i p (k / 8) (by omega)
  have g4 := pav_put p (show k / 8 < 16 by omega) (flip_lt p.adr.b k)
  have e : half p = ⟨⟨p.adr.ver, p.adr.b.put (k / 8) (p.adr.b.get (k / 8) ^^^ 128 / 2 ^ (k % 8))⟩, p.bits⟩ := by unfold half D.flip; rw [show p.bits.toNat - 1 = k by omega]
  rw [← e] at g4
  simp only [f56, ← pav_zer, RB, pickV, eqbV, notV, negV, convV, faddrV, fldV, idxV, eqaggV, iaddrV, isnilV, nilckV, pnilV, cloV, extrV, slenV, minV, sidxV, abin, cmpInt, params, growLists, fillCells, newAt, rdPtr, wrPtr, AV.cells, asVal, lenOf, boundOf, rowsOf, argIds, freshIn, scalar1, setAll, AV.isData, AV.isYld, Nat.reduceAdd, Nat.reduceMul, Nat.reduceSub, Nat.reduceEqDiff, Nat.reduceLeDiff, Nat.reduceLT, Int.reduceNeg, ↓reduceIte, reduceCtorEq, Int.reduceEq, Int.reduceLT, Int.reduceLE, Int.reduceBEq, Int.reduceBNe, Int.reduceToNat, IntKind.bits, Int.reduceAdd, Int.reduceSub, Int.reduceMul, Int.reduceTDiv, Int.reduceTMod, DB, f1, f3, f4, quo8 k (by omega), e73 k (by omega), g3, g4, xor_u8 _ (k % 8) (p.adr.b.get_lt _) (by omega)]
theorem e36 (p : Pfx) (h : PfxOk p) (h0 : 0 < p.bits) : LV E 36 [.agg (pav p)] = some (.agg (pav (upP p))) := by
  rw [LV_R (fn := f36) rfl rfl rfl]
  have hb := bits_le h
  have f1 : IntKind.i64.wrap (p.bits - 1) = p.bits - 1 := by rw [IntWalk.i64_in _ (by omega)]
  have e : ofP p.adr (p.bits - 1) = upP p := by
    have h2 := h.2.2.1
    unfold ofP upP
    rw [if_pos ⟨h.1, by omega, by omega⟩, show (p.bits - 1).toNat = p.bits.toNat - 1 by omega]
  have e2 := e_prefix_Of p.adr (p.bits - 1)
  rw [e] at e2
  simp only [f36, ← pav_zer, RB, pickV, eqbV, notV, negV, convV, faddrV, fldV, idxV, eqaggV, iaddrV, isnilV, nilckV, pnilV, cloV, extrV, slenV, minV, sidxV, abin, cmpInt, params, growLists, fillCells, newAt, rdPtr, wrPtr, AV.cells, asVal, lenOf, boundOf, rowsOf, argIds, freshIn, scalar1, setAll, AV.isData, AV.isYld, Nat.reduceAdd, Nat.reduceMul, Nat.reduceSub, Nat.reduceEqDiff, Nat.reduceLeDiff, Nat.reduceLT, Int.reduceNeg, ↓reduceIte, reduceCtorEq, Int.reduceEq, Int.reduceLT, Int.reduceLE, Int.reduceBEq, Int.reduceBNe, Int.reduceToNat, IntKind.bits, Int.reduceAdd, Int.reduceSub, Int.reduceMul, Int.reduceTDiv, Int.reduceTMod, DB, f1, e2]
theorem e62 (p : Pfx) (h : PfxOk p) (hw : p.bits < width p.adr.ver) : LV E 62 [.agg (pav p)] = some (.tup [.agg (pav (loP p)), .agg (pav (hiP p))]) := by
  rw [LV_R (fn := f62) rfl rfl rfl]
  have hl := width_le p.adr.ver
  have h0 := h.2.1
  obtain ⟨k, hk⟩ : ∃ k : Nat, p.bits = (k : Int) := ⟨p.bits.toNat, by omega⟩
  obtain ⟨⟨v, b⟩, n⟩ := p
  simp only at hk hl h0 hw
  subst hk
  have f1 : IntKind.i64.wrap ((k : Int) + 1) = (k : Int) + 1 := by rw [IntWalk.i64_in _ (by omega)]
  have f3 : ((k / 8 : Nat) : Int) < 16 := by omega
  have f4 : (0 : Int) ≤ ((k / 8 : Nat) : Int) := by omega
  have f8 : (0 : Int) ≤ ((k % 8 : Nat) : Int) := by omega
  have f9 : (128 : Int).fdiv (2 ^ (Nat.min (k % 8) 8)) = ((128 / 2 ^ (k % 8) : Nat) : Int) := shrN 128 (k % 8) (by omega)
  have hbit : bit b k = false := h.2.2.2 k (by simp) (by omega)
  have g3 := pav_i ⟨⟨v, b⟩, (k : Int) + 1⟩ (k / 8) (by omega)
  have g4 := pav_put ⟨⟨v, b⟩, (k : Int) + 1⟩ (show k / 8 < 16 by omega) (flip_lt b k)
  have e : hiP ⟨⟨v, b⟩, (k : Int)⟩ = ⟨⟨v, b.put (k / 8) (b.get (k / 8) ^^^ 128 / 2 ^ (k % 8))⟩, (k : Int) + 1⟩ := rfl
  rw [← e] at g4
  have e2 : loP ⟨⟨v, b⟩, (k : Int)⟩ = ⟨⟨v, b⟩, (k : Int) + 1⟩ := rfl
  rw [e2]
  simp only [f62, ← pav_zer, RB, pickV, eqbV, notV, negV, convV, faddrV, fldV, idxV, eqaggV, iaddrV, isnilV, nilckV, pnilV, cloV, extrV, slenV, minV, sidxV, abin, cmpInt, params, growLists, fillCells, newAt, rdPtr, wrPtr, AV.cells, asVal, lenOf, boundOf, rowsOf, argIds, freshIn, scalar1, setAll, AV.isData, AV.isYld, Nat.reduceAdd, Nat.reduceMul, Nat.reduceSub, Nat.reduceEqDiff, Nat.reduceLeDiff, Nat.reduceLT, Int.reduceNeg, ↓reduceIte, reduceCtorEq, Int.reduceEq, Int.reduceLT, Int.reduceLE, Int.reduceBEq, Int.reduceBNe, Int.reduceToNat, IntKind.bits, Int.reduceAdd, Int.reduceSub, Int.reduceMul, Int.reduceTDiv, Int.reduceTMod, DB, f1, f3, f4, f8, f9, pav_on, quo8 k (by omega), rem8, g3, g4, or_u8 _ (k % 8) (b.get_lt _) (by omega), or_xor _ (k % 8) (b.get_lt _) (by omega) hbit, pairOk, AV.ids, List.contains_cons, List.contains_nil, Nat.reduceBEq, List.all_cons, List.all_nil, Bool.or_self, Bool.not_false, Bool.and_self, Bool.or_false]
end Go.Proofs.YtnpdaegfmfkghaaDoor.F

/- Rows of prefixes: which are the same, which may be, who is among them. No condition. -/
set_option linter.unusedSimpArgs false
namespace Go.Proofs.YtnpdaegfmfkghaaDoor.D
open Go Go.Proofs.YtnpdaegfmfkghaaDoor.A
def prows (l : List Pfx) : List (List AV) := l.map pav
theorem prows_len (l : List Pfx) : (prows l).length = l.length := by simp [prows]
theorem prows_get (l : List Pfx) {i : Nat} (h : i < l.length) : (prows l)[i]? = some (pav l[i]) := by simp [prows, h]
theorem prows_snoc (l : List Pfx) (x : Pfx) : prows l ++ [pav x] = prows (l ++ [x]) := by simp [prows]
theorem prows_append (l r : List Pfx) : prows l ++ prows r = prows (l ++ r) := by simp [prows]
theorem prows_take (l : List Pfx) (n : Nat) : (prows l).take n = prows (l.take n) := by simp [prows, List.map_take]
theorem prows_drop (l : List Pfx) (n : Nat) : (prows l).drop n = prows (l.drop n) := by simp [prows, List.map_drop]
theorem prows_fit (l : List Pfx) : headFits 18 (prows l) = true := by
  cases l with
  | nil => rfl
  | cons a l => simp [headFits, prows, pav_len]
theorem prows_fits (l : List Pfx) {i n : Nat} (h : i ≤ n) (hn : n ≤ l.length) : rowFits 18 i n (prows l) = true := by
  unfold rowFits
  by_cases h2 : i = n
  · simp [h2]
  · rw [prows_get l (show i < l.length by omega)]; simp [pav_len]
theorem prows_k (l : List Pfx) : ∀ r ∈ l.map pav, r.length = 18 := fun r hr => by
  obtain ⟨p, _, rfl⟩ := List.mem_map.1 hr; exact pav_len p
theorem prows_data (l : List Pfx) : (prows l).all dataL = true := by
  rw [List.all_eq_true]; intro r hr
  obtain ⟨p, _, rfl⟩ := List.mem_map.1 hr; exact pav_data p
def okB (l : List Pfx) : Bool := l.all fun p => decide (PfxOk p)
theorem okB_iff (l : List Pfx) : okB l = true ↔ Oks l := by simp [okB, Oks]
def sameB : List Pfx → List Pfx → Bool
  | a :: l, b :: r => decide (a = b) && sameB l r
  | _, _ => true
theorem sameB_iff : ∀ {l r : List Pfx}, l.length = r.length → sameB l r = decide (l = r)
  | [], [], _ => rfl
  | a :: l, b :: r, h => by
    have ih := sameB_iff (l := l) (r := r) (by simpa using h)
    simp only [sameB, ih, List.cons.injEq, Bool.decide_and]
  | [], _ :: _, h => by simp at h
  | _ :: _, [], h => by simp at h
def statF (p : Pfx) : List Pfx → Int → Int
  | [], s => s
  | q :: l, s => if Holds q p then 2 else statF p l (if Holds p q then 1 else s)
theorem statF_S (p : Pfx) : ∀ (l : List Pfx) (s : Int), statF p l s = if l.any (fun q => decide (Holds q p)) = true then 2 else if l.any (fun q => decide (Holds p q)) = true then 1 else s
  | [], s => by simp [statF]
  | q :: l, s => by
    unfold statF
    rw [statF_S p l]
    by_cases h1 : Holds q p
    · simp [h1]
    · by_cases h2 : Holds p q
      · simp only [h1, h2, List.any_cons, decide_false, decide_true, Bool.false_or, Bool.true_or, if_true, if_false]
        split
        · rfl
        · split <;> rfl
      · simp only [h1, h2, List.any_cons, decide_false, Bool.false_or, if_false]
end Go.Proofs.YtnpdaegfmfkghaaDoor.D
namespace Go.Proofs.YtnpdaegfmfkghaaDoor.F
open Go Go.Proofs.YtnpdaegfmfkghaaDoor.A Go.Proofs.YtnpdaegfmfkghaaDoor.D
theorem r66 {ys : List Hd} {bs : List Blk} {pend : List (Option AExit)} {v : AV} {l : List Pfx} {P : Pfx → Bool} {g : FuncId} {caps : List AV} (hl : l.length ≤ 4611686018427387904) (hv : SlV bs 18 v (l.map pav)) (hp : PredG E pav g caps P bs) (hlow : belowAll bs.length bs = true) (hc : belowL bs.length caps = true) :
    LR E ys 66 [v, .clo g caps] ⟨bs, pend⟩ = some (.int .i64 (idxR P l 0), ⟨bs, pend⟩) := by
  have huf := hv.uf
  have hlen := hv.len
  have hlo := hv.low
  rw [List.length_map] at hlen
  rw [LR_R (fn := f66) rfl rfl rfl]
  simp only [f66, RB, pickV, eqbV, notV, negV, convV, faddrV, fldV, idxV, eqaggV, isnilV, nilckV, pnilV, cloV, extrV, slenV, minV, sidxV, abin, cmpInt, params, growLists, fillCells, newAt, AV.cells, asVal, boundOf, argIds, freshIn, scalar1, setAll, AV.isData, AV.isYld, Nat.reduceAdd, Nat.reduceMul, Nat.reduceSub, Nat.reduceEqDiff, Nat.reduceLeDiff, Nat.reduceLT, Int.reduceNeg, ↓reduceIte, reduceCtorEq, Int.reduceEq, Int.reduceLT, Int.reduceLE, Int.reduceBEq, Int.reduceBNe, Int.reduceToNat, IntKind.bits, Int.reduceAdd, Int.reduceSub, Int.reduceMul, Int.reduceTDiv, Int.reduceTMod, huf, hlen]
  refine (W_rec (ι := Nat) (M := fun k => [(0, v), (1, .clo g caps), (7, .int .i64 (l.length : Int)), (8, .int .i64 (k : Int))]) (H := fun _ => ⟨bs, pend⟩) (r := fun k => some ((AV.int .i64 (idxR P (l.drop k) k), ⟨bs, pend⟩) : AV × Hp)) (μ := fun k => l.length - k) (fun i => ?_) (fun k ih => ?_) 0)
  · exact ⟨by simp only [List.map_cons, List.map_nil, LPB, hlo, hc, Bool.and_self], hlow⟩
  · by_cases hk : k < l.length
    · have f1 : (k : Int) < (l.length : Int) := by omega
      have f6 : IntKind.i64.wrap ((k : Int) + 1) = ((k + 1 : Nat) : Int) := by rw [IntWalk.i64_in _ (by omega)] <;> omega
      obtain ⟨p, g1, g2⟩ := hv.get [] k (by simpa using hk)
      have g3 := g2 []
      rw [List.append_nil] at g1 g3
      rw [List.getElem?_map, List.getElem?_eq_getElem hk] at g3
      obtain ⟨ext, hpr⟩ := hp ys pend [] l[k]
      rw [List.append_nil] at hpr
      have hsh : shrink false bs.length (.bool (P l[k])) ⟨bs ++ ext, pend⟩ = some ⟨bs, pend⟩ := shrink_app rfl rfl hlow
      have e : idxR P (l.drop k) k = if P l[k] then (k : Int) else idxR P (l.drop (k + 1)) (k + 1) := by
        rw [List.drop_eq_getElem_cons hk, idxR]
      rw [e]
      cases hP : P l[k] with
      | true =>
        rw [hP] at hpr hsh
        simp only [RB, pickV, eqbV, notV, negV, convV, faddrV, fldV, idxV, eqaggV, isnilV, nilckV, pnilV, cloV, extrV, slenV, minV, sidxV, abin, cmpInt, params, growLists, fillCells, newAt, AV.cells, asVal, boundOf, argIds, freshIn, scalar1, setAll, AV.isData, AV.isYld, Nat.reduceAdd, Nat.reduceMul, Nat.reduceSub, Nat.reduceEqDiff, Nat.reduceLeDiff, Nat.reduceLT, Int.reduceNeg, ↓reduceIte, reduceCtorEq, Int.reduceEq, Int.reduceLT, Int.reduceLE, Int.reduceBEq, Int.reduceBNe, Int.reduceToNat, IntKind.bits, Int.reduceAdd, Int.reduceSub, Int.reduceMul, Int.reduceTDiv, Int.reduceTMod, f1, huf, g1, g3, hpr, hsh]
      | false =>
        rw [hP] at hpr hsh
        simp only [RB, pickV, eqbV, notV, negV, convV, faddrV, fldV, idxV, eqaggV, isnilV, nilckV, pnilV, cloV, extrV, slenV, minV, sidxV, abin, cmpInt, params, growLists, fillCells, newAt, AV.cells, asVal, boundOf, argIds, freshIn, scalar1, setAll, AV.isData, AV.isYld, Nat.reduceAdd, Nat.reduceMul, Nat.reduceSub, Nat.reduceEqDiff, Nat.reduceLeDiff, Nat.reduceLT, Int.reduceNeg, ↓reduceIte, reduceCtorEq, Int.reduceEq, Int.reduceLT, Int.reduceLE, Int.reduceBEq, Int.reduceBNe, Int.reduceToNat, IntKind.bits, Int.reduceAdd, Int.reduceSub, Int.reduceMul, Int.reduceTDiv, Int.reduceTMod, f1, f6, huf, g1, g3, hpr, hsh, List.take_length]
        exact ih (k + 1) (by omega)
    · simp only [RB, pickV, eqbV, notV, negV, convV, faddrV, fldV, idxV, eqaggV, isnilV, nilckV, pnilV, cloV, extrV, slenV, minV, sidxV, abin, cmpInt, params, growLists, fillCells, newAt, AV.cells, asVal, boundOf, argIds, freshIn, scalar1, setAll, AV.isData, AV.isYld, Nat.reduceAdd, Nat.reduceMul, Nat.reduceSub, Nat.reduceEqDiff, Nat.reduceLeDiff, Nat.reduceLT, Int.reduceNeg, ↓reduceIte, reduceCtorEq, Int.reduceEq, Int.reduceLT, Int.reduceLE, Int.reduceBEq, Int.reduceBNe, Int.reduceToNat, IntKind.bits, Int.reduceAdd, Int.reduceSub, Int.reduceMul, Int.reduceTDiv, Int.reduceTMod, show ¬ (k : Int) < (l.length : Int) by omega]
      rw [List.drop_eq_nil_of_le (by omega)]; rfl
theorem r50 {ys : List Hd} {bs : List Blk} {pend : List (Option AExit)} {v : AV} {l : List Pfx} {P : Pfx → Bool} {g : FuncId} {caps : List AV} (hl : l.length ≤ 4611686018427387904) (hv : SlV bs 18 v (l.map pav)) (hp : PredG E pav g caps P bs) (hlow : belowAll bs.length bs = true) (hc : belowL bs.length caps = true) :
    LR E ys 50 [v, .clo g caps] ⟨bs, pend⟩ = some (.bool (l.any P), ⟨bs, pend⟩) := by
  rw [LR_R (fn := f50) rfl rfl rfl]
  have h := fun ys => r66 (ys := ys) (pend := pend) hl hv hp hlow hc
  have hsh : ∀ n, shrink false bs.length (.int .i64 n) ⟨bs, pend⟩ = some ⟨bs, pend⟩ := fun n => shrink_id rfl rfl hlow
  simp only [f50, RB, pickV, eqbV, notV, negV, convV, faddrV, fldV, idxV, eqaggV, iaddrV, isnilV, nilckV, pnilV, cloV, extrV, slenV, minV, sidxV, abin, cmpInt, params, growLists, fillCells, newAt, rdPtr, wrPtr, AV.cells, asVal, lenOf, boundOf, rowsOf, argIds, freshIn, scalar1, setAll, AV.isData, AV.isYld, Nat.reduceAdd, Nat.reduceMul, Nat.reduceSub, Nat.reduceEqDiff, Nat.reduceLeDiff, Nat.reduceLT, Int.reduceNeg, ↓reduceIte, reduceCtorEq, Int.reduceEq, Int.reduceLT, Int.reduceLE, Int.reduceBEq, Int.reduceBNe, Int.reduceToNat, IntKind.bits, Int.reduceAdd, Int.reduceSub, Int.reduceMul, Int.reduceTDiv, Int.reduceTMod, hv.uf, h, hsh]
  congr 3
  cases hP : l.any P with
  | false => rw [idxR_none hP]; rfl
  | true =>
    obtain ⟨i, h1, _⟩ := idxR_some (k := 0) hP
    rw [h1]; simp
theorem e13 (a b : List Pfx) (ha : a.length ≤ 4611686018427387904) : LV E 13 [.ro (prows a), .ro (prows b)] = some (.bool (decide (a = b))) := by
  rw [LV_R (fn := f13) rfl rfl rfl]
  simp only [f13, RB, pickV, eqbV, notV, negV, convV, faddrV, fldV, idxV, eqaggV, iaddrV, isnilV, nilckV, pnilV, cloV, extrV, slenV, minV, sidxV, abin, cmpInt, params, growLists, fillCells, newAt, rdPtr, wrPtr, AV.cells, asVal, lenOf, boundOf, rowsOf, argIds, freshIn, scalar1, setAll, AV.isData, AV.isYld, Nat.reduceAdd, Nat.reduceMul, Nat.reduceSub, Nat.reduceEqDiff, Nat.reduceLeDiff, Nat.reduceLT, Int.reduceNeg, ↓reduceIte, reduceCtorEq, Int.reduceEq, Int.reduceLT, Int.reduceLE, Int.reduceBEq, Int.reduceBNe, Int.reduceToNat, IntKind.bits, Int.reduceAdd, Int.reduceSub, Int.reduceMul, Int.reduceTDiv, Int.reduceTMod, prows_len]
  by_cases hl : a.length = b.length
  · rw [← sameB_iff hl]
    simp only [RB, pickV, eqbV, notV, negV, convV, faddrV, fldV, idxV, eqaggV, iaddrV, isnilV, nilckV, pnilV, cloV, extrV, slenV, minV, sidxV, abin, cmpInt, params, growLists, fillCells, newAt, rdPtr, wrPtr, AV.cells, asVal, lenOf, boundOf, rowsOf, argIds, freshIn, scalar1, setAll, AV.isData, AV.isYld, Nat.reduceAdd, Nat.reduceMul, Nat.reduceSub, Nat.reduceEqDiff, Nat.reduceLeDiff, Nat.reduceLT, Int.reduceNeg, ↓reduceIte, reduceCtorEq, Int.reduceEq, Int.reduceLT, Int.reduceLE, Int.reduceBEq, Int.reduceBNe, Int.reduceToNat, IntKind.bits, Int.reduceAdd, Int.reduceSub, Int.reduceMul, Int.reduceTDiv, Int.reduceTMod, prows_len, hl, bne_self_eq_false]
    rw [← hl]
    refine (W_rec2 (β := AV) (ι := Nat) (M := fun k => [(0, .ro (prows a)), (1, .ro (prows b)), (12, .int .i64 (a.length : Int)), (13, .int .i64 (k : Int))]) (H := fun _ => ⟨[], []⟩) (r := fun k => some (AV.bool (sameB (a.drop k) (b.drop k)))) (μ := fun k => a.length - k) (fun i => ?_) (fun k ih => ?_) 0 rfl rfl)
    · simp [LPB]
    · by_cases hk : k < a.length
      · have f1 : (k : Int) < (a.length : Int) := by omega
        have f2 : (0 : Int) ≤ (k : Int) := by omega
        have f6 : IntKind.i64.wrap ((k : Int) + 1) = ((k + 1 : Nat) : Int) := by rw [IntWalk.i64_in _ (by omega)] <;> omega
        have g1 := prows_get a hk
        have g2 := prows_get b (show k < b.length by omega)
        rw [List.drop_eq_getElem_cons hk, List.drop_eq_getElem_cons (show k < b.length by omega), sameB]
        by_cases h : a[k] = b[k]
        · simp only [RB, pickV, eqbV, notV, negV, convV, faddrV, fldV, idxV, eqaggV, iaddrV, isnilV, nilckV, pnilV, cloV, extrV, slenV, minV, sidxV, abin, cmpInt, params, growLists, fillCells, newAt, rdPtr, wrPtr, AV.cells, asVal, lenOf, boundOf, rowsOf, argIds, freshIn, scalar1, setAll, AV.isData, AV.isYld, Nat.reduceAdd, Nat.reduceMul, Nat.reduceSub, Nat.reduceEqDiff, Nat.reduceLeDiff, Nat.reduceLT, Int.reduceNeg, ↓reduceIte, reduceCtorEq, Int.reduceEq, Int.reduceLT, Int.reduceLE, Int.reduceBEq, Int.reduceBNe, Int.reduceToNat, IntKind.bits, Int.reduceAdd, Int.reduceSub, Int.reduceMul, Int.reduceTDiv, Int.reduceTMod, DB, f1, f2, f6, g1, g2, h]
          exact ih (k + 1) (by omega)
        · simp only [RB, pickV, eqbV, notV, negV, convV, faddrV, fldV, idxV, eqaggV, iaddrV, isnilV, nilckV, pnilV, cloV, extrV, slenV, minV, sidxV, abin, cmpInt, params, growLists, fillCells, newAt, rdPtr, wrPtr, AV.cells, asVal, lenOf, boundOf, rowsOf, argIds, freshIn, scalar1, setAll, AV.isData, AV.isYld, Nat.reduceAdd, Nat.reduceMul, Nat.reduceSub, Nat.reduceEqDiff, Nat.reduceLeDiff, Nat.reduceLT, Int.reduceNeg, ↓reduceIte, reduceCtorEq, Int.reduceEq, Int.reduceLT, Int.reduceLE, Int.reduceBEq, Int.reduceBNe, Int.reduceToNat, IntKind.bits, Int.reduceAdd, Int.reduceSub, Int.reduceMul, Int.reduceTDiv, Int.reduceTMod, DB, f1, f2, f6, g1, g2, h]
      · simp only [RB, pickV, eqbV, notV, negV, convV, faddrV, fldV, idxV, eqaggV, iaddrV, isnilV, nilckV, pnilV, cloV, extrV, slenV, minV, sidxV, abin, cmpInt, params, growLists, fillCells, newAt, rdPtr, wrPtr, AV.cells, asVal, lenOf, boundOf, rowsOf, argIds, freshIn, scalar1, setAll, AV.isData, AV.isYld, Nat.reduceAdd, Nat.reduceMul, Nat.reduceSub, Nat.reduceEqDiff, Nat.reduceLeDiff, Nat.reduceLT, Int.reduceNeg, ↓reduceIte, reduceCtorEq, Int.reduceEq, Int.reduceLT, Int.reduceLE, Int.reduceBEq, Int.reduceBNe, Int.reduceToNat, IntKind.bits, Int.reduceAdd, Int.reduceSub, Int.reduceMul, Int.reduceTDiv, Int.reduceTMod, DB, show ¬ (k : Int) < (a.length : Int) by omega]
        rw [List.drop_eq_nil_of_le (by omega)]; rfl
  · simp only [RB, pickV, eqbV, notV, negV, convV, faddrV, fldV, idxV, eqaggV, iaddrV, isnilV, nilckV, pnilV, cloV, extrV, slenV, minV, sidxV, abin, cmpInt, params, growLists, fillCells, newAt, rdPtr, wrPtr, AV.cells, asVal, lenOf, boundOf, rowsOf, argIds, freshIn, scalar1, setAll, AV.isData, AV.isYld, Nat.reduceAdd, Nat.reduceMul, Nat.reduceSub, Nat.reduceEqDiff, Nat.reduceLeDiff, Nat.reduceLT, Int.reduceNeg, ↓reduceIte, reduceCtorEq, Int.reduceEq, Int.reduceLT, Int.reduceLE, Int.reduceBEq, Int.reduceBNe, Int.reduceToNat, IntKind.bits, Int.reduceAdd, Int.reduceSub, Int.reduceMul, Int.reduceTDiv, Int.reduceTMod, prows_len, show ((a.length : Int) != (b.length : Int)) = true by rw [bne_iff_ne]; omega]
    rw [decide_eq_false fun h => hl (by rw [h])]
theorem e29 (a b : List Pfx) (ha : a.length ≤ 4611686018427387904) : LV E 29 [.ro (prows a), .ro (prows b)] = some (.bool (decide (a = b))) := by
  rw [← e13 a b ha, LV_R (fn := f29) rfl rfl rfl, LV_R (fn := f13) rfl rfl rfl]; rfl
theorem e12 (l : List Pfx) (ha : l.length ≤ 4611686018427387904) : LV E 12 [.ro (prows l)] = some (.bool (okB l)) := by
  rw [LV_R (fn := f12) rfl rfl rfl]
  simp only [f12, RB, pickV, eqbV, notV, negV, convV, faddrV, fldV, idxV, eqaggV, iaddrV, isnilV, nilckV, pnilV, cloV, extrV, slenV, minV, sidxV, abin, cmpInt, params, growLists, fillCells, newAt, rdPtr, wrPtr, AV.cells, asVal, lenOf, boundOf, rowsOf, argIds, freshIn, scalar1, setAll, AV.isData, AV.isYld, Nat.reduceAdd, Nat.reduceMul, Nat.reduceSub, Nat.reduceEqDiff, Nat.reduceLeDiff, Nat.reduceLT, Int.reduceNeg, ↓reduceIte, reduceCtorEq, Int.reduceEq, Int.reduceLT, Int.reduceLE, Int.reduceBEq, Int.reduceBNe, Int.reduceToNat, IntKind.bits, Int.reduceAdd, Int.reduceSub, Int.reduceMul, Int.reduceTDiv, Int.reduceTMod, prows_len]
  refine (W_rec2 (β := AV) (ι := Nat) (M := fun k => [(5, .ro (prows l)), (6, .int .i64 (l.length : Int)), (7, .int .i64 (k : Int))]) (H := fun _ => ⟨[], []⟩) (r := fun k => some (AV.bool (okB (l.drop k)))) (μ := fun k => l.length - k) (fun i => ?_) (fun k ih => ?_) 0 rfl rfl)
  · simp [LPB]
  · by_cases hk : k < l.length
    · have f1 : (k : Int) < (l.length : Int) := by omega
      have f2 : (0 : Int) ≤ (k : Int) := by omega
      have f6 : IntKind.i64.wrap ((k : Int) + 1) = ((k + 1 : Nat) : Int) := by rw [IntWalk.i64_in _ (by omega)] <;> omega
      have g1 := prows_get l hk
      rw [List.drop_eq_getElem_cons hk, show okB (l[k] :: l.drop (k + 1)) = (decide (PfxOk l[k]) && okB (l.drop (k + 1))) from rfl]
      by_cases h : PfxOk l[k]
      · simp only [RB, pickV, eqbV, notV, negV, convV, faddrV, fldV, idxV, eqaggV, iaddrV, isnilV, nilckV, pnilV, cloV, extrV, slenV, minV, sidxV, abin, cmpInt, params, growLists, fillCells, newAt, rdPtr, wrPtr, AV.cells, asVal, lenOf, boundOf, rowsOf, argIds, freshIn, scalar1, setAll, AV.isData, AV.isYld, Nat.reduceAdd, Nat.reduceMul, Nat.reduceSub, Nat.reduceEqDiff, Nat.reduceLeDiff, Nat.reduceLT, Int.reduceNeg, ↓reduceIte, reduceCtorEq, Int.reduceEq, Int.reduceLT, Int.reduceLE, Int.reduceBEq, Int.reduceBNe, Int.reduceToNat, IntKind.bits, Int.reduceAdd, Int.reduceSub, Int.reduceMul, Int.reduceTDiv, Int.reduceTMod, DB, f1, f2, f6, g1, e_ref05_Right, h]
        exact ih (k + 1) (by omega)
      · simp only [RB, pickV, eqbV, notV, negV, convV, faddrV, fldV, idxV, eqaggV, iaddrV, isnilV, nilckV, pnilV, cloV, extrV, slenV, minV, sidxV, abin, cmpInt, params, growLists, fillCells, newAt, rdPtr, wrPtr, AV.cells, asVal, lenOf, boundOf, rowsOf, argIds, freshIn, scalar1, setAll, AV.isData, AV.isYld, Nat.reduceAdd, Nat.reduceMul, Nat.reduceSub, Nat.reduceEqDiff, Nat.reduceLeDiff, Nat.reduceLT, Int.reduceNeg, ↓reduceIte, reduceCtorEq, Int.reduceEq, Int.reduceLT, Int.reduceLE, Int.reduceBEq, Int.reduceBNe, Int.reduceToNat, IntKind.bits, Int.reduceAdd, Int.reduceSub, Int.reduceMul, Int.reduceTDiv, Int.reduceTMod, DB, f1, f2, f6, g1, e_ref05_Right, h]
    · simp only [RB, pickV, eqbV, notV, negV, convV, faddrV, fldV, idxV, eqaggV, iaddrV, isnilV, nilckV, pnilV, cloV, extrV, slenV, minV, sidxV, abin, cmpInt, params, growLists, fillCells, newAt, rdPtr, wrPtr, AV.cells, asVal, lenOf, boundOf, rowsOf, argIds, freshIn, scalar1, setAll, AV.isData, AV.isYld, Nat.reduceAdd, Nat.reduceMul, Nat.reduceSub, Nat.reduceEqDiff, Nat.reduceLeDiff, Nat.reduceLT, Int.reduceNeg, ↓reduceIte, reduceCtorEq, Int.reduceEq, Int.reduceLT, Int.reduceLE, Int.reduceBEq, Int.reduceBNe, Int.reduceToNat, IntKind.bits, Int.reduceAdd, Int.reduceSub, Int.reduceMul, Int.reduceTDiv, Int.reduceTMod, DB, show ¬ (k : Int) < (l.length : Int) by omega]
      rw [List.drop_eq_nil_of_le (by omega)]; rfl
theorem e61 (l : List Pfx) (p : Pfx) (ha : l.length ≤ 4611686018427387904) : LV E 61 [.ro (prows l), .agg (pav p)] = some (.int .i64 (statS l p)) := by
  rw [LV_R (fn := f61) rfl rfl rfl]
  rw [show statS l p = statF p l 0 by rw [statF_S]; rfl]
  simp only [f61, RB, pickV, eqbV, notV, negV, convV, faddrV, fldV, idxV, eqaggV, iaddrV, isnilV, nilckV, pnilV, cloV, extrV, slenV, minV, sidxV, abin, cmpInt, params, growLists, fillCells, newAt, rdPtr, wrPtr, AV.cells, asVal, lenOf, boundOf, rowsOf, argIds, freshIn, scalar1, setAll, AV.isData, AV.isYld, Nat.reduceAdd, Nat.reduceMul, Nat.reduceSub, Nat.reduceEqDiff, Nat.reduceLeDiff, Nat.reduceLT, Int.reduceNeg, ↓reduceIte, reduceCtorEq, Int.reduceEq, Int.reduceLT, Int.reduceLE, Int.reduceBEq, Int.reduceBNe, Int.reduceToNat, IntKind.bits, Int.reduceAdd, Int.reduceSub, Int.reduceMul, Int.reduceTDiv, Int.reduceTMod, DB, prows_len]
  refine (W_rec2 (β := AV) (ι := Nat × Int) (M := fun s => [(3, .ptr 0 0 0 0), (5, .int .i64 s.2), (8, .ro (prows l)), (9, .int .i64 (l.length : Int)), (10, .int .i64 (s.1 : Int))]) (H := fun _ => ⟨[.box 0 37 (pav p)], []⟩) (r := fun s => some (AV.int .i64 (statF p (l.drop s.1) s.2))) (μ := fun s => l.length - s.1) (fun i => ?_) (fun s ih => ?_) (0, 0) rfl rfl)
  · simp [LPB]
  · obtain ⟨k, s⟩ := s
    simp only at ih ⊢
    by_cases hk : k < l.length
    · have f1 : (k : Int) < (l.length : Int) := by omega
      have f2 : (0 : Int) ≤ (k : Int) := by omega
      have f6 : IntKind.i64.wrap ((k : Int) + 1) = ((k + 1 : Nat) : Int) := by rw [IntWalk.i64_in _ (by omega)] <;> omega
      have g1 := prows_get l hk
      rw [List.drop_eq_getElem_cons hk, statF]
      by_cases h : Holds l[k] p
      · simp only [RB, pickV, eqbV, notV, negV, convV, faddrV, fldV, idxV, eqaggV, iaddrV, isnilV, nilckV, pnilV, cloV, extrV, slenV, minV, sidxV, abin, cmpInt, params, growLists, fillCells, newAt, rdPtr, wrPtr, AV.cells, asVal, lenOf, boundOf, rowsOf, argIds, freshIn, scalar1, setAll, AV.isData, AV.isYld, Nat.reduceAdd, Nat.reduceMul, Nat.reduceSub, Nat.reduceEqDiff, Nat.reduceLeDiff, Nat.reduceLT, Int.reduceNeg, ↓reduceIte, reduceCtorEq, Int.reduceEq, Int.reduceLT, Int.reduceLE, Int.reduceBEq, Int.reduceBNe, Int.reduceToNat, IntKind.bits, Int.reduceAdd, Int.reduceSub, Int.reduceMul, Int.reduceTDiv, Int.reduceTMod, DB, f1, f2, f6, g1, e_ref05_Holds, h]
      · by_cases h2 : Holds p l[k]
        · simp only [RB, pickV, eqbV, notV, negV, convV, faddrV, fldV, idxV, eqaggV, iaddrV, isnilV, nilckV, pnilV, cloV, extrV, slenV, minV, sidxV, abin, cmpInt, params, growLists, fillCells, newAt, rdPtr, wrPtr, AV.cells, asVal, lenOf, boundOf, rowsOf, argIds, freshIn, scalar1, setAll, AV.isData, AV.isYld, Nat.reduceAdd, Nat.reduceMul, Nat.reduceSub, Nat.reduceEqDiff, Nat.reduceLeDiff, Nat.reduceLT, Int.reduceNeg, ↓reduceIte, reduceCtorEq, Int.reduceEq, Int.reduceLT, Int.reduceLE, Int.reduceBEq, Int.reduceBNe, Int.reduceToNat, IntKind.bits, Int.reduceAdd, Int.reduceSub, Int.reduceMul, Int.reduceTDiv, Int.reduceTMod, DB, f1, f2, f6, g1, e_ref05_Holds, h, h2]
          exact ih (k + 1, 1) (by simp only; omega)
        · simp only [RB, pickV, eqbV, notV, negV, convV, faddrV, fldV, idxV, eqaggV, iaddrV, isnilV, nilckV, pnilV, cloV, extrV, slenV, minV, sidxV, abin, cmpInt, params, growLists, fillCells, newAt, rdPtr, wrPtr, AV.cells, asVal, lenOf, boundOf, rowsOf, argIds, freshIn, scalar1, setAll, AV.isData, AV.isYld, Nat.reduceAdd, Nat.reduceMul, Nat.reduceSub, Nat.reduceEqDiff, Nat.reduceLeDiff, Nat.reduceLT, Int.reduceNeg, ↓reduceIte, reduceCtorEq, Int.reduceEq, Int.reduceLT, Int.reduceLE, Int.reduceBEq, Int.reduceBNe, Int.reduceToNat, IntKind.bits, Int.reduceAdd, Int.reduceSub, Int.reduceMul, Int.reduceTDiv, Int.reduceTMod, DB, f1, f2, f6, g1, e_ref05_Holds, h, h2]
          exact ih (k + 1, s) (by simp only; omega)
    · simp only [RB, pickV, eqbV, notV, negV, convV, faddrV, fldV, idxV, eqaggV, iaddrV, isnilV, nilckV, pnilV, cloV, extrV, slenV, minV, sidxV, abin, cmpInt, params, growLists, fillCells, newAt, rdPtr, wrPtr, AV.cells, asVal, lenOf, boundOf, rowsOf, argIds, freshIn, scalar1, setAll, AV.isData, AV.isYld, Nat.reduceAdd, Nat.reduceMul, Nat.reduceSub, Nat.reduceEqDiff, Nat.reduceLeDiff, Nat.reduceLT, Int.reduceNeg, ↓reduceIte, reduceCtorEq, Int.reduceEq, Int.reduceLT, Int.reduceLE, Int.reduceBEq, Int.reduceBNe, Int.reduceToNat, IntKind.bits, Int.reduceAdd, Int.reduceSub, Int.reduceMul, Int.reduceTDiv, Int.reduceTMod, DB, show ¬ (k : Int) < (l.length : Int) by omega]
      rw [List.drop_eq_nil_of_le (by omega)]; rfl
theorem e60 (kind a b : Int) : LV E 60 [.int .i64 kind, .int .i64 a, .int .i64 b] = some (.int .i64 (whatS kind a b)) := by
  rw [LV_R (fn := f60) rfl rfl rfl]
  unfold whatS
  simp only [f60, RB, pickV, eqbV, notV, negV, convV, faddrV, fldV, idxV, eqaggV, iaddrV, isnilV, nilckV, pnilV, cloV, extrV, slenV, minV, sidxV, abin, cmpInt, params, growLists, fillCells, newAt, rdPtr, wrPtr, AV.cells, asVal, lenOf, boundOf, rowsOf, argIds, freshIn, scalar1, setAll, AV.isData, AV.isYld, Nat.reduceAdd, Nat.reduceMul, Nat.reduceSub, Nat.reduceEqDiff, Nat.reduceLeDiff, Nat.reduceLT, Int.reduceNeg, ↓reduceIte, reduceCtorEq, Int.reduceEq, Int.reduceLT, Int.reduceLE, Int.reduceBEq, Int.reduceBNe, Int.reduceToNat, IntKind.bits, Int.reduceAdd, Int.reduceSub, Int.reduceMul, Int.reduceTDiv, Int.reduceTMod]
  have ne : ∀ {x y : Int}, ¬ x = y → (x == y) = false := fun h => by rw [beq_eq_false_iff_ne]; exact h
  by_cases k0 : kind = 0
  · subst k0
    by_cases a2 : a = 2
    · subst a2; simp only [RB, pickV, eqbV, notV, negV, convV, faddrV, fldV, idxV, eqaggV, iaddrV, isnilV, nilckV, pnilV, cloV, extrV, slenV, minV, sidxV, abin, cmpInt, params, growLists, fillCells, newAt, rdPtr, wrPtr, AV.cells, asVal, lenOf, boundOf, rowsOf, argIds, freshIn, scalar1, setAll, AV.isData, AV.isYld, Nat.reduceAdd, Nat.reduceMul, Nat.reduceSub, Nat.reduceEqDiff, Nat.reduceLeDiff, Nat.reduceLT, Int.reduceNeg, ↓reduceIte, reduceCtorEq, Int.reduceEq, Int.reduceLT, Int.reduceLE, Int.reduceBEq, Int.reduceBNe, Int.reduceToNat, IntKind.bits, Int.reduceAdd, Int.reduceSub, Int.reduceMul, Int.reduceTDiv, Int.reduceTMod]
    · by_cases b2 : b = 2
      · subst b2; simp only [RB, pickV, eqbV, notV, negV, convV, faddrV, fldV, idxV, eqaggV, iaddrV, isnilV, nilckV, pnilV, cloV, extrV, slenV, minV, sidxV, abin, cmpInt, params, growLists, fillCells, newAt, rdPtr, wrPtr, AV.cells, asVal, lenOf, boundOf, rowsOf, argIds, freshIn, scalar1, setAll, AV.isData, AV.isYld, Nat.reduceAdd, Nat.reduceMul, Nat.reduceSub, Nat.reduceEqDiff, Nat.reduceLeDiff, Nat.reduceLT, Int.reduceNeg, ↓reduceIte, reduceCtorEq, Int.reduceEq, Int.reduceLT, Int.reduceLE, Int.reduceBEq, Int.reduceBNe, Int.reduceToNat, IntKind.bits, Int.reduceAdd, Int.reduceSub, Int.reduceMul, Int.reduceTDiv, Int.reduceTMod, ne a2]
      · by_cases a0 : a = 0
        · subst a0
          by_cases b0 : b = 0
          · subst b0; simp only [RB, pickV, eqbV, notV, negV, convV, faddrV, fldV, idxV, eqaggV, iaddrV, isnilV, nilckV, pnilV, cloV, extrV, slenV, minV, sidxV, abin, cmpInt, params, growLists, fillCells, newAt, rdPtr, wrPtr, AV.cells, asVal, lenOf, boundOf, rowsOf, argIds, freshIn, scalar1, setAll, AV.isData, AV.isYld, Nat.reduceAdd, Nat.reduceMul, Nat.reduceSub, Nat.reduceEqDiff, Nat.reduceLeDiff, Nat.reduceLT, Int.reduceNeg, ↓reduceIte, reduceCtorEq, Int.reduceEq, Int.reduceLT, Int.reduceLE, Int.reduceBEq, Int.reduceBNe, Int.reduceToNat, IntKind.bits, Int.reduceAdd, Int.reduceSub, Int.reduceMul, Int.reduceTDiv, Int.reduceTMod]
          · simp only [RB, pickV, eqbV, notV, negV, convV, faddrV, fldV, idxV, eqaggV, iaddrV, isnilV, nilckV, pnilV, cloV, extrV, slenV, minV, sidxV, abin, cmpInt, params, growLists, fillCells, newAt, rdPtr, wrPtr, AV.cells, asVal, lenOf, boundOf, rowsOf, argIds, freshIn, scalar1, setAll, AV.isData, AV.isYld, Nat.reduceAdd, Nat.reduceMul, Nat.reduceSub, Nat.reduceEqDiff, Nat.reduceLeDiff, Nat.reduceLT, Int.reduceNeg, ↓reduceIte, reduceCtorEq, Int.reduceEq, Int.reduceLT, Int.reduceLE, Int.reduceBEq, Int.reduceBNe, Int.reduceToNat, IntKind.bits, Int.reduceAdd, Int.reduceSub, Int.reduceMul, Int.reduceTDiv, Int.reduceTMod, ne b2, b2, ne b0, b0]
        · simp only [RB, pickV, eqbV, notV, negV, convV, faddrV, fldV, idxV, eqaggV, iaddrV, isnilV, nilckV, pnilV, cloV, extrV, slenV, minV, sidxV, abin, cmpInt, params, growLists, fillCells, newAt, rdPtr, wrPtr, AV.cells, asVal, lenOf, boundOf, rowsOf, argIds, freshIn, scalar1, setAll, AV.isData, AV.isYld, Nat.reduceAdd, Nat.reduceMul, Nat.reduceSub, Nat.reduceEqDiff, Nat.reduceLeDiff, Nat.reduceLT, Int.reduceNeg, ↓reduceIte, reduceCtorEq, Int.reduceEq, Int.reduceLT, Int.reduceLE, Int.reduceBEq, Int.reduceBNe, Int.reduceToNat, IntKind.bits, Int.reduceAdd, Int.reduceSub, Int.reduceMul, Int.reduceTDiv, Int.reduceTMod, ne a2, a2, ne b2, b2, ne a0, a0]
  · by_cases k1 : kind = 1
    · subst k1
      by_cases a0 : a = 0
      · subst a0; simp only [RB, pickV, eqbV, notV, negV, convV, faddrV, fldV, idxV, eqaggV, iaddrV, isnilV, nilckV, pnilV, cloV, extrV, slenV, minV, sidxV, abin, cmpInt, params, growLists, fillCells, newAt, rdPtr, wrPtr, AV.cells, asVal, lenOf, boundOf, rowsOf, argIds, freshIn, scalar1, setAll, AV.isData, AV.isYld, Nat.reduceAdd, Nat.reduceMul, Nat.reduceSub, Nat.reduceEqDiff, Nat.reduceLeDiff, Nat.reduceLT, Int.reduceNeg, ↓reduceIte, reduceCtorEq, Int.reduceEq, Int.reduceLT, Int.reduceLE, Int.reduceBEq, Int.reduceBNe, Int.reduceToNat, IntKind.bits, Int.reduceAdd, Int.reduceSub, Int.reduceMul, Int.reduceTDiv, Int.reduceTMod]
      · by_cases b0 : b = 0
        · subst b0; simp only [RB, pickV, eqbV, notV, negV, convV, faddrV, fldV, idxV, eqaggV, iaddrV, isnilV, nilckV, pnilV, cloV, extrV, slenV, minV, sidxV, abin, cmpInt, params, growLists, fillCells, newAt, rdPtr, wrPtr, AV.cells, asVal, lenOf, boundOf, rowsOf, argIds, freshIn, scalar1, setAll, AV.isData, AV.isYld, Nat.reduceAdd, Nat.reduceMul, Nat.reduceSub, Nat.reduceEqDiff, Nat.reduceLeDiff, Nat.reduceLT, Int.reduceNeg, ↓reduceIte, reduceCtorEq, Int.reduceEq, Int.reduceLT, Int.reduceLE, Int.reduceBEq, Int.reduceBNe, Int.reduceToNat, IntKind.bits, Int.reduceAdd, Int.reduceSub, Int.reduceMul, Int.reduceTDiv, Int.reduceTMod, ne a0]
        · by_cases a2 : a = 2
          · subst a2
            by_cases b2 : b = 2
            · subst b2; simp only [RB, pickV, eqbV, notV, negV, convV, faddrV, fldV, idxV, eqaggV, iaddrV, isnilV, nilckV, pnilV, cloV, extrV, slenV, minV, sidxV, abin, cmpInt, params, growLists, fillCells, newAt, rdPtr, wrPtr, AV.cells, asVal, lenOf, boundOf, rowsOf, argIds, freshIn, scalar1, setAll, AV.isData, AV.isYld, Nat.reduceAdd, Nat.reduceMul, Nat.reduceSub, Nat.reduceEqDiff, Nat.reduceLeDiff, Nat.reduceLT, Int.reduceNeg, ↓reduceIte, reduceCtorEq, Int.reduceEq, Int.reduceLT, Int.reduceLE, Int.reduceBEq, Int.reduceBNe, Int.reduceToNat, IntKind.bits, Int.reduceAdd, Int.reduceSub, Int.reduceMul, Int.reduceTDiv, Int.reduceTMod]
            · simp only [RB, pickV, eqbV, notV, negV, convV, faddrV, fldV, idxV, eqaggV, iaddrV, isnilV, nilckV, pnilV, cloV, extrV, slenV, minV, sidxV, abin, cmpInt, params, growLists, fillCells, newAt, rdPtr, wrPtr, AV.cells, asVal, lenOf, boundOf, rowsOf, argIds, freshIn, scalar1, setAll, AV.isData, AV.isYld, Nat.reduceAdd, Nat.reduceMul, Nat.reduceSub, Nat.reduceEqDiff, Nat.reduceLeDiff, Nat.reduceLT, Int.reduceNeg, ↓reduceIte, reduceCtorEq, Int.reduceEq, Int.reduceLT, Int.reduceLE, Int.reduceBEq, Int.reduceBNe, Int.reduceToNat, IntKind.bits, Int.reduceAdd, Int.reduceSub, Int.reduceMul, Int.reduceTDiv, Int.reduceTMod, ne b0, b0, ne b2, b2]
          · simp only [RB, pickV, eqbV, notV, negV, convV, faddrV, fldV, idxV, eqaggV, iaddrV, isnilV, nilckV, pnilV, cloV, extrV, slenV, minV, sidxV, abin, cmpInt, params, growLists, fillCells, newAt, rdPtr, wrPtr, AV.cells, asVal, lenOf, boundOf, rowsOf, argIds, freshIn, scalar1, setAll, AV.isData, AV.isYld, Nat.reduceAdd, Nat.reduceMul, Nat.reduceSub, Nat.reduceEqDiff, Nat.reduceLeDiff, Nat.reduceLT, Int.reduceNeg, ↓reduceIte, reduceCtorEq, Int.reduceEq, Int.reduceLT, Int.reduceLE, Int.reduceBEq, Int.reduceBNe, Int.reduceToNat, IntKind.bits, Int.reduceAdd, Int.reduceSub, Int.reduceMul, Int.reduceTDiv, Int.reduceTMod, ne a0, a0, ne b0, b0, ne a2, a2]
    · by_cases a0 : a = 0
      · subst a0; simp only [RB, pickV, eqbV, notV, negV, convV, faddrV, fldV, idxV, eqaggV, iaddrV, isnilV, nilckV, pnilV, cloV, extrV, slenV, minV, sidxV, abin, cmpInt, params, growLists, fillCells, newAt, rdPtr, wrPtr, AV.cells, asVal, lenOf, boundOf, rowsOf, argIds, freshIn, scalar1, setAll, AV.isData, AV.isYld, Nat.reduceAdd, Nat.reduceMul, Nat.reduceSub, Nat.reduceEqDiff, Nat.reduceLeDiff, Nat.reduceLT, Int.reduceNeg, ↓reduceIte, reduceCtorEq, Int.reduceEq, Int.reduceLT, Int.reduceLE, Int.reduceBEq, Int.reduceBNe, Int.reduceToNat, IntKind.bits, Int.reduceAdd, Int.reduceSub, Int.reduceMul, Int.reduceTDiv, Int.reduceTMod, ne k0, k0, ne k1, k1]
      · by_cases b2 : b = 2
        · subst b2; simp only [RB, pickV, eqbV, notV, negV, convV, faddrV, fldV, idxV, eqaggV, iaddrV, isnilV, nilckV, pnilV, cloV, extrV, slenV, minV, sidxV, abin, cmpInt, params, growLists, fillCells, newAt, rdPtr, wrPtr, AV.cells, asVal, lenOf, boundOf, rowsOf, argIds, freshIn, scalar1, setAll, AV.isData, AV.isYld, Nat.reduceAdd, Nat.reduceMul, Nat.reduceSub, Nat.reduceEqDiff, Nat.reduceLeDiff, Nat.reduceLT, Int.reduceNeg, ↓reduceIte, reduceCtorEq, Int.reduceEq, Int.reduceLT, Int.reduceLE, Int.reduceBEq, Int.reduceBNe, Int.reduceToNat, IntKind.bits, Int.reduceAdd, Int.reduceSub, Int.reduceMul, Int.reduceTDiv, Int.reduceTMod, ne k0, k0, ne k1, k1, ne a0, a0]
        · by_cases a2 : a = 2
          · subst a2
            by_cases b0 : b = 0
            · subst b0; simp only [RB, pickV, eqbV, notV, negV, convV, faddrV, fldV, idxV, eqaggV, iaddrV, isnilV, nilckV, pnilV, cloV, extrV, slenV, minV, sidxV, abin, cmpInt, params, growLists, fillCells, newAt, rdPtr, wrPtr, AV.cells, asVal, lenOf, boundOf, rowsOf, argIds, freshIn, scalar1, setAll, AV.isData, AV.isYld, Nat.reduceAdd, Nat.reduceMul, Nat.reduceSub, Nat.reduceEqDiff, Nat.reduceLeDiff, Nat.reduceLT, Int.reduceNeg, ↓reduceIte, reduceCtorEq, Int.reduceEq, Int.reduceLT, Int.reduceLE, Int.reduceBEq, Int.reduceBNe, Int.reduceToNat, IntKind.bits, Int.reduceAdd, Int.reduceSub, Int.reduceMul, Int.reduceTDiv, Int.reduceTMod, ne k0, k0, ne k1, k1]
            · simp only [RB, pickV, eqbV, notV, negV, convV, faddrV, fldV, idxV, eqaggV, iaddrV, isnilV, nilckV, pnilV, cloV, extrV, slenV, minV, sidxV, abin, cmpInt, params, growLists, fillCells, newAt, rdPtr, wrPtr, AV.cells, asVal, lenOf, boundOf, rowsOf, argIds, freshIn, scalar1, setAll, AV.isData, AV.isYld, Nat.reduceAdd, Nat.reduceMul, Nat.reduceSub, Nat.reduceEqDiff, Nat.reduceLeDiff, Nat.reduceLT, Int.reduceNeg, ↓reduceIte, reduceCtorEq, Int.reduceEq, Int.reduceLT, Int.reduceLE, Int.reduceBEq, Int.reduceBNe, Int.reduceToNat, IntKind.bits, Int.reduceAdd, Int.reduceSub, Int.reduceMul, Int.reduceTDiv, Int.reduceTMod, ne k0, k0, ne k1, k1, ne b0, b0, ne b2, b2]
          · simp only [RB, pickV, eqbV, notV, negV, convV, faddrV, fldV, idxV, eqaggV, iaddrV, isnilV, nilckV, pnilV, cloV, extrV, slenV, minV, sidxV, abin, cmpInt, params, growLists, fillCells, newAt, rdPtr, wrPtr, AV.cells, asVal, lenOf, boundOf, rowsOf, argIds, freshIn, scalar1, setAll, AV.isData, AV.isYld, Nat.reduceAdd, Nat.reduceMul, Nat.reduceSub, Nat.reduceEqDiff, Nat.reduceLeDiff, Nat.reduceLT, Int.reduceNeg, ↓reduceIte, reduceCtorEq, Int.reduceEq, Int.reduceLT, Int.reduceLE, Int.reduceBEq, Int.reduceBNe, Int.reduceToNat, IntKind.bits, Int.reduceAdd, Int.reduceSub, Int.reduceMul, Int.reduceTDiv, Int.reduceTMod, ne k0, k0, ne k1, k1, ne a0, a0, ne b2, b2, ne a2, a2]
theorem r52 {ys : List Hd} {bs : List Blk} {pend : List (Option AExit)} (p : Pfx) : LR E ys 52 [.agg (pav p)] ⟨bs, pend⟩ = some (.bool (!decide (PfxOk p)), ⟨bs ++ [.box 0 37 (pav p)], pend⟩) := by
  rw [LR_R (fn := f52) rfl rfl rfl]
  by_cases h : PfxOk p
  · simp only [f52, RB, pickV, eqbV, notV, negV, convV, faddrV, fldV, idxV, eqaggV, iaddrV, isnilV, nilckV, pnilV, cloV, extrV, slenV, minV, sidxV, abin, cmpInt, params, growLists, fillCells, newAt, rdPtr, wrPtr, AV.cells, asVal, lenOf, boundOf, rowsOf, argIds, freshIn, scalar1, setAll, AV.isData, AV.isYld, Nat.reduceAdd, Nat.reduceMul, Nat.reduceSub, Nat.reduceEqDiff, Nat.reduceLeDiff, Nat.reduceLT, Int.reduceNeg, ↓reduceIte, reduceCtorEq, Int.reduceEq, Int.reduceLT, Int.reduceLE, Int.reduceBEq, Int.reduceBNe, Int.reduceToNat, IntKind.bits, Int.reduceAdd, Int.reduceSub, Int.reduceMul, Int.reduceTDiv, Int.reduceTMod, DB, R7B, e_prefix_Check, h, bne_self_eq_false]
  · simp only [f52, RB, pickV, eqbV, notV, negV, convV, faddrV, fldV, idxV, eqaggV, iaddrV, isnilV, nilckV, pnilV, cloV, extrV, slenV, minV, sidxV, abin, cmpInt, params, growLists, fillCells, newAt, rdPtr, wrPtr, AV.cells, asVal, lenOf, boundOf, rowsOf, argIds, freshIn, scalar1, setAll, AV.isData, AV.isYld, Nat.reduceAdd, Nat.reduceMul, Nat.reduceSub, Nat.reduceEqDiff, Nat.reduceLeDiff, Nat.reduceLT, Int.reduceNeg, ↓reduceIte, reduceCtorEq, Int.reduceEq, Int.reduceLT, Int.reduceLE, Int.reduceBEq, Int.reduceBNe, Int.reduceToNat, IntKind.bits, Int.reduceAdd, Int.reduceSub, Int.reduceMul, Int.reduceTDiv, Int.reduceTMod, DB, R7B, e_prefix_Check, h, show ((151 : Int) != 0) = true from rfl]
theorem e32 (l : List Pfx) (ha : l.length ≤ 4611686018427387904) : LV E 32 [.ro (prows l)] = some (.bool (!okB l)) := by
  rw [LV_R (fn := f32) rfl rfl rfl]
  have h := r50 (ys := []) (bs := []) (pend := []) (v := .ro (prows l)) (l := l) (P := fun p => !decide (PfxOk p)) (g := 52) (caps := []) ha (SlV.ro (prows_k l)) (fun ys pend ext x => ⟨_, r52 x⟩) rfl rfl
  have hs : shrink false 0 (.bool (l.any fun p => !decide (PfxOk p))) ⟨[], []⟩ = some ⟨[], []⟩ := rfl
  simp only [f32, RB, pickV, eqbV, notV, negV, convV, faddrV, fldV, idxV, eqaggV, iaddrV, isnilV, nilckV, pnilV, cloV, extrV, slenV, minV, sidxV, abin, cmpInt, params, growLists, fillCells, newAt, rdPtr, wrPtr, AV.cells, asVal, lenOf, boundOf, rowsOf, argIds, freshIn, scalar1, setAll, AV.isData, AV.isYld, Nat.reduceAdd, Nat.reduceMul, Nat.reduceSub, Nat.reduceEqDiff, Nat.reduceLeDiff, Nat.reduceLT, Int.reduceNeg, ↓reduceIte, reduceCtorEq, Int.reduceEq, Int.reduceLT, Int.reduceLE, Int.reduceBEq, Int.reduceBNe, Int.reduceToNat, IntKind.bits, Int.reduceAdd, Int.reduceSub, Int.reduceMul, Int.reduceTDiv, Int.reduceTMod, R7B, h, hs]
  congr 2
  unfold okB
  rw [List.not_all_eq_any_not]
end Go.Proofs.YtnpdaegfmfkghaaDoor.F

/- Rows of prefixes, one behind the other. No condition. -/
set_option linter.unusedSimpArgs false
namespace Go.Proofs.YtnpdaegfmfkghaaDoor.D
open Go Go.Proofs.YtnpdaegfmfkghaaDoor.A
def xrows (ls : List (List Pfx)) : List (List AV) := ls.map fun l => [.ro (prows l)]
theorem xrows_len (ls : List (List Pfx)) : (xrows ls).length = ls.length := by simp [xrows]
theorem xrows_get (ls : List (List Pfx)) {i : Nat} (h : i < ls.length) : (xrows ls)[i]? = some [.ro (prows ls[i])] := by simp [xrows, h]
theorem flat_le {ls : List (List Pfx)} (k : Nat) : (ls.take k).flatten.length ≤ ls.flatten.length := by
  conv => rhs; rw [← List.take_append_drop k ls]
  rw [List.flatten_append, List.length_append]; omega
theorem flat_next {ls : List (List Pfx)} {k : Nat} (h : k < ls.length) : (ls.take (k + 1)).flatten = (ls.take k).flatten ++ ls[k] := by
  rw [List.take_add_one, List.getElem?_eq_getElem h, Option.toList_some, List.flatten_append, List.flatten_cons, List.flatten_nil, List.append_nil]
end Go.Proofs.YtnpdaegfmfkghaaDoor.D
namespace Go.Proofs.YtnpdaegfmfkghaaDoor.F
open Go Go.Proofs.YtnpdaegfmfkghaaDoor.A Go.Proofs.YtnpdaegfmfkghaaDoor.D
theorem e53 (ls : List (List Pfx)) (h1 : ls.length ≤ 1000000) (h2 : ls.flatten.length ≤ 1000000000) : LV E 53 [.clip (xrows ls)] = some (.fresh 37 18 (prows ls.flatten)) := by
  rw [LV_R (fn := f53) rfl rfl rfl]
  simp only [f53, RB, pickV, eqbV, notV, negV, convV, faddrV, fldV, idxV, eqaggV, iaddrV, isnilV, nilckV, pnilV, cloV, extrV, slenV, minV, sidxV, abin, cmpInt, params, growLists, fillCells, newAt, rdPtr, wrPtr, AV.cells, asVal, lenOf, boundOf, rowsOf, argIds, freshIn, scalar1, setAll, AV.isData, AV.isYld, Nat.reduceAdd, Nat.reduceMul, Nat.reduceSub, Nat.reduceEqDiff, Nat.reduceLeDiff, Nat.reduceLT, Int.reduceNeg, ↓reduceIte, reduceCtorEq, Int.reduceEq, Int.reduceLT, Int.reduceLE, Int.reduceBEq, Int.reduceBNe, Int.reduceToNat, IntKind.bits, Int.reduceAdd, Int.reduceSub, Int.reduceMul, Int.reduceTDiv, Int.reduceTMod, xrows_len]
  refine (W_rec2 (β := AV) (ι := Nat) (M := fun k => [(0, .clip (xrows ls)), (3, .int .i64 ((ls.take k).flatten.length : Int)), (9, .clip (xrows ls)), (10, .int .i64 (ls.length : Int)), (11, .int .i64 (k : Int))])
    (H := fun _ => ⟨[.lst 0 0 37 18 []], []⟩) (r := fun _ => some (AV.fresh 37 18 (prows ls.flatten))) (μ := fun k => ls.length - k) (fun i => ?_) (fun k ih => ?_) 0 rfl rfl)
  · simp [LPB]
  · by_cases hk : k < ls.length
    · have f1 : (k : Int) < (ls.length : Int) := by omega
      have f2 : (0 : Int) ≤ (k : Int) := by omega
      have f6 : IntKind.i64.wrap ((k : Int) + 1) = ((k + 1 : Nat) : Int) := by rw [IntWalk.i64_in _ (by omega)] <;> omega
      have g1 := xrows_get ls hk
      have hn := flat_next hk
      have hl := flat_le (ls := ls) (k + 1)
      rw [hn, List.length_append] at hl
      have f7 : IntKind.i64.wrap (((ls.take k).flatten.length : Int) + (ls[k].length : Int)) = ((ls.take (k + 1)).flatten.length : Int) := by
        rw [hn, List.length_append, IntWalk.i64_in _ (by omega)]; omega
      have f8 : ¬ ((ls.take (k + 1)).flatten.length : Int) < 0 := by omega
      simp only [RB, pickV, eqbV, notV, negV, convV, faddrV, fldV, idxV, eqaggV, iaddrV, isnilV, nilckV, pnilV, cloV, extrV, slenV, minV, sidxV, abin, cmpInt, params, growLists, fillCells, newAt, rdPtr, wrPtr, AV.cells, asVal, lenOf, boundOf, rowsOf, argIds, freshIn, scalar1, setAll, AV.isData, AV.isYld, Nat.reduceAdd, Nat.reduceMul, Nat.reduceSub, Nat.reduceEqDiff, Nat.reduceLeDiff, Nat.reduceLT, Int.reduceNeg, ↓reduceIte, reduceCtorEq, Int.reduceEq, Int.reduceLT, Int.reduceLE, Int.reduceBEq, Int.reduceBNe, Int.reduceToNat, IntKind.bits, Int.reduceAdd, Int.reduceSub, Int.reduceMul, Int.reduceTDiv, Int.reduceTMod, f1, f2, f6, g1, prows_len, f7, f8]
      exact ih (k + 1) (by omega)
    · have e0 : ls.take k = ls := List.take_of_length_le (by omega)
      clear ih
      have hg : LR E [] 67 [.clip [], .int .i64 (ls.flatten.length : Int)] ⟨[.lst 0 0 37 18 []], []⟩ = some (.lis 1 0 0 0, ⟨[.lst 0 0 37 18 [], .lst 0 0 37 18 []], []⟩) := by
        rw [LR_primS (p := pGrow 37 18 32) rfl rfl]
        simp only [pGrow]
        rw [if_pos ⟨by omega, by rw [Int.toNat_natCast]; omega, by rw [Int.toNat_natCast]; omega⟩]; rfl
      simp only [RB, pickV, eqbV, notV, negV, convV, faddrV, fldV, idxV, eqaggV, iaddrV, isnilV, nilckV, pnilV, cloV, extrV, slenV, minV, sidxV, abin, cmpInt, params, growLists, fillCells, newAt, rdPtr, wrPtr, AV.cells, asVal, lenOf, boundOf, rowsOf, argIds, freshIn, scalar1, setAll, AV.isData, AV.isYld, Nat.reduceAdd, Nat.reduceMul, Nat.reduceSub, Nat.reduceEqDiff, Nat.reduceLeDiff, Nat.reduceLT, Int.reduceNeg, ↓reduceIte, reduceCtorEq, Int.reduceEq, Int.reduceLT, Int.reduceLE, Int.reduceBEq, Int.reduceBNe, Int.reduceToNat, IntKind.bits, Int.reduceAdd, Int.reduceSub, Int.reduceMul, Int.reduceTDiv, Int.reduceTMod, show ¬ (k : Int) < (ls.length : Int) by omega, e0, hg, shrink_true, xrows_len]
      refine (W_rec2 (β := AV) (ι := Nat) (M := fun k => [(6, .lis 1 k 0 (ls.take k).flatten.length), (25, .clip (xrows ls)), (26, .int .i64 (ls.length : Int)), (27, .int .i64 (k : Int))])
        (H := fun k => ⟨[.lst 0 0 37 18 [], .lst 0 k 37 18 (prows (ls.take k).flatten)], []⟩) (r := fun _ => some (AV.fresh 37 18 (prows ls.flatten))) (μ := fun k => ls.length - k) (fun i => ?_) (fun k ih => ?_) 0 rfl rfl)
      · simp [LPB]
      · by_cases hk : k < ls.length
        · have f1 : (k : Int) < (ls.length : Int) := by omega
          have f2 : (0 : Int) ≤ (k : Int) := by omega
          have f6 : IntKind.i64.wrap ((k : Int) + 1) = ((k + 1 : Nat) : Int) := by rw [IntWalk.i64_in _ (by omega)] <;> omega
          have g1 := xrows_get ls hk
          have hn := flat_next hk
          have hl := flat_le (ls := ls) (k + 1)
          rw [hn, List.length_append] at hl
          have f7 : ((ls.take k).flatten.length + ls[k].length) * 32 ≤ 140737488355328 := by omega
          have f8 : (ls.take k).flatten.length + ls[k].length ≤ 4611686018427387904 := by omega
          have ih := ih (k + 1) (by omega)
          rw [hn, List.length_append, ← prows_append] at ih
          have ht : (prows (ls.take k).flatten).take (ls.take k).flatten.length = prows (ls.take k).flatten := by rw [prows_take, List.take_length]
          simp only [RB, pickV, eqbV, notV, negV, convV, faddrV, fldV, idxV, eqaggV, iaddrV, isnilV, nilckV, pnilV, cloV, extrV, slenV, minV, sidxV, abin, cmpInt, params, growLists, fillCells, newAt, rdPtr, wrPtr, AV.cells, asVal, lenOf, boundOf, rowsOf, argIds, freshIn, scalar1, setAll, AV.isData, AV.isYld, Nat.reduceAdd, Nat.reduceMul, Nat.reduceSub, Nat.reduceEqDiff, Nat.reduceLeDiff, Nat.reduceLT, Int.reduceNeg, ↓reduceIte, reduceCtorEq, Int.reduceEq, Int.reduceLT, Int.reduceLE, Int.reduceBEq, Int.reduceBNe, Int.reduceToNat, IntKind.bits, Int.reduceAdd, Int.reduceSub, Int.reduceMul, Int.reduceTDiv, Int.reduceTMod, f1, f2, f6, g1, prows_len, f7, f8, prows_fit, aappend, ht, Nat.le_refl]
          exact ih
        · have e0 : ls.take k = ls := List.take_of_length_le (by omega)
          simp only [RB, pickV, eqbV, notV, negV, convV, faddrV, fldV, idxV, eqaggV, iaddrV, isnilV, nilckV, pnilV, cloV, extrV, slenV, minV, sidxV, abin, cmpInt, params, growLists, fillCells, newAt, rdPtr, wrPtr, AV.cells, asVal, lenOf, boundOf, rowsOf, argIds, freshIn, scalar1, setAll, AV.isData, AV.isYld, Nat.reduceAdd, Nat.reduceMul, Nat.reduceSub, Nat.reduceEqDiff, Nat.reduceLeDiff, Nat.reduceLT, Int.reduceNeg, ↓reduceIte, reduceCtorEq, Int.reduceEq, Int.reduceLT, Int.reduceLE, Int.reduceBEq, Int.reduceBNe, Int.reduceToNat, IntKind.bits, Int.reduceAdd, Int.reduceSub, Int.reduceMul, Int.reduceTDiv, Int.reduceTMod, show ¬ (k : Int) < (ls.length : Int) by omega, e0, expCell, List.nodup_cons, List.nodup_nil, List.not_mem_nil, not_false_eq_true, not_true_eq_false, and_true, and_false, if_false, List.mem_cons, mutIds, prows_len, prows_take, List.take_length]
end Go.Proofs.YtnpdaegfmfkghaaDoor.F

/- The one form, as the program makes it. No condition. -/
set_option linter.unusedSimpArgs false
namespace Go.Proofs.YtnpdaegfmfkghaaDoor.D
open Go Go.Proofs.YtnpdaegfmfkghaaDoor.A
theorem sort_is (l : List Pfx) : sortL cmpP l = isort l := by
  refine sorted_eq ((sortL_perm cmpP l).trans (isort_perm l).symm) ?_ (isort_sort l)
  refine (sortL_sorted cmpP_swo l).imp fun {a b} h => ?_
  rw [← Bool.not_eq_true, cmpP_lt] at h
  rw [cmp_anti]; omega
theorem mrg_at {st : List Pfx} : (∃ y x r, st = y :: x :: r ∧ 0 < y.bits ∧ x = half y) ∨ ((∀ y x r, st = y :: x :: r → ¬ (0 < y.bits ∧ x = half y)) ∧ (st.length ≤ 1 ∨ ∃ y x r, st = y :: x :: r ∧ ¬ (0 < y.bits ∧ x = half y))) := by
  match st with
  | [] => exact .inr ⟨fun _ _ _ h => by (cases h), .inl (by simp)⟩
  | [_] => exact .inr ⟨fun _ _ _ h => by (cases h), .inl (by simp)⟩
  | y :: x :: r =>
    by_cases h : 0 < y.bits ∧ x = half y
    · exact .inl ⟨y, x, r, rfl, h⟩
    · exact .inr ⟨fun _ _ _ e => by cases e; exact h, .inr ⟨y, x, r, rfl, h⟩⟩
theorem rv_get (y : Pfx) (r : List Pfx) : (prows (y :: r).reverse)[r.length]? = some (pav y) := by
  rw [prows_get _ (by simp)]; simp
theorem rv_get2 (y x : Pfx) (r : List Pfx) : (prows (y :: x :: r).reverse)[r.length]? = some (pav x) := by
  rw [prows_get _ (by simp)]; simp
theorem rv_take (y x z : Pfx) (r : List Pfx) : (prows (y :: x :: r).reverse).take r.length ++ [pav z] = prows (z :: r).reverse := by
  rw [prows_take]
  have : ((y :: x :: r).reverse).take r.length = r.reverse := by
    rw [List.reverse_cons, List.reverse_cons, List.append_assoc, ← List.length_reverse, List.take_left]
  rw [this, prows_snoc, ← List.reverse_cons]
theorem rv_app (p : Pfx) (st : List Pfx) : (prows st.reverse).take st.length ++ [pav p] = prows (p :: st).reverse := by
  rw [prows_take, ← List.length_reverse, List.take_length, prows_snoc, ← List.reverse_cons]
theorem rv_len (st : List Pfx) : (prows st.reverse).length = st.length := by rw [prows_len, List.length_reverse]
theorem upF_done {n : Nat} {st : List Pfx} (h : ∀ y x r, st = y :: x :: r → ¬ (0 < y.bits ∧ x = half y)) : upF n st = st := by
  match n, st with
  | 0, _ => rfl
  | _ + 1, [] => rfl
  | _ + 1, [_] => rfl
  | n + 1, y :: x :: r => rw [upF, if_neg (h y x r rfl)]
end Go.Proofs.YtnpdaegfmfkghaaDoor.D
namespace Go.Proofs.YtnpdaegfmfkghaaDoor.F
open Go Go.Proofs.YtnpdaegfmfkghaaDoor.A Go.Proofs.YtnpdaegfmfkghaaDoor.D
theorem e33 (ls : List (List Pfx)) (h1 : ls.length ≤ 1000000) (h2 : ls.flatten.length ≤ 1000000000) (hok : Oks ls.flatten) : LV E 33 [.clip (xrows ls)] = some (.fresh 37 18 (prows (oneL ls.flatten))) := by
  have hc := e53 ls h1 h2
  generalize ls.flatten = L at *
  rw [LV_R (fn := f33) rfl rfl rfl]
  have hS := sort_is L
  have hs := sort_call (E := E) (ys := []) (pend := []) (f := 54) (g := 55) (enc := pav) (cf := cmpP) (e := 37) (k := 18) rfl pav_inj (bs := [.lst 0 0 37 18 [], .lst 0 0 37 18 (prows L)]) (id := 1) (gn := 0) (len := L.length) (xs := L) rfl rfl (by omega)
  rw [hS] at hs
  have hSok : Oks (isort L) := fun p hp => hok p ((isort_mem L p).1 hp)
  have hSl : (isort L).length = L.length := isort_len L
  unfold oneL
  generalize isort L = S at *
  rw [← hSl] at h2
  simp only [List.set_cons_succ, List.set_cons_zero] at hs
  have hs' : LR E [] 54 [.lis 1 0 0 L.length, .clo 55 []] ⟨[.lst 0 0 37 18 [], .lst 0 0 37 18 (prows L)], []⟩ = some (.tup [], ⟨[.lst 0 0 37 18 [], .lst 0 0 37 18 (prows S)], []⟩) := hs
  have hsh : shrink false 2 (.tup []) ⟨[.lst 0 0 37 18 [], .lst 0 0 37 18 (prows S)], []⟩ = some ⟨[.lst 0 0 37 18 [], .lst 0 0 37 18 (prows S)], []⟩ := rfl
  simp only [f33, RB, pickV, eqbV, notV, negV, convV, faddrV, fldV, idxV, eqaggV, iaddrV, isnilV, nilckV, pnilV, cloV, extrV, slenV, minV, sidxV, abin, cmpInt, params, growLists, fillCells, newAt, rdPtr, wrPtr, AV.cells, asVal, lenOf, boundOf, rowsOf, argIds, freshIn, scalar1, setAll, AV.isData, AV.isYld, Nat.reduceAdd, Nat.reduceMul, Nat.reduceSub, Nat.reduceEqDiff, Nat.reduceLeDiff, Nat.reduceLT, Int.reduceNeg, ↓reduceIte, reduceCtorEq, Int.reduceEq, Int.reduceLT, Int.reduceLE, Int.reduceBEq, Int.reduceBNe, Int.reduceToNat, IntKind.bits, Int.reduceAdd, Int.reduceSub, Int.reduceMul, Int.reduceTDiv, Int.reduceTMod, hc, R7B, prows_len, hs', hsh]
  rw [← hSl]
  refine (W_rec2 (β := AV) (ι := {s : Nat × Nat × List Pfx // s.2.2 = (S.take s.1).foldl stepO [] ∧ Oks s.2.2 ∧ s.2.2.length ≤ s.1 ∧ s.1 ≤ S.length})
    (M := fun s => [(4, .lis 2 s.1.2.1 0 s.1.2.2.length), (13, .lis 1 0 0 S.length), (14, .int .i64 (S.length : Int)), (15, .int .i64 (s.1.1 : Int))])
    (H := fun s => ⟨[.lst 0 0 37 18 [], .lst 0 0 37 18 (prows S), .lst 0 s.1.2.1 37 18 (prows s.1.2.2.reverse)], []⟩)
    (r := fun _ => some (AV.fresh 37 18 (prows (S.foldl stepO []).reverse))) (μ := fun s => S.length - s.1.1) (fun s => ?_) (fun s ih => ?_) ⟨(0, 0, []), rfl, fun _ h => by (cases h), Nat.le_refl _, Nat.zero_le _⟩ rfl rfl)
  · simp [LPB]
  · obtain ⟨⟨k, g, st⟩, hst, hsok, hsl, hkl⟩ := s
    simp only at ih hst hsok hsl hkl ⊢
    by_cases hk : k < S.length
    · have f1 : (k : Int) < (S.length : Int) := by omega
      have f2 : (0 : Int) ≤ (k : Int) := by omega
      have f6 : IntKind.i64.wrap ((k : Int) + 1) = ((k + 1 : Nat) : Int) := by rw [IntWalk.i64_in _ (by omega)] <;> omega
      have g1 := prows_get S hk
      have hpok := hSok _ (List.getElem_mem hk)
      generalize hp : S[k] = p at *
      have hnext : (S.take (k + 1)).foldl stepO [] = stepO st p := by
        rw [List.take_add_one, List.getElem?_eq_getElem hk, Option.toList_some, List.foldl_append, ← hst, hp]; rfl
      have f7 : (st.length + 1) * 32 ≤ 140737488355328 := by omega
      have f8 : st.length + 1 ≤ 4611686018427387904 := by omega
      have fh : headFits 18 [pav p] = true := by simp [headFits, pav_len]
      by_cases hskip : ∃ y n, st.length = n + 1 ∧ (prows st.reverse)[n]? = some (pav y) ∧ Holds y p ∧ stepO st p = st
      · obtain ⟨y, n, hm, g2, hh, e⟩ := hskip
        have ih := ih ⟨(k + 1, g, st), by rw [hnext, e], hsok, by simp only; omega, by simp only; omega⟩ (by simp only; omega)
        simp only at ih
        rw [hm] at ih ⊢
        generalize prows st.reverse = R at *
        have f9 : IntKind.i64.wrap (((n + 1 : Nat) : Int) - 1) = (n : Int) := by rw [IntWalk.i64_in _ (by omega)]; omega
        have f10 : (0 : Int) < ((n + 1 : Nat) : Int) := by omega
        have f11 : (n : Int) < ((n + 1 : Nat) : Int) := by omega
        have f12 : n < n + 1 := by omega
        simp only [RB, pickV, eqbV, notV, negV, convV, faddrV, fldV, idxV, eqaggV, iaddrV, isnilV, nilckV, pnilV, cloV, extrV, slenV, minV, sidxV, abin, cmpInt, params, growLists, fillCells, newAt, rdPtr, wrPtr, AV.cells, asVal, lenOf, boundOf, rowsOf, argIds, freshIn, scalar1, setAll, AV.isData, AV.isYld, Nat.reduceAdd, Nat.reduceMul, Nat.reduceSub, Nat.reduceEqDiff, Nat.reduceLeDiff, Nat.reduceLT, Int.reduceNeg, ↓reduceIte, reduceCtorEq, Int.reduceEq, Int.reduceLT, Int.reduceLE, Int.reduceBEq, Int.reduceBNe, Int.reduceToNat, IntKind.bits, Int.reduceAdd, Int.reduceSub, Int.reduceMul, Int.reduceTDiv, Int.reduceTMod, DB, f1, f2, f6, g1, f9, f10, f11, f12, lisFits, g2, e_prefix_Holds, hh, prows_len, hk]
        exact ih
      · have hcont : stepO st p = upM (p :: st) ∧ (st.length = 0 ∨ ∃ y n, st.length = n + 1 ∧ (prows st.reverse)[n]? = some (pav y) ∧ ¬ Holds y p) := by
          cases st with
          | nil => exact ⟨rfl, .inl rfl⟩
          | cons y r =>
            have hn : ¬ Holds y p := fun hh => hskip ⟨y, r.length, rfl, rv_get y r, hh, by unfold stepO; simp only; rw [if_pos hh]⟩
            exact ⟨by unfold stepO; simp only; rw [if_neg hn], .inr ⟨y, r.length, rfl, rv_get y r, hn⟩⟩
        obtain ⟨hstep, hcase⟩ := hcont
        have happ := rv_app p st
        have hpok' : Oks (p :: st) := fun q hq => by
          rcases List.mem_cons.1 hq with rfl | hq
          · exact hpok
          · exact hsok q hq
        have base : upF (p :: st).length (p :: st) = stepO st p ∧ Oks (p :: st) ∧ (p :: st).length ≤ k + 1 ∧ (p :: st).length ≤ (p :: st).length := ⟨hstep.symm, hpok', by simpa using hsl, Nat.le_refl _⟩
        have f30 : IntKind.i64.wrap ((st.length : Int) + 1) = ((st.length + 1 : Nat) : Int) := by rw [IntWalk.i64_in _ (by omega)] <;> omega
        clear hskip
        rcases hcase with hm | ⟨y, n, hm, g2, hh⟩
        all_goals
          first
          | have f10 : ¬ (0 : Int) < (st.length : Int) := by omega
            have hz : st.length = 0 := hm
            clear hm
            simp only [RB, pickV, eqbV, notV, negV, convV, faddrV, fldV, idxV, eqaggV, iaddrV, isnilV, nilckV, pnilV, cloV, extrV, slenV, minV, sidxV, abin, cmpInt, params, growLists, fillCells, newAt, rdPtr, wrPtr, AV.cells, asVal, lenOf, boundOf, rowsOf, argIds, freshIn, scalar1, setAll, AV.isData, AV.isYld, Nat.reduceAdd, Nat.reduceMul, Nat.reduceSub, Nat.reduceEqDiff, Nat.reduceLeDiff, Nat.reduceLT, Int.reduceNeg, ↓reduceIte, reduceCtorEq, Int.reduceEq, Int.reduceLT, Int.reduceLE, Int.reduceBEq, Int.reduceBNe, Int.reduceToNat, IntKind.bits, Int.reduceAdd, Int.reduceSub, Int.reduceMul, Int.reduceTDiv, Int.reduceTMod, DB, O_buildSlq, quietOk, aop_buildSl, fillRows, asData, aappend, f1, f2, f6, f7, f8, fh, g1, f10, lisFits, prows_len, List.length_reverse, hk, happ, Nat.le_refl]
          | have f9 : IntKind.i64.wrap ((st.length : Int) - 1) = (n : Int) := by rw [IntWalk.i64_in _ (by omega)]; omega
            have f10 : (0 : Int) < (st.length : Int) := by omega
            have f11 : (n : Int) < (st.length : Int) := by omega
            have f12 : n < st.length := by omega
            have f13 : (0 : Int) ≤ (n : Int) := by omega
            simp only [RB, pickV, eqbV, notV, negV, convV, faddrV, fldV, idxV, eqaggV, iaddrV, isnilV, nilckV, pnilV, cloV, extrV, slenV, minV, sidxV, abin, cmpInt, params, growLists, fillCells, newAt, rdPtr, wrPtr, AV.cells, asVal, lenOf, boundOf, rowsOf, argIds, freshIn, scalar1, setAll, AV.isData, AV.isYld, Nat.reduceAdd, Nat.reduceMul, Nat.reduceSub, Nat.reduceEqDiff, Nat.reduceLeDiff, Nat.reduceLT, Int.reduceNeg, ↓reduceIte, reduceCtorEq, Int.reduceEq, Int.reduceLT, Int.reduceLE, Int.reduceBEq, Int.reduceBNe, Int.reduceToNat, IntKind.bits, Int.reduceAdd, Int.reduceSub, Int.reduceMul, Int.reduceTDiv, Int.reduceTMod, DB, O_buildSlq, quietOk, aop_buildSl, fillRows, asData, aappend, f1, f2, f6, f7, f8, fh, g1, f9, f10, f11, f12, f13, lisFits, g2, e_prefix_Holds, hh, prows_len, List.length_reverse, hk, happ, Nat.le_refl]
        all_goals
          refine (W_rec2 (β := AV) (ι := {s : Nat × Nat × List Pfx // upF s.2.1 s.2.2 = stepO st p ∧ Oks s.2.2 ∧ s.2.2.length ≤ k + 1 ∧ s.2.2.length ≤ s.2.1})
            (M := fun s => [(4, .lis 2 s.1.1 0 s.1.2.2.length), (8, .int .i64 (s.1.2.2.length : Int)), (13, .lis 1 0 0 S.length), (14, .int .i64 (S.length : Int)), (15, .int .i64 (k : Int))])
            (H := fun s => ⟨[.lst 0 0 37 18 [], .lst 0 0 37 18 (prows S), .lst 0 s.1.1 37 18 (prows s.1.2.2.reverse), .box 0 37 (pav p), .dead, .dead], []⟩)
            (r := fun _ => some (AV.fresh 37 18 (prows (S.foldl stepO []).reverse))) (μ := fun s => s.1.2.1) (fun s => ?_) (fun s jh => ?_) ⟨(g + 1, (p :: st).length, p :: st), base⟩ rfl rfl)
          · simp [LPB]
          · obtain ⟨⟨g', fu, st'⟩, hup, hok', hlk, hlf⟩ := s
            simp only at jh hup hok' hlk hlf ⊢
            rcases mrg_at (st := st') with ⟨y', x', r', rfl, hb, hx⟩ | ⟨hdone, hsmall⟩
            · obtain ⟨fu, rfl⟩ : ∃ m, fu = m + 1 := ⟨fu - 1, by simp at hlf; omega⟩
              have hyo := hok' y' List.mem_cons_self
              have hb2 : y'.bits ≤ 128 := by have := bits_le hyo; omega
              have hup' := hup
              rw [upF, if_pos ⟨hb, hx⟩] at hup'
              have jh := jh ⟨(g' + 1, fu, upP y' :: r'), hup', fun q hq => by
                rcases List.mem_cons.1 hq with rfl | hq
                · exact upP_ok hyo hb
                · exact hok' q (List.mem_cons_of_mem _ (List.mem_cons_of_mem _ hq)), by simp at hlk ⊢; omega, by simp at hlf ⊢; omega⟩ (by simp only; omega)
              simp only [List.length_cons] at jh hlk
              have q1 : (prows (y' :: x' :: r').reverse)[r'.length + 1]? = some (pav y') := rv_get y' (x' :: r')
              have q2 := rv_get2 y' x' r'
              have q3 := rv_take y' x' (upP y') r'
              have q4 := rv_len (y' :: x' :: r')
              simp only [List.length_cons] at q4
              generalize prows (y' :: x' :: r').reverse = R at *
              have f9 : IntKind.i64.wrap (((r'.length + 1 + 1 : Nat) : Int) - 1) = ((r'.length + 1 : Nat) : Int) := by rw [IntWalk.i64_in _ (by omega)]; omega
              have f10 : IntKind.i64.wrap (((r'.length + 1 + 1 : Nat) : Int) - 2) = ((r'.length : Nat) : Int) := by rw [IntWalk.i64_in _ (by omega)]; omega
              have f11 : (1 : Int) < ((r'.length + 1 + 1 : Nat) : Int) := by omega
              have f12 : ((r'.length + 1 : Nat) : Int) < ((r'.length + 1 + 1 : Nat) : Int) := by omega
              have f13 : (0 : Int) ≤ ((r'.length + 1 : Nat) : Int) := by omega
              have f14 : ((r'.length : Nat) : Int) < ((r'.length + 1 + 1 : Nat) : Int) := by omega
              have f15 : r'.length + 1 < r'.length + 1 + 1 := by omega
              have f16 : r'.length < r'.length + 1 + 1 := by omega
              have f17 : r'.length ≤ r'.length + 1 + 1 := by omega
              have f18 : (r'.length + 1) * 32 ≤ 140737488355328 := by omega
              have f19 : r'.length + 1 ≤ 4611686018427387904 := by omega
              have fh' : headFits 18 [pav (upP y')] = true := by simp [headFits, pav_len]
              simp only [List.length_cons, RB, pickV, eqbV, notV, negV, convV, faddrV, fldV, idxV, eqaggV, iaddrV, isnilV, nilckV, pnilV, cloV, extrV, slenV, minV, sidxV, abin, cmpInt, params, growLists, fillCells, newAt, rdPtr, wrPtr, AV.cells, asVal, lenOf, boundOf, rowsOf, argIds, freshIn, scalar1, setAll, AV.isData, AV.isYld, Nat.reduceAdd, Nat.reduceMul, Nat.reduceSub, Nat.reduceEqDiff, Nat.reduceLeDiff, Nat.reduceLT, Int.reduceNeg, ↓reduceIte, reduceCtorEq, Int.reduceEq, Int.reduceLT, Int.reduceLE, Int.reduceBEq, Int.reduceBNe, Int.reduceToNat, IntKind.bits, Int.reduceAdd, Int.reduceSub, Int.reduceMul, Int.reduceTDiv, Int.reduceTMod, DB, O_buildSlq, quietOk, aop_buildSl, fillRows, asData, aappend, f9, f10, f11, f12, f13, f14, f15, f16, f17, f18, f19, fh', lisFits, q1, q2, q3, q4, e56 y' hb hb2, e36 y' hyo hb, hb, ← hx, aslice, Nat.le_refl, pairOk, AV.ids, List.contains_cons, List.contains_nil, Nat.reduceBEq, List.all_cons, List.all_nil, Bool.or_self, Bool.not_false, Bool.and_self, Bool.or_false]
              exact jh
            · rw [upF_done hdone] at hup
              have ih := ih ⟨(k + 1, g', st'), by rw [hnext, hup], hok', hlk, by simp only; omega⟩ (by simp only; omega)
              simp only at ih
              have f6' : IntKind.i64.wrap ((k : Int) + 1) = ((k + 1 : Nat) : Int) := f6
              rcases hsmall with h1' | ⟨y', x', r', rfl, hno⟩
              · have f11 : ¬ (1 : Int) < (st'.length : Int) := by omega
                simp only [RB, pickV, eqbV, notV, negV, convV, faddrV, fldV, idxV, eqaggV, iaddrV, isnilV, nilckV, pnilV, cloV, extrV, slenV, minV, sidxV, abin, cmpInt, params, growLists, fillCells, newAt, rdPtr, wrPtr, AV.cells, asVal, lenOf, boundOf, rowsOf, argIds, freshIn, scalar1, setAll, AV.isData, AV.isYld, Nat.reduceAdd, Nat.reduceMul, Nat.reduceSub, Nat.reduceEqDiff, Nat.reduceLeDiff, Nat.reduceLT, Int.reduceNeg, ↓reduceIte, reduceCtorEq, Int.reduceEq, Int.reduceLT, Int.reduceLE, Int.reduceBEq, Int.reduceBNe, Int.reduceToNat, IntKind.bits, Int.reduceAdd, Int.reduceSub, Int.reduceMul, Int.reduceTDiv, Int.reduceTMod, f11, f6']
                exact ih
              · have hyo := hok' y' List.mem_cons_self
                have q1 : (prows (y' :: x' :: r').reverse)[r'.length + 1]? = some (pav y') := rv_get y' (x' :: r')
                have q2 := rv_get2 y' x' r'
                simp only [List.length_cons] at ih
                generalize prows (y' :: x' :: r').reverse = R at *
                have f9 : IntKind.i64.wrap (((r'.length + 1 + 1 : Nat) : Int) - 1) = ((r'.length + 1 : Nat) : Int) := by rw [IntWalk.i64_in _ (by simp at hlk; omega)]; omega
                have f10 : IntKind.i64.wrap (((r'.length + 1 + 1 : Nat) : Int) - 2) = ((r'.length : Nat) : Int) := by rw [IntWalk.i64_in _ (by simp at hlk; omega)]; omega
                have f11 : (1 : Int) < ((r'.length + 1 + 1 : Nat) : Int) := by omega
                have f12 : ((r'.length + 1 : Nat) : Int) < ((r'.length + 1 + 1 : Nat) : Int) := by omega
                have f13 : (0 : Int) ≤ ((r'.length + 1 : Nat) : Int) := by omega
                have f14 : ((r'.length : Nat) : Int) < ((r'.length + 1 + 1 : Nat) : Int) := by omega
                have f15 : r'.length + 1 < r'.length + 1 + 1 := by omega
                have f16 : r'.length < r'.length + 1 + 1 := by omega
                by_cases hb : 0 < y'.bits
                · have hx : ¬ x' = half y' := fun h => hno ⟨hb, h⟩
                  have hb2 : y'.bits ≤ 128 := by have := bits_le hyo; omega
                  simp only [List.length_cons, RB, pickV, eqbV, notV, negV, convV, faddrV, fldV, idxV, eqaggV, iaddrV, isnilV, nilckV, pnilV, cloV, extrV, slenV, minV, sidxV, abin, cmpInt, params, growLists, fillCells, newAt, rdPtr, wrPtr, AV.cells, asVal, lenOf, boundOf, rowsOf, argIds, freshIn, scalar1, setAll, AV.isData, AV.isYld, Nat.reduceAdd, Nat.reduceMul, Nat.reduceSub, Nat.reduceEqDiff, Nat.reduceLeDiff, Nat.reduceLT, Int.reduceNeg, ↓reduceIte, reduceCtorEq, Int.reduceEq, Int.reduceLT, Int.reduceLE, Int.reduceBEq, Int.reduceBNe, Int.reduceToNat, IntKind.bits, Int.reduceAdd, Int.reduceSub, Int.reduceMul, Int.reduceTDiv, Int.reduceTMod, DB, f6', f9, f10, f11, f12, f13, f14, f15, f16, lisFits, q1, q2, e56 y' hb hb2, hb, hx]
                  exact ih
                · simp only [List.length_cons, RB, pickV, eqbV, notV, negV, convV, faddrV, fldV, idxV, eqaggV, iaddrV, isnilV, nilckV, pnilV, cloV, extrV, slenV, minV, sidxV, abin, cmpInt, params, growLists, fillCells, newAt, rdPtr, wrPtr, AV.cells, asVal, lenOf, boundOf, rowsOf, argIds, freshIn, scalar1, setAll, AV.isData, AV.isYld, Nat.reduceAdd, Nat.reduceMul, Nat.reduceSub, Nat.reduceEqDiff, Nat.reduceLeDiff, Nat.reduceLT, Int.reduceNeg, ↓reduceIte, reduceCtorEq, Int.reduceEq, Int.reduceLT, Int.reduceLE, Int.reduceBEq, Int.reduceBNe, Int.reduceToNat, IntKind.bits, Int.reduceAdd, Int.reduceSub, Int.reduceMul, Int.reduceTDiv, Int.reduceTMod, DB, f6', f9, f11, f12, f13, f15, lisFits, q1, hb]
                  exact ih
    · have hk' : k = S.length := by omega
      subst hk'
      rw [List.take_length] at hst
      simp only [RB, pickV, eqbV, notV, negV, convV, faddrV, fldV, idxV, eqaggV, iaddrV, isnilV, nilckV, pnilV, cloV, extrV, slenV, minV, sidxV, abin, cmpInt, params, growLists, fillCells, newAt, rdPtr, wrPtr, AV.cells, asVal, lenOf, boundOf, rowsOf, argIds, freshIn, scalar1, setAll, AV.isData, AV.isYld, Nat.reduceAdd, Nat.reduceMul, Nat.reduceSub, Nat.reduceEqDiff, Nat.reduceLeDiff, Nat.reduceLT, Int.reduceNeg, ↓reduceIte, reduceCtorEq, Int.reduceEq, Int.reduceLT, Int.reduceLE, Int.reduceBEq, Int.reduceBNe, Int.reduceToNat, IntKind.bits, Int.reduceAdd, Int.reduceSub, Int.reduceMul, Int.reduceTDiv, Int.reduceTMod, show ¬ ((S.length : Nat) : Int) < (S.length : Int) by omega, expCell, List.nodup_cons, List.nodup_nil, List.not_mem_nil, not_false_eq_true, not_true_eq_false, and_true, and_false, if_false, List.mem_cons, mutIds, rv_len, ← hst]
      rw [prows_take, ← List.length_reverse, List.take_length]
end Go.Proofs.YtnpdaegfmfkghaaDoor.F

/- Which rows are in the one form; what two rows come to, by halves; the least prefix. No condition. -/
set_option linter.unusedSimpArgs false
namespace Go.Proofs.YtnpdaegfmfkghaaDoor.D
open Go Go.Proofs.YtnpdaegfmfkghaaDoor.A Go.Proofs.YtnpdaegfmfkghaaDoor.Y
def chkB (l : List Pfx) : Bool := decide (l.length ≤ 300) && okB l && decide (oneL l = l)
theorem chk_iff (l : List Pfx) : chkB l = true ↔ l.length ≤ 300 ∧ Form l := by
  unfold chkB
  simp only [Bool.and_eq_true, decide_eq_true_eq, okB_iff]
  constructor
  · rintro ⟨⟨h1, h2⟩, h3⟩
    exact ⟨h1, (form_iff h2).1 h3⟩
  · rintro ⟨h1, h2⟩
    exact ⟨⟨h1, h2.2⟩, oneL_id h2⟩
theorem comes_nil {l : List Pfx} (h : Oks l) : comesL 0 l [] = oneL l := by
  have hn : Oks [] := fun _ h => by cases h
  obtain ⟨a1, a2⟩ := comes_ok (kind := 0) h hn
  obtain ⟨b1, b2, _⟩ := oneL_ok h
  refine a1.unique b1 fun a => ?_
  rw [a2, b2]
  unfold opB
  rw [if_pos rfl]
  exact ⟨fun h => h.elim id fun k => absurd k (covP_nil a), .inl⟩
def oneS (l : List Pfx) : List Pfx × Int := if 64 < l.length then ([], 3) else if okB l = true then (oneL l, 0) else ([], 151)
theorem stat_has {l : List Pfx} {p : Pfx} (h : statS l p = 1) : 0 < (l.filter fun q => decide (Holds p q)).length := by
  unfold statS at h
  split at h
  · simp at h
  · split at h
    · rename_i h2
      obtain ⟨q, hq, k⟩ := List.any_eq_true.1 h2
      exact List.length_pos_iff.2 (List.ne_nil_of_mem (List.mem_filter.2 ⟨hq, k⟩))
    · simp at h
theorem sub_len {b : List Pfx} {p x : Pfx} (h : ∀ q, Holds x q → Holds p q) : (b.filter fun q => decide (Holds x q)).length ≤ ((b.filter fun q => decide (Holds p q)).filter fun q => decide (Holds x q)).length := by
  rw [List.filter_filter]
  refine Nat.le_of_eq (congrArg List.length (List.filter_congr fun q _ => ?_))
  by_cases k : Holds x q
  · simp [k, h q k]
  · simp [k]
theorem wth_len {kind : Int} {a b : List Pfx} : ∀ (n : Nat) {p : Pfx}, PfxOk p → (n : Int) = width p.adr.ver - p.bits →
    (wth kind a b n p).length ≤ 1 + n * (((a ++ b).filter fun q => decide (Holds p q)).length) := by
  intro n
  induction n with
  | zero => intro p hp hn; unfold wth; split <;> simp
  | succ n ih =>
    intro p hp hn
    unfold wth
    split
    · simp
    · rename_i h0
      split
      · simp
      · rename_i h2
        have hw : p.bits < width p.adr.ver := by omega
        have hlo := loP_ok hp hw
        have hhi := hiP_ok hp hw
        have l1 := ih hlo (by unfold loP; simp only; omega)
        have m1 := ih hhi (by unfold hiP; simp only; omega)
        split
        · simp
        · have hk : 0 < (iv p).k := by
            have h9 := width_le p.adr.ver; have h8 := hp.2.1; unfold iv; simp only; omega
          have s1 := sub_len (b := a ++ b) (p := p) (x := loP p) fun q h => by
            rw [holds_sub hp h.1]
            have := (holds_sub hlo h.1).1 h
            rw [iv_lo hp hw] at this
            exact this.trans (lo_sub hk)
          have s2 := sub_len (b := a ++ b) (p := p) (x := hiP p) fun q h => by
            rw [holds_sub hp h.1]
            have := (holds_sub hhi h.1).1 h
            rw [iv_hi hp hw] at this
            exact this.trans (hi_sub hk)
          have s3 := halves_len (b := (a ++ b).filter fun q => decide (Holds p q)) hp hw
          have s4 : 0 < ((a ++ b).filter fun q => decide (Holds p q)).length := by
            rw [List.filter_append, List.length_append]
            rcases what_one (stat_range a p) (stat_range b p) h0 h2 with e | e <;> (have := stat_has e; omega)
          rw [List.length_append]
          generalize ((a ++ b).filter fun q => decide (Holds p q)) = c at *
          have t1 : n * ((a ++ b).filter fun q => decide (Holds (loP p) q)).length ≤ n * (c.filter fun q => decide (Holds (loP p) q)).length := Nat.mul_le_mul_left n s1
          have t2 : n * ((a ++ b).filter fun q => decide (Holds (hiP p) q)).length ≤ n * (c.filter fun q => decide (Holds (hiP p) q)).length := Nat.mul_le_mul_left n s2
          have : n * (c.filter fun q => decide (Holds (loP p) q)).length + n * (c.filter fun q => decide (Holds (hiP p) q)).length ≤ n * c.length := by
            rw [← Nat.mul_add]; exact Nat.mul_le_mul_left n s3
          rw [Nat.add_mul, Nat.one_mul]; omega
theorem wth_le {kind : Int} {a b : List Pfx} (n : Nat) {p : Pfx} (hp : PfxOk p) (hn : (n : Int) = width p.adr.ver - p.bits) : (wth kind a b n p).length ≤ 1 + 128 * (a.length + b.length) := by
  have h1 := wth_len (kind := kind) (a := a) (b := b) n hp hn
  have h2 : ((a ++ b).filter fun q => decide (Holds p q)).length ≤ a.length + b.length := by rw [← List.length_append]; exact List.length_filter_le _ _
  have h3 : n ≤ 128 := by have := width_le p.adr.ver; have := hp.2.1; omega
  have h4 := Nat.mul_le_mul h3 h2
  omega
def climbF : Nat → Pfx → Pfx → Pfx
  | 0, p, _ => p
  | n + 1, p, q => if Holds p q then p else climbF n (upP p) q
theorem holds_zero {p q : Pfx} (hp : PfxOk p) (hq : PfxOk q) (hv : p.adr.ver = q.adr.ver) (h0 : p.bits = 0) : Holds p q := by
  rw [holds_sub hp hq]
  have h1 := iv_whole hq
  have h2 := iv_whole hp
  rw [← hv] at h1
  have h3 : iv p = whole p.adr.ver := h2.eq (by unfold iv whole; simp only; omega)
  rw [h3]; exact h1
def leastS (l : List Pfx) : Pfx × Bool × Int := if chkB l = true then (if h : 0 < l.length then (if l[0].adr.ver = l[l.length - 1].adr.ver then (climbF l[0].bits.toNat l[0] l[l.length - 1], true, 0) else (zerP, false, 0)) else (zerP, false, 0)) else (zerP, false, 340)
end Go.Proofs.YtnpdaegfmfkghaaDoor.D
namespace Go.Proofs.YtnpdaegfmfkghaaDoor.F
open Go Go.Proofs.YtnpdaegfmfkghaaDoor.A Go.Proofs.YtnpdaegfmfkghaaDoor.D
theorem xr1 (l : List Pfx) : xrows [l] = [[.ro (prows l)]] := rfl
theorem xr2 (a b : List Pfx) : xrows [a, b] = [[.ro (prows a)], [.ro (prows b)]] := rfl
theorem root_aav (v : Int) : [.int .i64 v, .int .u8 0, .int .u8 0, .int .u8 0, .int .u8 0, .int .u8 0, .int .u8 0, .int .u8 0, .int .u8 0, .int .u8 0, .int .u8 0, .int .u8 0, .int .u8 0, .int .u8 0, .int .u8 0, .int .u8 0, .int .u8 0] = aav ⟨v, zerB⟩ := rfl
theorem root_ov (v : Int) : ovr (aav ⟨0, zerB⟩) 0 [.int .i64 v] = some (aav ⟨v, zerB⟩) := rfl
theorem root_is (v : Int) : (⟨⟨v, zerB⟩, zerP.bits⟩ : Pfx) = rootP v := rfl
theorem e33' (l : List Pfx) (h : l.length ≤ 1000000000) (hok : Oks l) : LV E 33 [.clip [[.ro (prows l)]]] = some (.fresh 37 18 (prows (oneL l))) := by
  have := e33 [l] (by simp) (by simpa using h) (by simpa using hok)
  simpa [xr1] using this
theorem e16 (l : List Pfx) (hl : l.length ≤ 4611686018427387904) : LV E 16 [.ro (prows l)] = some (.int .i64 (if chkB l = true then 0 else 340)) := by
  rw [LV_R (fn := f16) rfl rfl rfl]
  by_cases h1 : 300 < l.length
  · have f1 : (300 : Int) < (l.length : Int) := by omega
    have e : chkB l = false := by rw [← Bool.not_eq_true, chk_iff]; omega
    simp only [f16, RB, pickV, eqbV, notV, negV, convV, faddrV, fldV, idxV, eqaggV, iaddrV, isnilV, nilckV, pnilV, cloV, extrV, slenV, minV, sidxV, abin, cmpInt, params, growLists, fillCells, newAt, rdPtr, wrPtr, AV.cells, asVal, lenOf, boundOf, rowsOf, argIds, freshIn, scalar1, setAll, AV.isData, AV.isYld, Nat.reduceAdd, Nat.reduceMul, Nat.reduceSub, Nat.reduceEqDiff, Nat.reduceLeDiff, Nat.reduceLT, Int.reduceNeg, ↓reduceIte, reduceCtorEq, Int.reduceEq, Int.reduceLT, Int.reduceLE, Int.reduceBEq, Int.reduceBNe, Int.reduceToNat, IntKind.bits, Int.reduceAdd, Int.reduceSub, Int.reduceMul, Int.reduceTDiv, Int.reduceTMod, prows_len, f1, e]
  · have f1 : ¬ (300 : Int) < (l.length : Int) := by omega
    have h32 := e32 l hl
    by_cases h2 : okB l = true
    · have h33 := e33' l (by omega) ((okB_iff l).1 h2)
      have h29 := e29 (oneL l) l (by have := (oneL_ok ((okB_iff l).1 h2)).2.2; omega)
      rw [h2] at h32
      by_cases h3 : oneL l = l
      · have e : chkB l = true := by unfold chkB; simp [h2, h3]; omega
        rw [decide_eq_true h3] at h29
        simp only [f16, RB, pickV, eqbV, notV, negV, convV, faddrV, fldV, idxV, eqaggV, iaddrV, isnilV, nilckV, pnilV, cloV, extrV, slenV, minV, sidxV, abin, cmpInt, params, growLists, fillCells, newAt, rdPtr, wrPtr, AV.cells, asVal, lenOf, boundOf, rowsOf, argIds, freshIn, scalar1, setAll, AV.isData, AV.isYld, Nat.reduceAdd, Nat.reduceMul, Nat.reduceSub, Nat.reduceEqDiff, Nat.reduceLeDiff, Nat.reduceLT, Int.reduceNeg, ↓reduceIte, reduceCtorEq, Int.reduceEq, Int.reduceLT, Int.reduceLE, Int.reduceBEq, Int.reduceBNe, Int.reduceToNat, IntKind.bits, Int.reduceAdd, Int.reduceSub, Int.reduceMul, Int.reduceTDiv, Int.reduceTMod, O_buildSlq, quietOk, aop_buildSl, fillRows, asData, aappend, R7B, prows_len, prows_take, List.take_length, f1, h32, h33, h29, e, CW_some, scalar]
      · have e : chkB l = false := by unfold chkB; simp [h3]
        rw [decide_eq_false h3] at h29
        simp only [f16, RB, pickV, eqbV, notV, negV, convV, faddrV, fldV, idxV, eqaggV, iaddrV, isnilV, nilckV, pnilV, cloV, extrV, slenV, minV, sidxV, abin, cmpInt, params, growLists, fillCells, newAt, rdPtr, wrPtr, AV.cells, asVal, lenOf, boundOf, rowsOf, argIds, freshIn, scalar1, setAll, AV.isData, AV.isYld, Nat.reduceAdd, Nat.reduceMul, Nat.reduceSub, Nat.reduceEqDiff, Nat.reduceLeDiff, Nat.reduceLT, Int.reduceNeg, ↓reduceIte, reduceCtorEq, Int.reduceEq, Int.reduceLT, Int.reduceLE, Int.reduceBEq, Int.reduceBNe, Int.reduceToNat, IntKind.bits, Int.reduceAdd, Int.reduceSub, Int.reduceMul, Int.reduceTDiv, Int.reduceTMod, O_buildSlq, quietOk, aop_buildSl, fillRows, asData, aappend, R7B, prows_len, prows_take, List.take_length, f1, h32, h33, h29, e, CW_some, scalar]
    · have h2' : okB l = false := by simpa using h2
      have e : chkB l = false := by unfold chkB; simp [h2']
      rw [h2'] at h32
      simp only [f16, RB, pickV, eqbV, notV, negV, convV, faddrV, fldV, idxV, eqaggV, iaddrV, isnilV, nilckV, pnilV, cloV, extrV, slenV, minV, sidxV, abin, cmpInt, params, growLists, fillCells, newAt, rdPtr, wrPtr, AV.cells, asVal, lenOf, boundOf, rowsOf, argIds, freshIn, scalar1, setAll, AV.isData, AV.isYld, Nat.reduceAdd, Nat.reduceMul, Nat.reduceSub, Nat.reduceEqDiff, Nat.reduceLeDiff, Nat.reduceLT, Int.reduceNeg, ↓reduceIte, reduceCtorEq, Int.reduceEq, Int.reduceLT, Int.reduceLE, Int.reduceBEq, Int.reduceBNe, Int.reduceToNat, IntKind.bits, Int.reduceAdd, Int.reduceSub, Int.reduceMul, Int.reduceTDiv, Int.reduceTMod, prows_len, f1, h32, e]
theorem e11 (l : List Pfx) (hl : l.length ≤ 4611686018427387904) : LV E 11 [.ro (prows l)] = some (.tup [.fresh 37 18 (prows (oneS l).1), .int .i64 (oneS l).2]) := by
  rw [LV_R (fn := f11) rfl rfl rfl]
  unfold oneS
  by_cases h1 : 64 < l.length
  · have f1 : (64 : Int) < (l.length : Int) := by omega
    simp only [f11, RB, pickV, eqbV, notV, negV, convV, faddrV, fldV, idxV, eqaggV, iaddrV, isnilV, nilckV, pnilV, cloV, extrV, slenV, minV, sidxV, abin, cmpInt, params, growLists, fillCells, newAt, rdPtr, wrPtr, AV.cells, asVal, lenOf, boundOf, rowsOf, argIds, freshIn, scalar1, setAll, AV.isData, AV.isYld, Nat.reduceAdd, Nat.reduceMul, Nat.reduceSub, Nat.reduceEqDiff, Nat.reduceLeDiff, Nat.reduceLT, Int.reduceNeg, ↓reduceIte, reduceCtorEq, Int.reduceEq, Int.reduceLT, Int.reduceLE, Int.reduceBEq, Int.reduceBNe, Int.reduceToNat, IntKind.bits, Int.reduceAdd, Int.reduceSub, Int.reduceMul, Int.reduceTDiv, Int.reduceTMod, prows_len, f1, h1, expCell, List.nodup_cons, List.nodup_nil, List.not_mem_nil, not_false_eq_true, not_true_eq_false, and_true, and_false, if_false, List.mem_cons, mutIds]; rfl
  · have f1 : ¬ (64 : Int) < (l.length : Int) := by omega
    have h32 := e32 l hl
    by_cases h2 : okB l = true
    · have h33 := e33' l (by omega) ((okB_iff l).1 h2)
      rw [h2] at h32
      simp only [f11, RB, pickV, eqbV, notV, negV, convV, faddrV, fldV, idxV, eqaggV, iaddrV, isnilV, nilckV, pnilV, cloV, extrV, slenV, minV, sidxV, abin, cmpInt, params, growLists, fillCells, newAt, rdPtr, wrPtr, AV.cells, asVal, lenOf, boundOf, rowsOf, argIds, freshIn, scalar1, setAll, AV.isData, AV.isYld, Nat.reduceAdd, Nat.reduceMul, Nat.reduceSub, Nat.reduceEqDiff, Nat.reduceLeDiff, Nat.reduceLT, Int.reduceNeg, ↓reduceIte, reduceCtorEq, Int.reduceEq, Int.reduceLT, Int.reduceLE, Int.reduceBEq, Int.reduceBNe, Int.reduceToNat, IntKind.bits, Int.reduceAdd, Int.reduceSub, Int.reduceMul, Int.reduceTDiv, Int.reduceTMod, O_buildSlq, quietOk, aop_buildSl, fillRows, asData, aappend, R7B, prows_len, f1, h1, h32, h33, h2, expCell, List.nodup_cons, List.nodup_nil, List.not_mem_nil, not_false_eq_true, not_true_eq_false, and_true, and_false, if_false, List.mem_cons, mutIds, prows_take, List.take_length]
    · have h2' : okB l = false := by simpa using h2
      rw [h2'] at h32
      simp only [f11, RB, pickV, eqbV, notV, negV, convV, faddrV, fldV, idxV, eqaggV, iaddrV, isnilV, nilckV, pnilV, cloV, extrV, slenV, minV, sidxV, abin, cmpInt, params, growLists, fillCells, newAt, rdPtr, wrPtr, AV.cells, asVal, lenOf, boundOf, rowsOf, argIds, freshIn, scalar1, setAll, AV.isData, AV.isYld, Nat.reduceAdd, Nat.reduceMul, Nat.reduceSub, Nat.reduceEqDiff, Nat.reduceLeDiff, Nat.reduceLT, Int.reduceNeg, ↓reduceIte, reduceCtorEq, Int.reduceEq, Int.reduceLT, Int.reduceLE, Int.reduceBEq, Int.reduceBNe, Int.reduceToNat, IntKind.bits, Int.reduceAdd, Int.reduceSub, Int.reduceMul, Int.reduceTDiv, Int.reduceTMod, prows_len, f1, h1, h32, h2', expCell, List.nodup_cons, List.nodup_nil, List.not_mem_nil, not_false_eq_true, not_true_eq_false, and_true, and_false, if_false, List.mem_cons, mutIds]; rfl
theorem r51 {ys : List Hd} {bs : List Blk} {pend : List (Option AExit)} {i lk e : Nat} (p : Pfx) (a : Adr) (h : bs[i]? = some (.box lk e (aav a))) : LR E ys 51 [.agg (pav p), .ptr i 0 0 0] ⟨bs, pend⟩ = some (.bool (decide (Has p a)), ⟨bs ++ [.box 0 37 (pav p)], pend⟩) := by
  have g : ∀ r, (bs ++ r)[i]? = some (.box lk e (aav a)) := fun r => get_lt h
  rw [LR_R (fn := f51) rfl rfl rfl]
  simp only [f51, RB, pickV, eqbV, notV, negV, convV, faddrV, fldV, idxV, eqaggV, iaddrV, isnilV, nilckV, pnilV, cloV, extrV, slenV, minV, sidxV, abin, cmpInt, params, growLists, fillCells, newAt, rdPtr, wrPtr, AV.cells, asVal, lenOf, boundOf, rowsOf, argIds, freshIn, scalar1, setAll, AV.isData, AV.isYld, Nat.reduceAdd, Nat.reduceMul, Nat.reduceSub, Nat.reduceEqDiff, Nat.reduceLeDiff, Nat.reduceLT, Int.reduceNeg, ↓reduceIte, reduceCtorEq, Int.reduceEq, Int.reduceLT, Int.reduceLE, Int.reduceBEq, Int.reduceBNe, Int.reduceToNat, IntKind.bits, Int.reduceAdd, Int.reduceSub, Int.reduceMul, Int.reduceTDiv, Int.reduceTMod, DB, R7B, g, e_prefix_Has]
theorem e28 (l : List Pfx) (a : Adr) (ha : l.length ≤ 4611686018427387904) : LV E 28 [.ro (prows l), .agg (aav a)] = some (.bool (l.any fun p => decide (Has p a))) := by
  rw [LV_R (fn := f28) rfl rfl rfl]
  have h := r50 (ys := []) (bs := [.box 0 35 (aav a)]) (pend := []) (v := .ro (prows l)) (l := l) (P := fun p => decide (Has p a)) (g := 51) (caps := [.ptr 0 0 0 0]) ha (SlV.ro (prows_k l)) (fun ys pend ext x => ⟨_, r51 (lk := 0) (e := 35) x a (get_lt rfl)⟩) (by simp [LPB]) rfl
  have hs : shrink false 1 (.bool (l.any fun p => decide (Has p a))) ⟨[.box 0 35 (aav a)], []⟩ = some ⟨[.box 0 35 (aav a)], []⟩ := by simp [shrink, LPB]
  simp only [f28, RB, pickV, eqbV, notV, negV, convV, faddrV, fldV, idxV, eqaggV, iaddrV, isnilV, nilckV, pnilV, cloV, extrV, slenV, minV, sidxV, abin, cmpInt, params, growLists, fillCells, newAt, rdPtr, wrPtr, AV.cells, asVal, lenOf, boundOf, rowsOf, argIds, freshIn, scalar1, setAll, AV.isData, AV.isYld, Nat.reduceAdd, Nat.reduceMul, Nat.reduceSub, Nat.reduceEqDiff, Nat.reduceLeDiff, Nat.reduceLT, Int.reduceNeg, ↓reduceIte, reduceCtorEq, Int.reduceEq, Int.reduceLT, Int.reduceLE, Int.reduceBEq, Int.reduceBNe, Int.reduceToNat, IntKind.bits, Int.reduceAdd, Int.reduceSub, Int.reduceMul, Int.reduceTDiv, Int.reduceTMod, DB, R7B, h, hs]
def IsRo (v : AV) (l : List Pfx) : Prop := v = .ro (prows l) ∨ (v = .clip [] ∧ l = [])
theorem e61n (p : Pfx) : LV E 61 [.clip [], .agg (pav p)] = some (.int .i64 0) := by
  rw [LV_R (fn := f61) rfl rfl rfl]
  simp only [f61, RB, pickV, eqbV, notV, negV, convV, faddrV, fldV, idxV, eqaggV, iaddrV, isnilV, nilckV, pnilV, cloV, extrV, slenV, minV, sidxV, abin, cmpInt, params, growLists, fillCells, newAt, rdPtr, wrPtr, AV.cells, asVal, lenOf, boundOf, rowsOf, argIds, freshIn, scalar1, setAll, AV.isData, AV.isYld, Nat.reduceAdd, Nat.reduceMul, Nat.reduceSub, Nat.reduceEqDiff, Nat.reduceLeDiff, Nat.reduceLT, Int.reduceNeg, ↓reduceIte, reduceCtorEq, Int.reduceEq, Int.reduceLT, Int.reduceLE, Int.reduceBEq, Int.reduceBNe, Int.reduceToNat, IntKind.bits, Int.reduceAdd, Int.reduceSub, Int.reduceMul, Int.reduceTDiv, Int.reduceTMod, DB, W_go, LPB]
theorem e35 {kind : Int} {a b : List Pfx} (ha : a.length ≤ 1000000) (hb : b.length ≤ 1000000) {vb : AV} (hv : IsRo vb b) : ∀ (n : Nat) {p : Pfx}, PfxOk p → Oks a → Oks b → (n : Int) = width p.adr.ver - p.bits →
    LV E 35 [.int .i64 kind, .ro (prows a), vb, .agg (pav p)] = some (.fresh 37 18 (prows (wth kind a b n p))) := by
  have hsb : ∀ p, LV E 61 [vb, .agg (pav p)] = some (.int .i64 (statS b p)) := fun p => by
    rcases hv with rfl | ⟨rfl, rfl⟩
    · exact e61 b p (by omega)
    · exact e61n p
  have hsa : ∀ p, LV E 61 [.ro (prows a), .agg (pav p)] = some (.int .i64 (statS a p)) := fun p => e61 a p (by omega)
  intro n
  induction n with
  | zero =>
    intro p hp hao hbo hn
    rw [LV_R (fn := f35) rfl rfl rfl]
    have h60 := e60 kind (statS a p) (statS b p)
    have hw : whatS kind (statS a p) (statS b p) = 2 ∨ whatS kind (statS a p) (statS b p) = 0 := by
      by_cases h2 : whatS kind (statS a p) (statS b p) = 2
      · exact .inl h2
      · by_cases h0 : whatS kind (statS a p) (statS b p) = 0
        · exact .inr h0
        · rcases what_one (stat_range a p) (stat_range b p) h0 h2 with e | e <;> (have := stat_one e; omega)
    unfold wth
    have hsb := hsb p
    have hsa := hsa p
    rcases hw with hw | hw <;> rw [hw] at h60 ⊢ <;> rcases hv with rfl | ⟨rfl, rfl⟩
    · simp only [f35, RB, pickV, eqbV, notV, negV, convV, faddrV, fldV, idxV, eqaggV, iaddrV, isnilV, nilckV, pnilV, cloV, extrV, slenV, minV, sidxV, abin, cmpInt, params, growLists, fillCells, newAt, rdPtr, wrPtr, AV.cells, asVal, lenOf, boundOf, rowsOf, argIds, freshIn, scalar1, setAll, AV.isData, AV.isYld, Nat.reduceAdd, Nat.reduceMul, Nat.reduceSub, Nat.reduceEqDiff, Nat.reduceLeDiff, Nat.reduceLT, Int.reduceNeg, ↓reduceIte, reduceCtorEq, Int.reduceEq, Int.reduceLT, Int.reduceLE, Int.reduceBEq, Int.reduceBNe, Int.reduceToNat, IntKind.bits, Int.reduceAdd, Int.reduceSub, Int.reduceMul, Int.reduceTDiv, Int.reduceTMod, DB, O_buildSlq, quietOk, aop_buildSl, fillRows, asData, aappend, hsa, hsb, h60, expCell, List.nodup_cons, List.nodup_nil, List.not_mem_nil, not_false_eq_true, not_true_eq_false, and_true, and_false, if_false, List.mem_cons, mutIds, pav_data]; rfl
    · simp only [f35, RB, pickV, eqbV, notV, negV, convV, faddrV, fldV, idxV, eqaggV, iaddrV, isnilV, nilckV, pnilV, cloV, extrV, slenV, minV, sidxV, abin, cmpInt, params, growLists, fillCells, newAt, rdPtr, wrPtr, AV.cells, asVal, lenOf, boundOf, rowsOf, argIds, freshIn, scalar1, setAll, AV.isData, AV.isYld, Nat.reduceAdd, Nat.reduceMul, Nat.reduceSub, Nat.reduceEqDiff, Nat.reduceLeDiff, Nat.reduceLT, Int.reduceNeg, ↓reduceIte, reduceCtorEq, Int.reduceEq, Int.reduceLT, Int.reduceLE, Int.reduceBEq, Int.reduceBNe, Int.reduceToNat, IntKind.bits, Int.reduceAdd, Int.reduceSub, Int.reduceMul, Int.reduceTDiv, Int.reduceTMod, DB, O_buildSlq, quietOk, aop_buildSl, fillRows, asData, aappend, hsa, hsb, h60, expCell, List.nodup_cons, List.nodup_nil, List.not_mem_nil, not_false_eq_true, not_true_eq_false, and_true, and_false, if_false, List.mem_cons, mutIds, pav_data]; rfl
    · simp only [f35, RB, pickV, eqbV, notV, negV, convV, faddrV, fldV, idxV, eqaggV, iaddrV, isnilV, nilckV, pnilV, cloV, extrV, slenV, minV, sidxV, abin, cmpInt, params, growLists, fillCells, newAt, rdPtr, wrPtr, AV.cells, asVal, lenOf, boundOf, rowsOf, argIds, freshIn, scalar1, setAll, AV.isData, AV.isYld, Nat.reduceAdd, Nat.reduceMul, Nat.reduceSub, Nat.reduceEqDiff, Nat.reduceLeDiff, Nat.reduceLT, Int.reduceNeg, ↓reduceIte, reduceCtorEq, Int.reduceEq, Int.reduceLT, Int.reduceLE, Int.reduceBEq, Int.reduceBNe, Int.reduceToNat, IntKind.bits, Int.reduceAdd, Int.reduceSub, Int.reduceMul, Int.reduceTDiv, Int.reduceTMod, DB, O_buildSlq, quietOk, aop_buildSl, fillRows, asData, aappend, hsa, hsb, h60, expCell, List.nodup_cons, List.nodup_nil, List.not_mem_nil, not_false_eq_true, not_true_eq_false, and_true, and_false, if_false, List.mem_cons, mutIds]; rfl
    · simp only [f35, RB, pickV, eqbV, notV, negV, convV, faddrV, fldV, idxV, eqaggV, iaddrV, isnilV, nilckV, pnilV, cloV, extrV, slenV, minV, sidxV, abin, cmpInt, params, growLists, fillCells, newAt, rdPtr, wrPtr, AV.cells, asVal, lenOf, boundOf, rowsOf, argIds, freshIn, scalar1, setAll, AV.isData, AV.isYld, Nat.reduceAdd, Nat.reduceMul, Nat.reduceSub, Nat.reduceEqDiff, Nat.reduceLeDiff, Nat.reduceLT, Int.reduceNeg, ↓reduceIte, reduceCtorEq, Int.reduceEq, Int.reduceLT, Int.reduceLE, Int.reduceBEq, Int.reduceBNe, Int.reduceToNat, IntKind.bits, Int.reduceAdd, Int.reduceSub, Int.reduceMul, Int.reduceTDiv, Int.reduceTMod, DB, O_buildSlq, quietOk, aop_buildSl, fillRows, asData, aappend, hsa, hsb, h60, expCell, List.nodup_cons, List.nodup_nil, List.not_mem_nil, not_false_eq_true, not_true_eq_false, and_true, and_false, if_false, List.mem_cons, mutIds]; rfl
  | succ n ih =>
    intro p hp hao hbo hn
    rw [LV_R (fn := f35) rfl rfl rfl]
    have h60 := e60 kind (statS a p) (statS b p)
    have hsb := hsb p
    have hsa := hsa p
    have hwd : p.bits < width p.adr.ver := by omega
    have h62 := e62 p hp hwd
    have hl := ih (loP_ok hp hwd) hao hbo (by unfold loP; simp only; omega)
    have hm := ih (hiP_ok hp hwd) hao hbo (by unfold hiP; simp only; omega)
    have ll := wth_le (kind := kind) (a := a) (b := b) n (loP_ok hp hwd) (by unfold loP; simp only; omega)
    have lm := wth_le (kind := kind) (a := a) (b := b) n (hiP_ok hp hwd) (by unfold hiP; simp only; omega)
    clear ih
    unfold wth
    generalize whatS kind (statS a p) (statS b p) = W at *
    generalize wth kind a b n (loP p) = L at *
    generalize wth kind a b n (hiP p) = M at *
    by_cases w0 : W = 0
    · subst w0
      rcases hv with rfl | ⟨rfl, rfl⟩
      · simp only [f35, RB, pickV, eqbV, notV, negV, convV, faddrV, fldV, idxV, eqaggV, iaddrV, isnilV, nilckV, pnilV, cloV, extrV, slenV, minV, sidxV, abin, cmpInt, params, growLists, fillCells, newAt, rdPtr, wrPtr, AV.cells, asVal, lenOf, boundOf, rowsOf, argIds, freshIn, scalar1, setAll, AV.isData, AV.isYld, Nat.reduceAdd, Nat.reduceMul, Nat.reduceSub, Nat.reduceEqDiff, Nat.reduceLeDiff, Nat.reduceLT, Int.reduceNeg, ↓reduceIte, reduceCtorEq, Int.reduceEq, Int.reduceLT, Int.reduceLE, Int.reduceBEq, Int.reduceBNe, Int.reduceToNat, IntKind.bits, Int.reduceAdd, Int.reduceSub, Int.reduceMul, Int.reduceTDiv, Int.reduceTMod, DB, O_buildSlq, quietOk, aop_buildSl, fillRows, asData, aappend, hsa, hsb, h60, expCell, List.nodup_cons, List.nodup_nil, List.not_mem_nil, not_false_eq_true, not_true_eq_false, and_true, and_false, if_false, List.mem_cons, mutIds]; rfl
      · simp only [f35, RB, pickV, eqbV, notV, negV, convV, faddrV, fldV, idxV, eqaggV, iaddrV, isnilV, nilckV, pnilV, cloV, extrV, slenV, minV, sidxV, abin, cmpInt, params, growLists, fillCells, newAt, rdPtr, wrPtr, AV.cells, asVal, lenOf, boundOf, rowsOf, argIds, freshIn, scalar1, setAll, AV.isData, AV.isYld, Nat.reduceAdd, Nat.reduceMul, Nat.reduceSub, Nat.reduceEqDiff, Nat.reduceLeDiff, Nat.reduceLT, Int.reduceNeg, ↓reduceIte, reduceCtorEq, Int.reduceEq, Int.reduceLT, Int.reduceLE, Int.reduceBEq, Int.reduceBNe, Int.reduceToNat, IntKind.bits, Int.reduceAdd, Int.reduceSub, Int.reduceMul, Int.reduceTDiv, Int.reduceTMod, DB, O_buildSlq, quietOk, aop_buildSl, fillRows, asData, aappend, hsa, hsb, h60, expCell, List.nodup_cons, List.nodup_nil, List.not_mem_nil, not_false_eq_true, not_true_eq_false, and_true, and_false, if_false, List.mem_cons, mutIds]; rfl
    · by_cases w2 : W = 2
      · subst w2
        rcases hv with rfl | ⟨rfl, rfl⟩
        · simp only [f35, RB, pickV, eqbV, notV, negV, convV, faddrV, fldV, idxV, eqaggV, iaddrV, isnilV, nilckV, pnilV, cloV, extrV, slenV, minV, sidxV, abin, cmpInt, params, growLists, fillCells, newAt, rdPtr, wrPtr, AV.cells, asVal, lenOf, boundOf, rowsOf, argIds, freshIn, scalar1, setAll, AV.isData, AV.isYld, Nat.reduceAdd, Nat.reduceMul, Nat.reduceSub, Nat.reduceEqDiff, Nat.reduceLeDiff, Nat.reduceLT, Int.reduceNeg, ↓reduceIte, reduceCtorEq, Int.reduceEq, Int.reduceLT, Int.reduceLE, Int.reduceBEq, Int.reduceBNe, Int.reduceToNat, IntKind.bits, Int.reduceAdd, Int.reduceSub, Int.reduceMul, Int.reduceTDiv, Int.reduceTMod, DB, O_buildSlq, quietOk, aop_buildSl, fillRows, asData, aappend, hsa, hsb, h60, expCell, List.nodup_cons, List.nodup_nil, List.not_mem_nil, not_false_eq_true, not_true_eq_false, and_true, and_false, if_false, List.mem_cons, mutIds, pav_data]; rfl
        · simp only [f35, RB, pickV, eqbV, notV, negV, convV, faddrV, fldV, idxV, eqaggV, iaddrV, isnilV, nilckV, pnilV, cloV, extrV, slenV, minV, sidxV, abin, cmpInt, params, growLists, fillCells, newAt, rdPtr, wrPtr, AV.cells, asVal, lenOf, boundOf, rowsOf, argIds, freshIn, scalar1, setAll, AV.isData, AV.isYld, Nat.reduceAdd, Nat.reduceMul, Nat.reduceSub, Nat.reduceEqDiff, Nat.reduceLeDiff, Nat.reduceLT, Int.reduceNeg, ↓reduceIte, reduceCtorEq, Int.reduceEq, Int.reduceLT, Int.reduceLE, Int.reduceBEq, Int.reduceBNe, Int.reduceToNat, IntKind.bits, Int.reduceAdd, Int.reduceSub, Int.reduceMul, Int.reduceTDiv, Int.reduceTMod, DB, O_buildSlq, quietOk, aop_buildSl, fillRows, asData, aappend, hsa, hsb, h60, expCell, List.nodup_cons, List.nodup_nil, List.not_mem_nil, not_false_eq_true, not_true_eq_false, and_true, and_false, if_false, List.mem_cons, mutIds, pav_data]; rfl
      · have n0 : (W == 0) = false := by rw [beq_eq_false_iff_ne]; exact w0
        have n2 : (W == 2) = false := by rw [beq_eq_false_iff_ne]; exact w2
        rw [if_neg w0, if_neg w2]
        have q1 : (L.length + M.length) * 32 ≤ 140737488355328 := by omega
        have q2 : L.length + M.length ≤ 4611686018427387904 := by omega
        have tL : (prows L).take L.length = prows L := by rw [prows_take, List.take_length]
        have tM : (prows M).take M.length = prows M := by rw [prows_take, List.take_length]
        have fin : (prows (L ++ M)).take (L.length + M.length) = prows (L ++ M) := by rw [← List.length_append, prows_take, List.take_length]
        have t1 : ∀ w : Pfx, (prows [w]).take 1 = prows [w] := fun _ => rfl
        by_cases hb : L = [loP p] ∧ M = [hiP p]
        · obtain ⟨rfl, rfl⟩ := hb
          have g1 : (prows [loP p])[0]? = some (pav (loP p)) := rfl
          have g2 : (prows [hiP p])[0]? = some (pav (hiP p)) := rfl
          rcases hv with rfl | ⟨rfl, rfl⟩
          · simp only [f35, RB, pickV, eqbV, notV, negV, convV, faddrV, fldV, idxV, eqaggV, iaddrV, isnilV, nilckV, pnilV, cloV, extrV, slenV, minV, sidxV, abin, cmpInt, params, growLists, fillCells, newAt, rdPtr, wrPtr, AV.cells, asVal, lenOf, boundOf, rowsOf, argIds, freshIn, scalar1, setAll, AV.isData, AV.isYld, Nat.reduceAdd, Nat.reduceMul, Nat.reduceSub, Nat.reduceEqDiff, Nat.reduceLeDiff, Nat.reduceLT, Int.reduceNeg, ↓reduceIte, reduceCtorEq, Int.reduceEq, Int.reduceLT, Int.reduceLE, Int.reduceBEq, Int.reduceBNe, Int.reduceToNat, IntKind.bits, Int.reduceAdd, Int.reduceSub, Int.reduceMul, Int.reduceTDiv, Int.reduceTMod, DB, O_buildSlq, quietOk, aop_buildSl, fillRows, asData, aappend, R7B, ← pav_zer, hsa, hsb, h60, n0, n2, h62, hl, hm, prows_len, lisFits, g1, g2, expCell, List.nodup_cons, List.nodup_nil, List.not_mem_nil, not_false_eq_true, not_true_eq_false, and_true, and_false, if_false, List.mem_cons, mutIds, pav_data, pairOk, AV.ids, List.contains_cons, List.contains_nil, Nat.reduceBEq, List.all_cons, List.all_nil, Bool.or_self, Bool.not_false, Bool.and_self, Bool.or_false]; rfl
          · simp only [f35, RB, pickV, eqbV, notV, negV, convV, faddrV, fldV, idxV, eqaggV, iaddrV, isnilV, nilckV, pnilV, cloV, extrV, slenV, minV, sidxV, abin, cmpInt, params, growLists, fillCells, newAt, rdPtr, wrPtr, AV.cells, asVal, lenOf, boundOf, rowsOf, argIds, freshIn, scalar1, setAll, AV.isData, AV.isYld, Nat.reduceAdd, Nat.reduceMul, Nat.reduceSub, Nat.reduceEqDiff, Nat.reduceLeDiff, Nat.reduceLT, Int.reduceNeg, ↓reduceIte, reduceCtorEq, Int.reduceEq, Int.reduceLT, Int.reduceLE, Int.reduceBEq, Int.reduceBNe, Int.reduceToNat, IntKind.bits, Int.reduceAdd, Int.reduceSub, Int.reduceMul, Int.reduceTDiv, Int.reduceTMod, DB, O_buildSlq, quietOk, aop_buildSl, fillRows, asData, aappend, R7B, ← pav_zer, hsa, hsb, h60, n0, n2, h62, hl, hm, prows_len, lisFits, g1, g2, expCell, List.nodup_cons, List.nodup_nil, List.not_mem_nil, not_false_eq_true, not_true_eq_false, and_true, and_false, if_false, List.mem_cons, mutIds, pav_data, pairOk, AV.ids, List.contains_cons, List.contains_nil, Nat.reduceBEq, List.all_cons, List.all_nil, Bool.or_self, Bool.not_false, Bool.and_self, Bool.or_false]; rfl
        · rw [if_neg hb]
          by_cases k1 : L.length = 1
          · by_cases k2 : M.length = 1
            · obtain ⟨u, rfl⟩ := List.length_eq_one_iff.1 k1
              have g1 : (prows [u])[0]? = some (pav u) := rfl
              obtain ⟨v, rfl⟩ := List.length_eq_one_iff.1 k2
              have g2 : (prows [v])[0]? = some (pav v) := rfl
              by_cases k3 : u = loP p
              · have k4 : ¬ v = hiP p := fun e => hb ⟨by rw [k3], by rw [e]⟩
                subst k3
                rcases hv with rfl | ⟨rfl, rfl⟩
                · simp only [f35, RB, pickV, eqbV, notV, negV, convV, faddrV, fldV, idxV, eqaggV, iaddrV, isnilV, nilckV, pnilV, cloV, extrV, slenV, minV, sidxV, abin, cmpInt, params, growLists, fillCells, newAt, rdPtr, wrPtr, AV.cells, asVal, lenOf, boundOf, rowsOf, argIds, freshIn, scalar1, setAll, AV.isData, AV.isYld, Nat.reduceAdd, Nat.reduceMul, Nat.reduceSub, Nat.reduceEqDiff, Nat.reduceLeDiff, Nat.reduceLT, Int.reduceNeg, ↓reduceIte, reduceCtorEq, Int.reduceEq, Int.reduceLT, Int.reduceLE, Int.reduceBEq, Int.reduceBNe, Int.reduceToNat, IntKind.bits, Int.reduceAdd, Int.reduceSub, Int.reduceMul, Int.reduceTDiv, Int.reduceTMod, DB, O_buildSlq, quietOk, aop_buildSl, fillRows, asData, aappend, R7B, ← pav_zer, hsa, hsb, h60, n0, n2, h62, hl, hm, prows_len, lisFits, g1, g2, k4, t1, expCell, List.nodup_cons, List.nodup_nil, List.not_mem_nil, not_false_eq_true, not_true_eq_false, and_true, and_false, if_false, List.mem_cons, mutIds, pairOk, AV.ids, List.contains_cons, List.contains_nil, Nat.reduceBEq, List.all_cons, List.all_nil, Bool.or_self, Bool.not_false, Bool.and_self, Bool.or_false, prows_fit]; rfl
                · simp only [f35, RB, pickV, eqbV, notV, negV, convV, faddrV, fldV, idxV, eqaggV, iaddrV, isnilV, nilckV, pnilV, cloV, extrV, slenV, minV, sidxV, abin, cmpInt, params, growLists, fillCells, newAt, rdPtr, wrPtr, AV.cells, asVal, lenOf, boundOf, rowsOf, argIds, freshIn, scalar1, setAll, AV.isData, AV.isYld, Nat.reduceAdd, Nat.reduceMul, Nat.reduceSub, Nat.reduceEqDiff, Nat.reduceLeDiff, Nat.reduceLT, Int.reduceNeg, ↓reduceIte, reduceCtorEq, Int.reduceEq, Int.reduceLT, Int.reduceLE, Int.reduceBEq, Int.reduceBNe, Int.reduceToNat, IntKind.bits, Int.reduceAdd, Int.reduceSub, Int.reduceMul, Int.reduceTDiv, Int.reduceTMod, DB, O_buildSlq, quietOk, aop_buildSl, fillRows, asData, aappend, R7B, ← pav_zer, hsa, hsb, h60, n0, n2, h62, hl, hm, prows_len, lisFits, g1, g2, k4, t1, expCell, List.nodup_cons, List.nodup_nil, List.not_mem_nil, not_false_eq_true, not_true_eq_false, and_true, and_false, if_false, List.mem_cons, mutIds, pairOk, AV.ids, List.contains_cons, List.contains_nil, Nat.reduceBEq, List.all_cons, List.all_nil, Bool.or_self, Bool.not_false, Bool.and_self, Bool.or_false, prows_fit]; rfl
              · rcases hv with rfl | ⟨rfl, rfl⟩
                · simp only [f35, RB, pickV, eqbV, notV, negV, convV, faddrV, fldV, idxV, eqaggV, iaddrV, isnilV, nilckV, pnilV, cloV, extrV, slenV, minV, sidxV, abin, cmpInt, params, growLists, fillCells, newAt, rdPtr, wrPtr, AV.cells, asVal, lenOf, boundOf, rowsOf, argIds, freshIn, scalar1, setAll, AV.isData, AV.isYld, Nat.reduceAdd, Nat.reduceMul, Nat.reduceSub, Nat.reduceEqDiff, Nat.reduceLeDiff, Nat.reduceLT, Int.reduceNeg, ↓reduceIte, reduceCtorEq, Int.reduceEq, Int.reduceLT, Int.reduceLE, Int.reduceBEq, Int.reduceBNe, Int.reduceToNat, IntKind.bits, Int.reduceAdd, Int.reduceSub, Int.reduceMul, Int.reduceTDiv, Int.reduceTMod, DB, O_buildSlq, quietOk, aop_buildSl, fillRows, asData, aappend, R7B, ← pav_zer, hsa, hsb, h60, n0, n2, h62, hl, hm, prows_len, lisFits, g1, g2, k3, t1, expCell, List.nodup_cons, List.nodup_nil, List.not_mem_nil, not_false_eq_true, not_true_eq_false, and_true, and_false, if_false, List.mem_cons, mutIds, pairOk, AV.ids, List.contains_cons, List.contains_nil, Nat.reduceBEq, List.all_cons, List.all_nil, Bool.or_self, Bool.not_false, Bool.and_self, Bool.or_false, prows_fit]; rfl
                · simp only [f35, RB, pickV, eqbV, notV, negV, convV, faddrV, fldV, idxV, eqaggV, iaddrV, isnilV, nilckV, pnilV, cloV, extrV, slenV, minV, sidxV, abin, cmpInt, params, growLists, fillCells, newAt, rdPtr, wrPtr, AV.cells, asVal, lenOf, boundOf, rowsOf, argIds, freshIn, scalar1, setAll, AV.isData, AV.isYld, Nat.reduceAdd, Nat.reduceMul, Nat.reduceSub, Nat.reduceEqDiff, Nat.reduceLeDiff, Nat.reduceLT, Int.reduceNeg, ↓reduceIte, reduceCtorEq, Int.reduceEq, Int.reduceLT, Int.reduceLE, Int.reduceBEq, Int.reduceBNe, Int.reduceToNat, IntKind.bits, Int.reduceAdd, Int.reduceSub, Int.reduceMul, Int.reduceTDiv, Int.reduceTMod, DB, O_buildSlq, quietOk, aop_buildSl, fillRows, asData, aappend, R7B, ← pav_zer, hsa, hsb, h60, n0, n2, h62, hl, hm, prows_len, lisFits, g1, g2, k3, t1, expCell, List.nodup_cons, List.nodup_nil, List.not_mem_nil, not_false_eq_true, not_true_eq_false, and_true, and_false, if_false, List.mem_cons, mutIds, pairOk, AV.ids, List.contains_cons, List.contains_nil, Nat.reduceBEq, List.all_cons, List.all_nil, Bool.or_self, Bool.not_false, Bool.and_self, Bool.or_false, prows_fit]; rfl
            · have k2' : ((M.length : Int) == 1) = false := by rw [beq_eq_false_iff_ne]; omega
              have k1' : ((L.length : Int) == 1) = true := by rw [k1]; rfl
              rcases hv with rfl | ⟨rfl, rfl⟩
              · simp only [f35, RB, pickV, eqbV, notV, negV, convV, faddrV, fldV, idxV, eqaggV, iaddrV, isnilV, nilckV, pnilV, cloV, extrV, slenV, minV, sidxV, abin, cmpInt, params, growLists, fillCells, newAt, rdPtr, wrPtr, AV.cells, asVal, lenOf, boundOf, rowsOf, argIds, freshIn, scalar1, setAll, AV.isData, AV.isYld, Nat.reduceAdd, Nat.reduceMul, Nat.reduceSub, Nat.reduceEqDiff, Nat.reduceLeDiff, Nat.reduceLT, Int.reduceNeg, ↓reduceIte, reduceCtorEq, Int.reduceEq, Int.reduceLT, Int.reduceLE, Int.reduceBEq, Int.reduceBNe, Int.reduceToNat, IntKind.bits, Int.reduceAdd, Int.reduceSub, Int.reduceMul, Int.reduceTDiv, Int.reduceTMod, DB, O_buildSlq, quietOk, aop_buildSl, fillRows, asData, aappend, R7B, ← pav_zer, hsa, hsb, h60, n0, n2, h62, hl, hm, prows_len, lisFits, k1', k2', q1, q2, tL, tM, fin, expCell, List.nodup_cons, List.nodup_nil, List.not_mem_nil, not_false_eq_true, not_true_eq_false, and_true, and_false, if_false, List.mem_cons, mutIds, pairOk, AV.ids, List.contains_cons, List.contains_nil, Nat.reduceBEq, List.all_cons, List.all_nil, Bool.or_self, Bool.not_false, Bool.and_self, Bool.or_false, prows_fit, prows_append, List.length_append]
              · simp only [f35, RB, pickV, eqbV, notV, negV, convV, faddrV, fldV, idxV, eqaggV, iaddrV, isnilV, nilckV, pnilV, cloV, extrV, slenV, minV, sidxV, abin, cmpInt, params, growLists, fillCells, newAt, rdPtr, wrPtr, AV.cells, asVal, lenOf, boundOf, rowsOf, argIds, freshIn, scalar1, setAll, AV.isData, AV.isYld, Nat.reduceAdd, Nat.reduceMul, Nat.reduceSub, Nat.reduceEqDiff, Nat.reduceLeDiff, Nat.reduceLT, Int.reduceNeg, ↓reduceIte, reduceCtorEq, Int.reduceEq, Int.reduceLT, Int.reduceLE, Int.reduceBEq, Int.reduceBNe, Int.reduceToNat, IntKind.bits, Int.reduceAdd, Int.reduceSub, Int.reduceMul, Int.reduceTDiv, Int.reduceTMod, DB, O_buildSlq, quietOk, aop_buildSl, fillRows, asData, aappend, R7B, ← pav_zer, hsa, hsb, h60, n0, n2, h62, hl, hm, prows_len, lisFits, k1', k2', q1, q2, tL, tM, fin, expCell, List.nodup_cons, List.nodup_nil, List.not_mem_nil, not_false_eq_true, not_true_eq_false, and_true, and_false, if_false, List.mem_cons, mutIds, pairOk, AV.ids, List.contains_cons, List.contains_nil, Nat.reduceBEq, List.all_cons, List.all_nil, Bool.or_self, Bool.not_false, Bool.and_self, Bool.or_false, prows_fit, prows_append, List.length_append]
          · have k1' : ((L.length : Int) == 1) = false := by rw [beq_eq_false_iff_ne]; omega
            rcases hv with rfl | ⟨rfl, rfl⟩
            · simp only [f35, RB, pickV, eqbV, notV, negV, convV, faddrV, fldV, idxV, eqaggV, iaddrV, isnilV, nilckV, pnilV, cloV, extrV, slenV, minV, sidxV, abin, cmpInt, params, growLists, fillCells, newAt, rdPtr, wrPtr, AV.cells, asVal, lenOf, boundOf, rowsOf, argIds, freshIn, scalar1, setAll, AV.isData, AV.isYld, Nat.reduceAdd, Nat.reduceMul, Nat.reduceSub, Nat.reduceEqDiff, Nat.reduceLeDiff, Nat.reduceLT, Int.reduceNeg, ↓reduceIte, reduceCtorEq, Int.reduceEq, Int.reduceLT, Int.reduceLE, Int.reduceBEq, Int.reduceBNe, Int.reduceToNat, IntKind.bits, Int.reduceAdd, Int.reduceSub, Int.reduceMul, Int.reduceTDiv, Int.reduceTMod, DB, O_buildSlq, quietOk, aop_buildSl, fillRows, asData, aappend, R7B, ← pav_zer, hsa, hsb, h60, n0, n2, h62, hl, hm, prows_len, lisFits, k1', q1, q2, tL, tM, fin, expCell, List.nodup_cons, List.nodup_nil, List.not_mem_nil, not_false_eq_true, not_true_eq_false, and_true, and_false, if_false, List.mem_cons, mutIds, pairOk, AV.ids, List.contains_cons, List.contains_nil, Nat.reduceBEq, List.all_cons, List.all_nil, Bool.or_self, Bool.not_false, Bool.and_self, Bool.or_false, prows_fit, prows_append, List.length_append]
            · simp only [f35, RB, pickV, eqbV, notV, negV, convV, faddrV, fldV, idxV, eqaggV, iaddrV, isnilV, nilckV, pnilV, cloV, extrV, slenV, minV, sidxV, abin, cmpInt, params, growLists, fillCells, newAt, rdPtr, wrPtr, AV.cells, asVal, lenOf, boundOf, rowsOf, argIds, freshIn, scalar1, setAll, AV.isData, AV.isYld, Nat.reduceAdd, Nat.reduceMul, Nat.reduceSub, Nat.reduceEqDiff, Nat.reduceLeDiff, Nat.reduceLT, Int.reduceNeg, ↓reduceIte, reduceCtorEq, Int.reduceEq, Int.reduceLT, Int.reduceLE, Int.reduceBEq, Int.reduceBNe, Int.reduceToNat, IntKind.bits, Int.reduceAdd, Int.reduceSub, Int.reduceMul, Int.reduceTDiv, Int.reduceTMod, DB, O_buildSlq, quietOk, aop_buildSl, fillRows, asData, aappend, R7B, ← pav_zer, hsa, hsb, h60, n0, n2, h62, hl, hm, prows_len, lisFits, k1', q1, q2, tL, tM, fin, expCell, List.nodup_cons, List.nodup_nil, List.not_mem_nil, not_false_eq_true, not_true_eq_false, and_true, and_false, if_false, List.mem_cons, mutIds, pairOk, AV.ids, List.contains_cons, List.contains_nil, Nat.reduceBEq, List.all_cons, List.all_nil, Bool.or_self, Bool.not_false, Bool.and_self, Bool.or_false, prows_fit, prows_append, List.length_append]
theorem e14 {kind : Int} {a b : List Pfx} (ha : a.length ≤ 1000000) (hb : b.length ≤ 1000000) {vb : AV} (hv : IsRo vb b) (hao : Oks a) (hbo : Oks b) :
    LV E 14 [.int .i64 kind, .ro (prows a), vb] = some (.fresh 37 18 (prows (comesL kind a b))) := by
  rw [LV_R (fn := f14) rfl rfl rfl]
  have h4 := e35 (kind := kind) ha hb hv 32 (root_ok (.inl rfl)) hao hbo (by decide)
  have h6 := e35 (kind := kind) ha hb hv 128 (root_ok (.inr rfl)) hao hbo (by decide)
  have l4 := wth_le (kind := kind) (a := a) (b := b) 32 (root_ok (.inl rfl)) (by decide)
  have l6 := wth_le (kind := kind) (a := a) (b := b) 128 (root_ok (.inr rfl)) (by decide)
  unfold comesL
  generalize wth kind a b 32 (rootP 4) = L at *
  generalize wth kind a b 128 (rootP 6) = M at *
  have q1 : (L.length + M.length) * 32 ≤ 140737488355328 := by omega
  have q2 : L.length + M.length ≤ 4611686018427387904 := by omega
  have tL : (prows L).take L.length = prows L := by rw [prows_take, List.take_length]
  have tM : (prows M).take M.length = prows M := by rw [prows_take, List.take_length]
  have fin : (prows (L ++ M)).take (L.length + M.length) = prows (L ++ M) := by rw [← List.length_append, prows_take, List.take_length]
  rcases hv with rfl | ⟨rfl, rfl⟩
  · simp only [f14, RB, pickV, eqbV, notV, negV, convV, faddrV, fldV, idxV, eqaggV, iaddrV, isnilV, nilckV, pnilV, cloV, extrV, slenV, minV, sidxV, abin, cmpInt, params, growLists, fillCells, newAt, rdPtr, wrPtr, AV.cells, asVal, lenOf, boundOf, rowsOf, argIds, freshIn, scalar1, setAll, AV.isData, AV.isYld, Nat.reduceAdd, Nat.reduceMul, Nat.reduceSub, Nat.reduceEqDiff, Nat.reduceLeDiff, Nat.reduceLT, Int.reduceNeg, ↓reduceIte, reduceCtorEq, Int.reduceEq, Int.reduceLT, Int.reduceLE, Int.reduceBEq, Int.reduceBNe, Int.reduceToNat, IntKind.bits, Int.reduceAdd, Int.reduceSub, Int.reduceMul, Int.reduceTDiv, Int.reduceTMod, DB, O_buildSlq, quietOk, aop_buildSl, fillRows, asData, aappend, R7B, ← pav_zer, root_aav, root_ov, root_is, h4, h6, prows_len, lisFits, q1, q2, tL, tM, fin, expCell, List.nodup_cons, List.nodup_nil, List.not_mem_nil, not_false_eq_true, not_true_eq_false, and_true, and_false, if_false, List.mem_cons, mutIds, pairOk, AV.ids, List.contains_cons, List.contains_nil, Nat.reduceBEq, List.all_cons, List.all_nil, Bool.or_self, Bool.not_false, Bool.and_self, Bool.or_false, prows_fit, prows_append, List.length_append]
  · simp only [f14, RB, pickV, eqbV, notV, negV, convV, faddrV, fldV, idxV, eqaggV, iaddrV, isnilV, nilckV, pnilV, cloV, extrV, slenV, minV, sidxV, abin, cmpInt, params, growLists, fillCells, newAt, rdPtr, wrPtr, AV.cells, asVal, lenOf, boundOf, rowsOf, argIds, freshIn, scalar1, setAll, AV.isData, AV.isYld, Nat.reduceAdd, Nat.reduceMul, Nat.reduceSub, Nat.reduceEqDiff, Nat.reduceLeDiff, Nat.reduceLT, Int.reduceNeg, ↓reduceIte, reduceCtorEq, Int.reduceEq, Int.reduceLT, Int.reduceLE, Int.reduceBEq, Int.reduceBNe, Int.reduceToNat, IntKind.bits, Int.reduceAdd, Int.reduceSub, Int.reduceMul, Int.reduceTDiv, Int.reduceTMod, DB, O_buildSlq, quietOk, aop_buildSl, fillRows, asData, aappend, R7B, ← pav_zer, root_aav, root_ov, root_is, h4, h6, prows_len, lisFits, q1, q2, tL, tM, fin, expCell, List.nodup_cons, List.nodup_nil, List.not_mem_nil, not_false_eq_true, not_true_eq_false, and_true, and_false, if_false, List.mem_cons, mutIds, pairOk, AV.ids, List.contains_cons, List.contains_nil, Nat.reduceBEq, List.all_cons, List.all_nil, Bool.or_self, Bool.not_false, Bool.and_self, Bool.or_false, prows_fit, prows_append, List.length_append]
theorem e15 (l : List Pfx) (hl : l.length ≤ 4611686018427387904) : LV E 15 [.ro (prows l)] = some (.bool (chkB l)) := by
  rw [LV_R (fn := f15) rfl rfl rfl]
  by_cases h1 : l.length ≤ 300
  · have f1 : (l.length : Int) ≤ 300 := by omega
    have h12 := e12 l hl
    by_cases h2 : okB l = true
    · have ho := (okB_iff l).1 h2
      have h14 := e14 (kind := 0) (a := l) (b := []) (by omega) (by simp) (.inr ⟨rfl, rfl⟩) ho (fun _ h => by cases h)
      rw [comes_nil ho] at h14
      have h13 := e13 l (oneL l) hl
      rw [h2] at h12
      by_cases h3 : oneL l = l
      · have e : chkB l = true := by unfold chkB; simp [h2, h3, h1]
        rw [decide_eq_true h3.symm] at h13
        simp only [f15, RB, pickV, eqbV, notV, negV, convV, faddrV, fldV, idxV, eqaggV, iaddrV, isnilV, nilckV, pnilV, cloV, extrV, slenV, minV, sidxV, abin, cmpInt, params, growLists, fillCells, newAt, rdPtr, wrPtr, AV.cells, asVal, lenOf, boundOf, rowsOf, argIds, freshIn, scalar1, setAll, AV.isData, AV.isYld, Nat.reduceAdd, Nat.reduceMul, Nat.reduceSub, Nat.reduceEqDiff, Nat.reduceLeDiff, Nat.reduceLT, Int.reduceNeg, ↓reduceIte, reduceCtorEq, Int.reduceEq, Int.reduceLT, Int.reduceLE, Int.reduceBEq, Int.reduceBNe, Int.reduceToNat, IntKind.bits, Int.reduceAdd, Int.reduceSub, Int.reduceMul, Int.reduceTDiv, Int.reduceTMod, R7B, prows_len, f1, h12, h14, h13, prows_take, List.take_length, CW_some, scalar, e]
      · have e : chkB l = false := by unfold chkB; simp [h3]
        rw [decide_eq_false fun h => h3 h.symm] at h13
        simp only [f15, RB, pickV, eqbV, notV, negV, convV, faddrV, fldV, idxV, eqaggV, iaddrV, isnilV, nilckV, pnilV, cloV, extrV, slenV, minV, sidxV, abin, cmpInt, params, growLists, fillCells, newAt, rdPtr, wrPtr, AV.cells, asVal, lenOf, boundOf, rowsOf, argIds, freshIn, scalar1, setAll, AV.isData, AV.isYld, Nat.reduceAdd, Nat.reduceMul, Nat.reduceSub, Nat.reduceEqDiff, Nat.reduceLeDiff, Nat.reduceLT, Int.reduceNeg, ↓reduceIte, reduceCtorEq, Int.reduceEq, Int.reduceLT, Int.reduceLE, Int.reduceBEq, Int.reduceBNe, Int.reduceToNat, IntKind.bits, Int.reduceAdd, Int.reduceSub, Int.reduceMul, Int.reduceTDiv, Int.reduceTMod, R7B, prows_len, f1, h12, h14, h13, prows_take, List.take_length, CW_some, scalar, e]
    · have h2' : okB l = false := by simpa using h2
      have e : chkB l = false := by unfold chkB; simp [h2']
      rw [h2'] at h12
      simp only [f15, RB, pickV, eqbV, notV, negV, convV, faddrV, fldV, idxV, eqaggV, iaddrV, isnilV, nilckV, pnilV, cloV, extrV, slenV, minV, sidxV, abin, cmpInt, params, growLists, fillCells, newAt, rdPtr, wrPtr, AV.cells, asVal, lenOf, boundOf, rowsOf, argIds, freshIn, scalar1, setAll, AV.isData, AV.isYld, Nat.reduceAdd, Nat.reduceMul, Nat.reduceSub, Nat.reduceEqDiff, Nat.reduceLeDiff, Nat.reduceLT, Int.reduceNeg, ↓reduceIte, reduceCtorEq, Int.reduceEq, Int.reduceLT, Int.reduceLE, Int.reduceBEq, Int.reduceBNe, Int.reduceToNat, IntKind.bits, Int.reduceAdd, Int.reduceSub, Int.reduceMul, Int.reduceTDiv, Int.reduceTMod, prows_len, f1, h12, e]
  · have f1 : ¬ (l.length : Int) ≤ 300 := by omega
    have e : chkB l = false := by rw [← Bool.not_eq_true, chk_iff]; omega
    simp only [f15, RB, pickV, eqbV, notV, negV, convV, faddrV, fldV, idxV, eqaggV, iaddrV, isnilV, nilckV, pnilV, cloV, extrV, slenV, minV, sidxV, abin, cmpInt, params, growLists, fillCells, newAt, rdPtr, wrPtr, AV.cells, asVal, lenOf, boundOf, rowsOf, argIds, freshIn, scalar1, setAll, AV.isData, AV.isYld, Nat.reduceAdd, Nat.reduceMul, Nat.reduceSub, Nat.reduceEqDiff, Nat.reduceLeDiff, Nat.reduceLT, Int.reduceNeg, ↓reduceIte, reduceCtorEq, Int.reduceEq, Int.reduceLT, Int.reduceLE, Int.reduceBEq, Int.reduceBNe, Int.reduceToNat, IntKind.bits, Int.reduceAdd, Int.reduceSub, Int.reduceMul, Int.reduceTDiv, Int.reduceTMod, prows_len, f1, e]
theorem e18 (l : List Pfx) (hl : l.length ≤ 4611686018427387904) : LV E 18 [.ro (prows l)] = some (.tup [.agg (pav (leastS l).1), .bool (leastS l).2.1, .int .i64 (leastS l).2.2]) := by
  rw [LV_R (fn := f18) rfl rfl rfl]
  have h16 := e16 l hl
  unfold leastS
  by_cases hc : chkB l = true
  · rw [if_pos hc] at h16 ⊢
    obtain ⟨hlen, hform⟩ := (chk_iff l).1 hc
    by_cases h0 : 0 < l.length
    · rw [dif_pos h0]
      have n0 : ((l.length : Int) == 0) = false := by rw [beq_eq_false_iff_ne]; omega
      have g1 := prows_get l h0
      have g2 := prows_get l (show l.length - 1 < l.length by omega)
      have f1 : IntKind.i64.wrap ((l.length : Int) - 1) = ((l.length - 1 : Nat) : Int) := by rw [IntWalk.i64_in _ (by omega)]; omega
      have f2 : ((l.length - 1 : Nat) : Int) < (l.length : Int) := by omega
      have f3 : (0 : Int) ≤ ((l.length - 1 : Nat) : Int) := by omega
      have f4 : (0 : Int) < (l.length : Int) := by omega
      have ho1 := hform.2 _ (List.getElem_mem h0)
      have ho2 := hform.2 _ (List.getElem_mem (show l.length - 1 < l.length by omega))
      generalize l[0] = p at *
      generalize l[l.length - 1] = q at *
      by_cases hv : p.adr.ver = q.adr.ver
      · rw [if_pos hv]
        have nv : (p.adr.ver != q.adr.ver) = false := by rw [hv, bne_self_eq_false]
        simp only [f18, ← pav_zer, RB, pickV, eqbV, notV, negV, convV, faddrV, fldV, idxV, eqaggV, iaddrV, isnilV, nilckV, pnilV, cloV, extrV, slenV, minV, sidxV, abin, cmpInt, params, growLists, fillCells, newAt, rdPtr, wrPtr, AV.cells, asVal, lenOf, boundOf, rowsOf, argIds, freshIn, scalar1, setAll, AV.isData, AV.isYld, Nat.reduceAdd, Nat.reduceMul, Nat.reduceSub, Nat.reduceEqDiff, Nat.reduceLeDiff, Nat.reduceLT, Int.reduceNeg, ↓reduceIte, reduceCtorEq, Int.reduceEq, Int.reduceLT, Int.reduceLE, Int.reduceBEq, Int.reduceBNe, Int.reduceToNat, IntKind.bits, Int.reduceAdd, Int.reduceSub, Int.reduceMul, Int.reduceTDiv, Int.reduceTMod, DB, prows_len, h16, n0, f1, f2, f3, f4, g1, g2, nv, bne_self_eq_false, pairOk, AV.ids, List.contains_cons, List.contains_nil, Nat.reduceBEq, List.all_cons, List.all_nil, Bool.or_self, Bool.not_false, Bool.and_self, Bool.or_false]
        refine (W_rec2 (β := AV) (ι := {s : Nat × Pfx // PfxOk s.2 ∧ s.2.adr.ver = q.adr.ver ∧ s.1 = s.2.bits.toNat}) (M := fun s => [(2, .ptr 0 0 0 0), (6, .ptr 1 0 0 0), (7, .ptr 2 0 0 0)])
          (H := fun s => ⟨[.box 0 37 (pav zerP), .box 0 37 (pav s.1.2), .box 0 37 (pav q)], []⟩) (r := fun s => some (AV.tup [.agg (pav (climbF s.1.1 s.1.2 q)), .bool true, .int .i64 0])) (μ := fun s => s.1.1) (fun s => ?_) (fun s ih => ?_) ⟨(p.bits.toNat, p), ho1, hv, rfl⟩ rfl rfl)
        · simp [LPB]
        · obtain ⟨⟨n, x⟩, hx, hxv, hn⟩ := s
          simp only at hx hxv hn ih ⊢
          by_cases hh : Holds x q
          · have e : climbF n x q = x := by cases n <;> simp [climbF, hh]
            simp only [RB, pickV, eqbV, notV, negV, convV, faddrV, fldV, idxV, eqaggV, iaddrV, isnilV, nilckV, pnilV, cloV, extrV, slenV, minV, sidxV, abin, cmpInt, params, growLists, fillCells, newAt, rdPtr, wrPtr, AV.cells, asVal, lenOf, boundOf, rowsOf, argIds, freshIn, scalar1, setAll, AV.isData, AV.isYld, Nat.reduceAdd, Nat.reduceMul, Nat.reduceSub, Nat.reduceEqDiff, Nat.reduceLeDiff, Nat.reduceLT, Int.reduceNeg, ↓reduceIte, reduceCtorEq, Int.reduceEq, Int.reduceLT, Int.reduceLE, Int.reduceBEq, Int.reduceBNe, Int.reduceToNat, IntKind.bits, Int.reduceAdd, Int.reduceSub, Int.reduceMul, Int.reduceTDiv, Int.reduceTMod, DB, e_prefix_Holds, hh, e, expCell, List.nodup_cons, List.nodup_nil, List.not_mem_nil, not_false_eq_true, not_true_eq_false, and_true, and_false, if_false, List.mem_cons, mutIds, pav_data]
          · have hb : 0 < x.bits := by
              have := hx.2.1
              rcases (show x.bits = 0 ∨ 0 < x.bits by omega) with e | e
              · exact absurd (holds_zero hx ho2 hxv e) hh
              · exact e
            obtain ⟨m, rfl⟩ : ∃ m, n = m + 1 := ⟨n - 1, by omega⟩
            have ih := ih ⟨(m, upP x), upP_ok hx hb, hxv, by show m = (x.bits - 1).toNat; omega⟩ (by simp only; omega)
            simp only at ih
            rw [climbF, if_neg hh]
            simp only [RB, pickV, eqbV, notV, negV, convV, faddrV, fldV, idxV, eqaggV, iaddrV, isnilV, nilckV, pnilV, cloV, extrV, slenV, minV, sidxV, abin, cmpInt, params, growLists, fillCells, newAt, rdPtr, wrPtr, AV.cells, asVal, lenOf, boundOf, rowsOf, argIds, freshIn, scalar1, setAll, AV.isData, AV.isYld, Nat.reduceAdd, Nat.reduceMul, Nat.reduceSub, Nat.reduceEqDiff, Nat.reduceLeDiff, Nat.reduceLT, Int.reduceNeg, ↓reduceIte, reduceCtorEq, Int.reduceEq, Int.reduceLT, Int.reduceLE, Int.reduceBEq, Int.reduceBNe, Int.reduceToNat, IntKind.bits, Int.reduceAdd, Int.reduceSub, Int.reduceMul, Int.reduceTDiv, Int.reduceTMod, DB, e_prefix_Holds, hh, e36 x hx hb]
            exact ih
      · rw [if_neg hv]
        have nv : (p.adr.ver != q.adr.ver) = true := by rw [bne_iff_ne]; exact hv
        simp only [f18, ← pav_zer, RB, pickV, eqbV, notV, negV, convV, faddrV, fldV, idxV, eqaggV, iaddrV, isnilV, nilckV, pnilV, cloV, extrV, slenV, minV, sidxV, abin, cmpInt, params, growLists, fillCells, newAt, rdPtr, wrPtr, AV.cells, asVal, lenOf, boundOf, rowsOf, argIds, freshIn, scalar1, setAll, AV.isData, AV.isYld, Nat.reduceAdd, Nat.reduceMul, Nat.reduceSub, Nat.reduceEqDiff, Nat.reduceLeDiff, Nat.reduceLT, Int.reduceNeg, ↓reduceIte, reduceCtorEq, Int.reduceEq, Int.reduceLT, Int.reduceLE, Int.reduceBEq, Int.reduceBNe, Int.reduceToNat, IntKind.bits, Int.reduceAdd, Int.reduceSub, Int.reduceMul, Int.reduceTDiv, Int.reduceTMod, DB, prows_len, h16, n0, f1, f2, f3, f4, g1, g2, nv, bne_self_eq_false, pairOk, AV.ids, List.contains_cons, List.contains_nil, Nat.reduceBEq, List.all_cons, List.all_nil, Bool.or_self, Bool.not_false, Bool.and_self, Bool.or_false, expCell, List.nodup_cons, List.nodup_nil, List.not_mem_nil, not_false_eq_true, not_true_eq_false, and_true, and_false, if_false, List.mem_cons, mutIds, pav_data]
    · rw [dif_neg h0]
      have n0 : l.length = 0 := by omega
      simp only [f18, ← pav_zer, RB, pickV, eqbV, notV, negV, convV, faddrV, fldV, idxV, eqaggV, iaddrV, isnilV, nilckV, pnilV, cloV, extrV, slenV, minV, sidxV, abin, cmpInt, params, growLists, fillCells, newAt, rdPtr, wrPtr, AV.cells, asVal, lenOf, boundOf, rowsOf, argIds, freshIn, scalar1, setAll, AV.isData, AV.isYld, Nat.reduceAdd, Nat.reduceMul, Nat.reduceSub, Nat.reduceEqDiff, Nat.reduceLeDiff, Nat.reduceLT, Int.reduceNeg, ↓reduceIte, reduceCtorEq, Int.reduceEq, Int.reduceLT, Int.reduceLE, Int.reduceBEq, Int.reduceBNe, Int.reduceToNat, IntKind.bits, Int.reduceAdd, Int.reduceSub, Int.reduceMul, Int.reduceTDiv, Int.reduceTMod, DB, prows_len, h16, n0, bne_self_eq_false, expCell, List.nodup_cons, List.nodup_nil, List.not_mem_nil, not_false_eq_true, not_true_eq_false, and_true, and_false, if_false, List.mem_cons, mutIds, pav_data, show (((0 : Nat) : Int) == 0) = true from rfl]
  · have hc' : chkB l = false := by simpa using hc
    rw [if_neg hc] at h16 ⊢
    simp only [f18, ← pav_zer, RB, pickV, eqbV, notV, negV, convV, faddrV, fldV, idxV, eqaggV, iaddrV, isnilV, nilckV, pnilV, cloV, extrV, slenV, minV, sidxV, abin, cmpInt, params, growLists, fillCells, newAt, rdPtr, wrPtr, AV.cells, asVal, lenOf, boundOf, rowsOf, argIds, freshIn, scalar1, setAll, AV.isData, AV.isYld, Nat.reduceAdd, Nat.reduceMul, Nat.reduceSub, Nat.reduceEqDiff, Nat.reduceLeDiff, Nat.reduceLT, Int.reduceNeg, ↓reduceIte, reduceCtorEq, Int.reduceEq, Int.reduceLT, Int.reduceLE, Int.reduceBEq, Int.reduceBNe, Int.reduceToNat, IntKind.bits, Int.reduceAdd, Int.reduceSub, Int.reduceMul, Int.reduceTDiv, Int.reduceTMod, DB, prows_len, h16, expCell, List.nodup_cons, List.nodup_nil, List.not_mem_nil, not_false_eq_true, not_true_eq_false, and_true, and_false, if_false, List.mem_cons, mutIds, pav_data, show ((340 : Int) != 0) = true from rfl]
end Go.Proofs.YtnpdaegfmfkghaaDoor.F
