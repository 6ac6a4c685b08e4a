/- Part 8 of the proofs of these statements. No condition. -/
import Derived.Test.YtihbammfchnjgaaDoorM7
set_option linter.unusedVariables false
set_option linter.unusedSimpArgs false
/- Tables: rows as data; which tables may be, by the program and by the document. No condition. -/
set_option linter.unusedSimpArgs false
namespace Go.Proofs.YtihbammfchnjgaaDoor.D
open Go Go.Proofs.YtihbammfchnjgaaDoor.A
def rrows (l : List Rw) : List (List AV) := l.map rav
def row (l : List Rw) (i : Nat) : Rw := l.getD i zerR
theorem rrows_len (l : List Rw) : (rrows l).length = l.length := by simp [rrows]
theorem row_some (l : List Rw) {i : Nat} (h : i < l.length) : l[i]? = some (row l i) := by simp [row, List.getD_eq_getElem?_getD, h]
theorem rrows_get (l : List Rw) {i : Nat} (h : i < l.length) : (rrows l)[i]? = some (rav (row l i)) := by
  rw [rrows, List.getElem?_map, row_some l h]; rfl
def RowOk (l : List Rw) (i : Nat) : Prop := i ≠ 40 ∧ PfxOk (row l i).p ∧ 1 ≤ (row l i).hop ∧ (row l i).hop ≤ 255 ∧ (0 < i → cmpP (row l (i - 1)).p (row l i).p < 0)
def TabFrom (l : List Rw) (k : Nat) : Prop := ∀ i, k ≤ i → i < l.length → RowOk l i
instance {l : List Rw} {i : Nat} : Decidable (RowOk l i) := by unfold RowOk; infer_instance
instance {l : List Rw} {k : Nat} : Decidable (TabFrom l k) := decidable_of_iff (∀ i, i < l.length → k ≤ i → RowOk l i) ⟨fun h i h1 h2 => h i h2 h1, fun h i h1 h2 => h i h2 h1⟩
def TabOk (l : List Rw) : Prop := TabFrom l 0
instance {l : List Rw} : Decidable (TabOk l) := by unfold TabOk; infer_instance
theorem TabFrom.next {l : List Rw} {k : Nat} (h : RowOk l k) : TabFrom l k ↔ TabFrom l (k + 1) := by
  constructor
  · exact fun H i h1 h2 => H i (by omega) h2
  · intro H i h1 h2
    rcases Nat.lt_or_eq_of_le h1 with h3 | rfl
    · exact H i h3 h2
    · exact h
theorem TabFrom.not {l : List Rw} {k : Nat} (hk : k < l.length) (h : ¬ RowOk l k) : ¬ TabFrom l k := fun H => h (H k (Nat.le_refl _) hk)
theorem TabFrom.done {l : List Rw} {k : Nat} (h : l.length ≤ k) : TabFrom l k := fun i h1 h2 => by omega
theorem TabOk.len {l : List Rw} (h : TabOk l) : l.length ≤ 40 := by
  by_cases hl : l.length ≤ 40
  · exact hl
  · exact absurd rfl (h 40 (by omega) (by omega)).1
def hopOk (n : Int) : Prop := 1 ≤ n ∧ n ≤ 255
instance {n : Int} : Decidable (hopOk n) := by unfold hopOk; infer_instance
end Go.Proofs.YtihbammfchnjgaaDoor.D
namespace Go.Proofs.YtihbammfchnjgaaDoor.F
open Go Go.Proofs.YtihbammfchnjgaaDoor.A Go.Proofs.YtihbammfchnjgaaDoor.D
theorem e68 (n : Int) : LV E 68 [.int .i64 n] = some (.bool (decide (hopOk n))) := by
  rw [LV_R (fn := f68) rfl rfl rfl]
  simp only [f68, RB, pickV, eqbV, notV, negV, convV, faddrV, fldV, idxV, eqaggV, iaddrV, isnilV, nilckV, cloV, extrV, slenV, minV, sidxV, abin, cmpInt, params, growLists, fillCells, newAt, rdPtr, wrPtr, AV.cells, asVal, lenOf, boundOf, rowsOf, argIds, freshIn, scalar1, setAll, AV.isData, AV.isYld, Nat.reduceAdd, Nat.reduceMul, Nat.reduceSub, Nat.reduceEqDiff, Nat.reduceLeDiff, Nat.reduceLT, Int.reduceNeg, ↓reduceIte, reduceCtorEq, Int.reduceEq, Int.reduceLT, Int.reduceLE, Int.reduceBEq, Int.reduceBNe, Int.reduceToNat, IntKind.bits, Int.reduceAdd, Int.reduceSub, Int.reduceMul, Int.reduceTDiv, Int.reduceTMod]
  by_cases h1 : 1 ≤ n
  · simp only [RB, pickV, eqbV, notV, negV, convV, faddrV, fldV, idxV, eqaggV, iaddrV, isnilV, nilckV, cloV, extrV, slenV, minV, sidxV, abin, cmpInt, params, growLists, fillCells, newAt, rdPtr, wrPtr, AV.cells, asVal, lenOf, boundOf, rowsOf, argIds, freshIn, scalar1, setAll, AV.isData, AV.isYld, Nat.reduceAdd, Nat.reduceMul, Nat.reduceSub, Nat.reduceEqDiff, Nat.reduceLeDiff, Nat.reduceLT, Int.reduceNeg, ↓reduceIte, reduceCtorEq, Int.reduceEq, Int.reduceLT, Int.reduceLE, Int.reduceBEq, Int.reduceBNe, Int.reduceToNat, IntKind.bits, Int.reduceAdd, Int.reduceSub, Int.reduceMul, Int.reduceTDiv, Int.reduceTMod, h1]; simp [hopOk, h1]
  · simp only [RB, pickV, eqbV, notV, negV, convV, faddrV, fldV, idxV, eqaggV, iaddrV, isnilV, nilckV, cloV, extrV, slenV, minV, sidxV, abin, cmpInt, params, growLists, fillCells, newAt, rdPtr, wrPtr, AV.cells, asVal, lenOf, boundOf, rowsOf, argIds, freshIn, scalar1, setAll, AV.isData, AV.isYld, Nat.reduceAdd, Nat.reduceMul, Nat.reduceSub, Nat.reduceEqDiff, Nat.reduceLeDiff, Nat.reduceLT, Int.reduceNeg, ↓reduceIte, reduceCtorEq, Int.reduceEq, Int.reduceLT, Int.reduceLE, Int.reduceBEq, Int.reduceBNe, Int.reduceToNat, IntKind.bits, Int.reduceAdd, Int.reduceSub, Int.reduceMul, Int.reduceTDiv, Int.reduceTMod, h1]; simp [hopOk, h1]
theorem e86 (r : Rw) (p : Pfx) : LV E 86 [.agg (rav r), .agg (pav p)] = some (.int .i64 (cmpP r.p p)) := by
  rw [LV_R (fn := f86) rfl rfl rfl]
  simp only [f86, RB, pickV, eqbV, notV, negV, convV, faddrV, fldV, idxV, eqaggV, iaddrV, isnilV, nilckV, cloV, extrV, slenV, minV, sidxV, abin, cmpInt, params, growLists, fillCells, newAt, rdPtr, wrPtr, AV.cells, asVal, lenOf, boundOf, rowsOf, argIds, freshIn, scalar1, setAll, AV.isData, AV.isYld, Nat.reduceAdd, Nat.reduceMul, Nat.reduceSub, Nat.reduceEqDiff, Nat.reduceLeDiff, Nat.reduceLT, Int.reduceNeg, ↓reduceIte, reduceCtorEq, Int.reduceEq, Int.reduceLT, Int.reduceLE, Int.reduceBEq, Int.reduceBNe, Int.reduceToNat, IntKind.bits, Int.reduceAdd, Int.reduceSub, Int.reduceMul, Int.reduceTDiv, Int.reduceTMod, DB, e40]
theorem e60 (l : List Rw) (hl : l.length ≤ 4611686018427387904) : LV E 60 [.agg [.ro (rrows l)]] = some (.int .i64 (if TabOk l then 0 else 190)) := by
  rw [LV_R (fn := f60) rfl rfl rfl]
  simp only [f60, RB, pickV, eqbV, notV, negV, convV, faddrV, fldV, idxV, eqaggV, iaddrV, isnilV, nilckV, cloV, extrV, slenV, minV, sidxV, abin, cmpInt, params, growLists, fillCells, newAt, rdPtr, wrPtr, AV.cells, asVal, lenOf, boundOf, rowsOf, argIds, freshIn, scalar1, setAll, AV.isData, AV.isYld, Nat.reduceAdd, Nat.reduceMul, Nat.reduceSub, Nat.reduceEqDiff, Nat.reduceLeDiff, Nat.reduceLT, Int.reduceNeg, ↓reduceIte, reduceCtorEq, Int.reduceEq, Int.reduceLT, Int.reduceLE, Int.reduceBEq, Int.reduceBNe, Int.reduceToNat, IntKind.bits, Int.reduceAdd, Int.reduceSub, Int.reduceMul, Int.reduceTDiv, Int.reduceTMod, DB, rrows_len]
  refine (W_rec (β := AV) (ι := Nat) (M := fun k => [(1, .ptr 0 0 0 0), (6, .ro (rrows l)), (7, .int .i64 (l.length : Int)), (8, .int .i64 (k : Int))]) (H := fun _ => ⟨[.box 0 24 [.ro (rrows l)]], []⟩) (r := fun k => some (AV.int .i64 (if TabFrom l k then 0 else 190))) (μ := fun k => l.length - k) (fun i => ?_) (fun k ih => ?_) 0).trans ?_
  · simp [LPB]
  · by_cases hk : k < l.length
    · have f1 : (k : Int) < (l.length : Int) := by omega
      have f2 : (0 : Int) ≤ (k : Int) := by omega
      have f6 : IntKind.i64.wrap ((k : Int) + 1) = ((k + 1 : Nat) : Int) := by rw [IntWalk.i64_in _ (by omega)] <;> omega
      have g := rrows_get l hk
      by_cases h1 : k = 40
      · have h1' : ((k : Int) == 40) = true := by rw [beq_iff_eq]; omega
        simp only [RB, pickV, eqbV, notV, negV, convV, faddrV, fldV, idxV, eqaggV, iaddrV, isnilV, nilckV, cloV, extrV, slenV, minV, sidxV, abin, cmpInt, params, growLists, fillCells, newAt, rdPtr, wrPtr, AV.cells, asVal, lenOf, boundOf, rowsOf, argIds, freshIn, scalar1, setAll, AV.isData, AV.isYld, Nat.reduceAdd, Nat.reduceMul, Nat.reduceSub, Nat.reduceEqDiff, Nat.reduceLeDiff, Nat.reduceLT, Int.reduceNeg, ↓reduceIte, reduceCtorEq, Int.reduceEq, Int.reduceLT, Int.reduceLE, Int.reduceBEq, Int.reduceBNe, Int.reduceToNat, IntKind.bits, Int.reduceAdd, Int.reduceSub, Int.reduceMul, Int.reduceTDiv, Int.reduceTMod, DB, f1, f2, g, h1', rrows_len]
        rw [if_neg (TabFrom.not hk fun h => h.1 h1)]
      · have h1' : ((k : Int) == 40) = false := by rw [beq_eq_false_iff_ne]; omega
        by_cases h2 : PfxOk (row l k).p
        · by_cases h3 : hopOk (row l k).hop
          · by_cases h4 : 0 < k
            · have g' := rrows_get l (show k - 1 < l.length by omega)
              have f3 : IntKind.i64.wrap ((k : Int) - 1) = ((k - 1 : Nat) : Int) := by rw [IntWalk.i64_in _ (by omega)] <;> omega
              have f4 : (0 : Int) < (k : Int) := by omega
              have f5 : (0 : Int) ≤ ((k - 1 : Nat) : Int) := by omega
              by_cases h5 : 0 ≤ cmpP (row l (k - 1)).p (row l k).p
              · simp only [RB, pickV, eqbV, notV, negV, convV, faddrV, fldV, idxV, eqaggV, iaddrV, isnilV, nilckV, cloV, extrV, slenV, minV, sidxV, abin, cmpInt, params, growLists, fillCells, newAt, rdPtr, wrPtr, AV.cells, asVal, lenOf, boundOf, rowsOf, argIds, freshIn, scalar1, setAll, AV.isData, AV.isYld, Nat.reduceAdd, Nat.reduceMul, Nat.reduceSub, Nat.reduceEqDiff, Nat.reduceLeDiff, Nat.reduceLT, Int.reduceNeg, ↓reduceIte, reduceCtorEq, Int.reduceEq, Int.reduceLT, Int.reduceLE, Int.reduceBEq, Int.reduceBNe, Int.reduceToNat, IntKind.bits, Int.reduceAdd, Int.reduceSub, Int.reduceMul, Int.reduceTDiv, Int.reduceTMod, DB, f1, f2, f3, f4, f5, g, g', h1', e67, h2, e68, h3, e86, h5]
                rw [if_neg (TabFrom.not hk fun h => by have := h.2.2.2.2 h4; omega)]
              · simp only [RB, pickV, eqbV, notV, negV, convV, faddrV, fldV, idxV, eqaggV, iaddrV, isnilV, nilckV, cloV, extrV, slenV, minV, sidxV, abin, cmpInt, params, growLists, fillCells, newAt, rdPtr, wrPtr, AV.cells, asVal, lenOf, boundOf, rowsOf, argIds, freshIn, scalar1, setAll, AV.isData, AV.isYld, Nat.reduceAdd, Nat.reduceMul, Nat.reduceSub, Nat.reduceEqDiff, Nat.reduceLeDiff, Nat.reduceLT, Int.reduceNeg, ↓reduceIte, reduceCtorEq, Int.reduceEq, Int.reduceLT, Int.reduceLE, Int.reduceBEq, Int.reduceBNe, Int.reduceToNat, IntKind.bits, Int.reduceAdd, Int.reduceSub, Int.reduceMul, Int.reduceTDiv, Int.reduceTMod, DB, f1, f2, f3, f4, f5, f6, g, g', h1', e67, h2, e68, h3, e86, h5]
                rw [ih (k + 1) (by omega)]
                simp only [TabFrom.next (show RowOk l k from ⟨h1, h2, h3.1, h3.2, fun _ => by omega⟩)]
            · have f4 : ¬ (0 : Int) < (k : Int) := by omega
              simp only [RB, pickV, eqbV, notV, negV, convV, faddrV, fldV, idxV, eqaggV, iaddrV, isnilV, nilckV, cloV, extrV, slenV, minV, sidxV, abin, cmpInt, params, growLists, fillCells, newAt, rdPtr, wrPtr, AV.cells, asVal, lenOf, boundOf, rowsOf, argIds, freshIn, scalar1, setAll, AV.isData, AV.isYld, Nat.reduceAdd, Nat.reduceMul, Nat.reduceSub, Nat.reduceEqDiff, Nat.reduceLeDiff, Nat.reduceLT, Int.reduceNeg, ↓reduceIte, reduceCtorEq, Int.reduceEq, Int.reduceLT, Int.reduceLE, Int.reduceBEq, Int.reduceBNe, Int.reduceToNat, IntKind.bits, Int.reduceAdd, Int.reduceSub, Int.reduceMul, Int.reduceTDiv, Int.reduceTMod, DB, f1, f2, f4, f6, g, h1', e67, h2, e68, h3]
              rw [ih (k + 1) (by omega)]
              simp only [TabFrom.next (show RowOk l k from ⟨h1, h2, h3.1, h3.2, fun h => absurd h h4⟩)]
          · simp only [RB, pickV, eqbV, notV, negV, convV, faddrV, fldV, idxV, eqaggV, iaddrV, isnilV, nilckV, cloV, extrV, slenV, minV, sidxV, abin, cmpInt, params, growLists, fillCells, newAt, rdPtr, wrPtr, AV.cells, asVal, lenOf, boundOf, rowsOf, argIds, freshIn, scalar1, setAll, AV.isData, AV.isYld, Nat.reduceAdd, Nat.reduceMul, Nat.reduceSub, Nat.reduceEqDiff, Nat.reduceLeDiff, Nat.reduceLT, Int.reduceNeg, ↓reduceIte, reduceCtorEq, Int.reduceEq, Int.reduceLT, Int.reduceLE, Int.reduceBEq, Int.reduceBNe, Int.reduceToNat, IntKind.bits, Int.reduceAdd, Int.reduceSub, Int.reduceMul, Int.reduceTDiv, Int.reduceTMod, DB, f1, f2, g, h1', e67, h2, e68, h3]
            rw [if_neg (TabFrom.not hk fun h => h3 ⟨h.2.2.1, h.2.2.2.1⟩)]
        · simp only [RB, pickV, eqbV, notV, negV, convV, faddrV, fldV, idxV, eqaggV, iaddrV, isnilV, nilckV, cloV, extrV, slenV, minV, sidxV, abin, cmpInt, params, growLists, fillCells, newAt, rdPtr, wrPtr, AV.cells, asVal, lenOf, boundOf, rowsOf, argIds, freshIn, scalar1, setAll, AV.isData, AV.isYld, Nat.reduceAdd, Nat.reduceMul, Nat.reduceSub, Nat.reduceEqDiff, Nat.reduceLeDiff, Nat.reduceLT, Int.reduceNeg, ↓reduceIte, reduceCtorEq, Int.reduceEq, Int.reduceLT, Int.reduceLE, Int.reduceBEq, Int.reduceBNe, Int.reduceToNat, IntKind.bits, Int.reduceAdd, Int.reduceSub, Int.reduceMul, Int.reduceTDiv, Int.reduceTMod, DB, f1, f2, g, h1', e67, h2]
          rw [if_neg (TabFrom.not hk fun h => h2 h.2.1)]
    · simp only [RB, pickV, eqbV, notV, negV, convV, faddrV, fldV, idxV, eqaggV, iaddrV, isnilV, nilckV, cloV, extrV, slenV, minV, sidxV, abin, cmpInt, params, growLists, fillCells, newAt, rdPtr, wrPtr, AV.cells, asVal, lenOf, boundOf, rowsOf, argIds, freshIn, scalar1, setAll, AV.isData, AV.isYld, Nat.reduceAdd, Nat.reduceMul, Nat.reduceSub, Nat.reduceEqDiff, Nat.reduceLeDiff, Nat.reduceLT, Int.reduceNeg, ↓reduceIte, reduceCtorEq, Int.reduceEq, Int.reduceLT, Int.reduceLE, Int.reduceBEq, Int.reduceBNe, Int.reduceToNat, IntKind.bits, Int.reduceAdd, Int.reduceSub, Int.reduceMul, Int.reduceTDiv, Int.reduceTMod, DB, show ¬ (k : Int) < (l.length : Int) by omega]
      rw [if_pos (TabFrom.done (by omega))]
  · congr 2
theorem e32 (l : List Rw) (hl : l.length ≤ 4611686018427387904) : LV E 32 [.agg [.ro (rrows l)]] = some (.bool (decide (TabOk l))) := by
  rw [LV_R (fn := f32) rfl rfl rfl]
  simp only [f32, RB, pickV, eqbV, notV, negV, convV, faddrV, fldV, idxV, eqaggV, iaddrV, isnilV, nilckV, cloV, extrV, slenV, minV, sidxV, abin, cmpInt, params, growLists, fillCells, newAt, rdPtr, wrPtr, AV.cells, asVal, lenOf, boundOf, rowsOf, argIds, freshIn, scalar1, setAll, AV.isData, AV.isYld, Nat.reduceAdd, Nat.reduceMul, Nat.reduceSub, Nat.reduceEqDiff, Nat.reduceLeDiff, Nat.reduceLT, Int.reduceNeg, ↓reduceIte, reduceCtorEq, Int.reduceEq, Int.reduceLT, Int.reduceLE, Int.reduceBEq, Int.reduceBNe, Int.reduceToNat, IntKind.bits, Int.reduceAdd, Int.reduceSub, Int.reduceMul, Int.reduceTDiv, Int.reduceTMod, DB, rrows_len]
  by_cases h40 : (40 : Int) < (l.length : Int)
  · simp only [RB, pickV, eqbV, notV, negV, convV, faddrV, fldV, idxV, eqaggV, iaddrV, isnilV, nilckV, cloV, extrV, slenV, minV, sidxV, abin, cmpInt, params, growLists, fillCells, newAt, rdPtr, wrPtr, AV.cells, asVal, lenOf, boundOf, rowsOf, argIds, freshIn, scalar1, setAll, AV.isData, AV.isYld, Nat.reduceAdd, Nat.reduceMul, Nat.reduceSub, Nat.reduceEqDiff, Nat.reduceLeDiff, Nat.reduceLT, Int.reduceNeg, ↓reduceIte, reduceCtorEq, Int.reduceEq, Int.reduceLT, Int.reduceLE, Int.reduceBEq, Int.reduceBNe, Int.reduceToNat, IntKind.bits, Int.reduceAdd, Int.reduceSub, Int.reduceMul, Int.reduceTDiv, Int.reduceTMod, h40]
    rw [decide_eq_false fun h => by have := TabOk.len h; omega]
  · simp only [RB, pickV, eqbV, notV, negV, convV, faddrV, fldV, idxV, eqaggV, iaddrV, isnilV, nilckV, cloV, extrV, slenV, minV, sidxV, abin, cmpInt, params, growLists, fillCells, newAt, rdPtr, wrPtr, AV.cells, asVal, lenOf, boundOf, rowsOf, argIds, freshIn, scalar1, setAll, AV.isData, AV.isYld, Nat.reduceAdd, Nat.reduceMul, Nat.reduceSub, Nat.reduceEqDiff, Nat.reduceLeDiff, Nat.reduceLT, Int.reduceNeg, ↓reduceIte, reduceCtorEq, Int.reduceEq, Int.reduceLT, Int.reduceLE, Int.reduceBEq, Int.reduceBNe, Int.reduceToNat, IntKind.bits, Int.reduceAdd, Int.reduceSub, Int.reduceMul, Int.reduceTDiv, Int.reduceTMod, h40]
    refine (W_rec (β := AV) (ι := Nat) (M := fun k => [(1, .ptr 0 0 0 0), (3, .int .i64 (k : Int))]) (H := fun _ => ⟨[.box 0 24 [.ro (rrows l)]], []⟩) (r := fun k => some (AV.bool (decide (TabFrom l k)))) (μ := fun k => l.length - k) (fun i => ?_) (fun k ih => ?_) 0).trans ?_
    · simp [LPB]
    · by_cases hk : k < l.length
      · have f1 : (k : Int) < (l.length : Int) := by omega
        have f2 : (0 : Int) ≤ (k : Int) := by omega
        have f6 : IntKind.i64.wrap ((k : Int) + 1) = ((k + 1 : Nat) : Int) := by rw [IntWalk.i64_in _ (by omega)] <;> omega
        have g := rrows_get l hk
        have h1 : k ≠ 40 := by omega
        by_cases h2 : PfxOk (row l k).p
        · by_cases h3 : (row l k).hop < 1
          · simp only [RB, pickV, eqbV, notV, negV, convV, faddrV, fldV, idxV, eqaggV, iaddrV, isnilV, nilckV, cloV, extrV, slenV, minV, sidxV, abin, cmpInt, params, growLists, fillCells, newAt, rdPtr, wrPtr, AV.cells, asVal, lenOf, boundOf, rowsOf, argIds, freshIn, scalar1, setAll, AV.isData, AV.isYld, Nat.reduceAdd, Nat.reduceMul, Nat.reduceSub, Nat.reduceEqDiff, Nat.reduceLeDiff, Nat.reduceLT, Int.reduceNeg, ↓reduceIte, reduceCtorEq, Int.reduceEq, Int.reduceLT, Int.reduceLE, Int.reduceBEq, Int.reduceBNe, Int.reduceToNat, IntKind.bits, Int.reduceAdd, Int.reduceSub, Int.reduceMul, Int.reduceTDiv, Int.reduceTMod, DB, rrows_len, f1, f2, g, e48, h2, h3]
            rw [decide_eq_false (TabFrom.not hk fun h => by have := h.2.2.1; omega)]
          · by_cases h3' : 255 < (row l k).hop
            · simp only [RB, pickV, eqbV, notV, negV, convV, faddrV, fldV, idxV, eqaggV, iaddrV, isnilV, nilckV, cloV, extrV, slenV, minV, sidxV, abin, cmpInt, params, growLists, fillCells, newAt, rdPtr, wrPtr, AV.cells, asVal, lenOf, boundOf, rowsOf, argIds, freshIn, scalar1, setAll, AV.isData, AV.isYld, Nat.reduceAdd, Nat.reduceMul, Nat.reduceSub, Nat.reduceEqDiff, Nat.reduceLeDiff, Nat.reduceLT, Int.reduceNeg, ↓reduceIte, reduceCtorEq, Int.reduceEq, Int.reduceLT, Int.reduceLE, Int.reduceBEq, Int.reduceBNe, Int.reduceToNat, IntKind.bits, Int.reduceAdd, Int.reduceSub, Int.reduceMul, Int.reduceTDiv, Int.reduceTMod, DB, rrows_len, f1, f2, g, e48, h2, h3, h3']
              rw [decide_eq_false (TabFrom.not hk fun h => by have := h.2.2.2.1; omega)]
            · by_cases h4 : 0 < k
              · have g' := rrows_get l (show k - 1 < l.length by omega)
                have f3 : IntKind.i64.wrap ((k : Int) - 1) = ((k - 1 : Nat) : Int) := by rw [IntWalk.i64_in _ (by omega)] <;> omega
                have f4 : (0 : Int) < (k : Int) := by omega
                have f5 : (0 : Int) ≤ ((k - 1 : Nat) : Int) := by omega
                by_cases h5 : 0 ≤ cmpP (row l (k - 1)).p (row l k).p
                · simp only [RB, pickV, eqbV, notV, negV, convV, faddrV, fldV, idxV, eqaggV, iaddrV, isnilV, nilckV, cloV, extrV, slenV, minV, sidxV, abin, cmpInt, params, growLists, fillCells, newAt, rdPtr, wrPtr, AV.cells, asVal, lenOf, boundOf, rowsOf, argIds, freshIn, scalar1, setAll, AV.isData, AV.isYld, Nat.reduceAdd, Nat.reduceMul, Nat.reduceSub, Nat.reduceEqDiff, Nat.reduceLeDiff, Nat.reduceLT, Int.reduceNeg, ↓reduceIte, reduceCtorEq, Int.reduceEq, Int.reduceLT, Int.reduceLE, Int.reduceBEq, Int.reduceBNe, Int.reduceToNat, IntKind.bits, Int.reduceAdd, Int.reduceSub, Int.reduceMul, Int.reduceTDiv, Int.reduceTMod, DB, rrows_len, f1, f2, f3, f4, f5, g, g', e48, h2, e49, h3, h3', h5]
                  rw [decide_eq_false (TabFrom.not hk fun h => by have := h.2.2.2.2 h4; omega)]
                · simp only [RB, pickV, eqbV, notV, negV, convV, faddrV, fldV, idxV, eqaggV, iaddrV, isnilV, nilckV, cloV, extrV, slenV, minV, sidxV, abin, cmpInt, params, growLists, fillCells, newAt, rdPtr, wrPtr, AV.cells, asVal, lenOf, boundOf, rowsOf, argIds, freshIn, scalar1, setAll, AV.isData, AV.isYld, Nat.reduceAdd, Nat.reduceMul, Nat.reduceSub, Nat.reduceEqDiff, Nat.reduceLeDiff, Nat.reduceLT, Int.reduceNeg, ↓reduceIte, reduceCtorEq, Int.reduceEq, Int.reduceLT, Int.reduceLE, Int.reduceBEq, Int.reduceBNe, Int.reduceToNat, IntKind.bits, Int.reduceAdd, Int.reduceSub, Int.reduceMul, Int.reduceTDiv, Int.reduceTMod, DB, rrows_len, f1, f2, f3, f4, f5, f6, g, g', e48, h2, e49, h3, h3', h5]
                  rw [ih (k + 1) (by omega)]
                  simp only [TabFrom.next (show RowOk l k from ⟨h1, h2, by omega, by omega, fun _ => by omega⟩)]
              · have f4 : ¬ (0 : Int) < (k : Int) := by omega
                simp only [RB, pickV, eqbV, notV, negV, convV, faddrV, fldV, idxV, eqaggV, iaddrV, isnilV, nilckV, cloV, extrV, slenV, minV, sidxV, abin, cmpInt, params, growLists, fillCells, newAt, rdPtr, wrPtr, AV.cells, asVal, lenOf, boundOf, rowsOf, argIds, freshIn, scalar1, setAll, AV.isData, AV.isYld, Nat.reduceAdd, Nat.reduceMul, Nat.reduceSub, Nat.reduceEqDiff, Nat.reduceLeDiff, Nat.reduceLT, Int.reduceNeg, ↓reduceIte, reduceCtorEq, Int.reduceEq, Int.reduceLT, Int.reduceLE, Int.reduceBEq, Int.reduceBNe, Int.reduceToNat, IntKind.bits, Int.reduceAdd, Int.reduceSub, Int.reduceMul, Int.reduceTDiv, Int.reduceTMod, DB, rrows_len, f1, f2, f4, f6, g, e48, h2, h3, h3']
                rw [ih (k + 1) (by omega)]
                simp only [TabFrom.next (show RowOk l k from ⟨h1, h2, by omega, by omega, fun h => absurd h h4⟩)]
        · simp only [RB, pickV, eqbV, notV, negV, convV, faddrV, fldV, idxV, eqaggV, iaddrV, isnilV, nilckV, cloV, extrV, slenV, minV, sidxV, abin, cmpInt, params, growLists, fillCells, newAt, rdPtr, wrPtr, AV.cells, asVal, lenOf, boundOf, rowsOf, argIds, freshIn, scalar1, setAll, AV.isData, AV.isYld, Nat.reduceAdd, Nat.reduceMul, Nat.reduceSub, Nat.reduceEqDiff, Nat.reduceLeDiff, Nat.reduceLT, Int.reduceNeg, ↓reduceIte, reduceCtorEq, Int.reduceEq, Int.reduceLT, Int.reduceLE, Int.reduceBEq, Int.reduceBNe, Int.reduceToNat, IntKind.bits, Int.reduceAdd, Int.reduceSub, Int.reduceMul, Int.reduceTDiv, Int.reduceTMod, DB, rrows_len, f1, f2, g, e48, h2]
          rw [decide_eq_false (TabFrom.not hk fun h => h2 h.2.1)]
      · simp only [RB, pickV, eqbV, notV, negV, convV, faddrV, fldV, idxV, eqaggV, iaddrV, isnilV, nilckV, cloV, extrV, slenV, minV, sidxV, abin, cmpInt, params, growLists, fillCells, newAt, rdPtr, wrPtr, AV.cells, asVal, lenOf, boundOf, rowsOf, argIds, freshIn, scalar1, setAll, AV.isData, AV.isYld, Nat.reduceAdd, Nat.reduceMul, Nat.reduceSub, Nat.reduceEqDiff, Nat.reduceLeDiff, Nat.reduceLT, Int.reduceNeg, ↓reduceIte, reduceCtorEq, Int.reduceEq, Int.reduceLT, Int.reduceLE, Int.reduceBEq, Int.reduceBNe, Int.reduceToNat, IntKind.bits, Int.reduceAdd, Int.reduceSub, Int.reduceMul, Int.reduceTDiv, Int.reduceTMod, DB, rrows_len, show ¬ (k : Int) < (l.length : Int) by omega]
        rw [decide_eq_true (TabFrom.done (by omega))]
    · congr 2
end Go.Proofs.YtihbammfchnjgaaDoor.F

/- Tables: which are the same; copies; cursors. No condition. -/
set_option linter.unusedSimpArgs false
namespace Go.Proofs.YtihbammfchnjgaaDoor.D
open Go Go.Proofs.YtihbammfchnjgaaDoor.A
structure Cur where
  begun : Bool
  done : Bool
  after : Pfx
  deriving DecidableEq
def zerC : Cur := ⟨false, false, zerP⟩
def cav (c : Cur) : List AV := .bool c.begun :: .bool c.done :: pav c.after
theorem cav_zer : cav zerC = [.bool false, .bool false, .int .i64 0, .int .u8 0, .int .u8 0, .int .u8 0, .int .u8 0, .int .u8 0, .int .u8 0, .int .u8 0, .int .u8 0, .int .u8 0, .int .u8 0, .int .u8 0, .int .u8 0, .int .u8 0, .int .u8 0, .int .u8 0, .int .u8 0, .int .i64 0] := rfl
theorem cav_len (c : Cur) : (cav c).length = 20 := by simp [cav, pav_len]
theorem cav_data (c : Cur) : dataL (cav c) = true := by simp only [cav, data_cons, pav_data, AV.isData]; rfl
theorem cav_below (m : Nat) (c : Cur) : belowL m (cav c) = true := below_data m (cav_data c)
theorem cav_p (c : Cur) : piece (cav c) 0 20 = some (cav c) := pc_all _ _ (cav_len c)
theorem cav_0 (c : Cur) : piece (cav c) 0 1 = some [.bool c.begun] := piece_hd
theorem cav_1 (c : Cur) : piece (cav c) 1 1 = some [.bool c.done] := by
  unfold piece; rw [if_pos (by rw [cav_len]; omega)]; rfl
theorem cav_2 (c : Cur) : piece (cav c) 2 18 = some (pav c.after) := by
  unfold piece; rw [if_pos (by rw [cav_len]; omega)]
  simp only [cav, List.drop_succ_cons, List.drop_zero]
  rw [← pav_len c.after, List.take_length]
theorem cav_o (l : List AV) (c : Cur) (h : l.length = 20) : ovr l 0 (cav c) = some (cav c) := ovr_all _ _ (by rw [h, cav_len])
theorem cav_o0 (c : Cur) (b : Bool) : ovr (cav c) 0 [.bool b] = some (cav ⟨b, c.done, c.after⟩) := by
  unfold ovr; rw [if_pos (by rw [cav_len]; simp)]; rfl
theorem cav_o1 (c : Cur) (b : Bool) : ovr (cav c) 1 [.bool b] = some (cav ⟨c.begun, b, c.after⟩) := by
  unfold ovr; rw [if_pos (by rw [cav_len]; simp)]; rfl
theorem cav_o2 (c : Cur) (p : Pfx) : ovr (cav c) 2 (pav p) = some (cav ⟨c.begun, c.done, p⟩) := by
  unfold ovr; rw [if_pos (by rw [cav_len, pav_len]; omega)]
  simp only [cav, pav_len, List.take_succ_cons, List.take_zero, List.cons_append, List.nil_append, List.drop_succ_cons]
  rw [List.drop_eq_nil_of_le (by rw [pav_len]; omega)]; simp
theorem eqb2 (x y z w : Bool) : eqCells [0, 0] [.bool x, .bool z] [.bool y, .bool w] = some (decide (x = y) && decide (z = w)) := by
  cases x <;> cases y <;> cases z <;> cases w <;> rfl
theorem eq_cav (a b : Cur) : eqCells [0, 0, 1, 1, 1, 1, 1, 1, 1, 1, 1, 1, 1, 1, 1, 1, 1, 1, 1, 1] (cav a) (cav b) = some (decide (a = b)) := by
  have := eqCells_append [0, 0] [1, 1, 1, 1, 1, 1, 1, 1, 1, 1, 1, 1, 1, 1, 1, 1, 1, 1] [.bool a.begun, .bool a.done] (pav a.after) [.bool b.begun, .bool b.done] (pav b.after) rfl rfl
  rw [eqb2, eq_pav] at this
  refine this.trans (congrArg some ?_)
  obtain ⟨v, x, u⟩ := a; obtain ⟨w, y, z⟩ := b
  by_cases h1 : v = w <;> by_cases h2 : x = y <;> by_cases h3 : u = z <;> simp [h1, h2, h3]
theorem rrows_take (l : List Rw) (n : Nat) : (rrows l).take n = rrows (l.take n) := by simp [rrows, List.map_take]
theorem rrows_drop (l : List Rw) (n : Nat) : (rrows l).drop n = rrows (l.drop n) := by simp [rrows, List.map_drop]
theorem rrows_fit (l : List Rw) : headFits 19 (rrows l) = true := by
  cases l with
  | nil => rfl
  | cons a l => simp [headFits, rrows, rav_len]
theorem rrows_fits (l : List Rw) {i n : Nat} (h : i ≤ n) (hn : n ≤ l.length) : rowFits 19 i n (rrows l) = true := by
  unfold rowFits
  by_cases h2 : i = n
  · simp [h2]
  · rw [rrows_get l (show i < l.length by omega)]; simp [rav_len]
theorem rrows_nil : rrows [] = [] := rfl
theorem rrows_snoc (l : List Rw) (r : Rw) : rrows l ++ [rav r] = rrows (l ++ [r]) := by simp [rrows]
theorem rrows_append (l r : List Rw) : rrows l ++ rrows r = rrows (l ++ r) := by simp [rrows]
def DiffAt (a b : List Rw) (k : Nat) : Prop := ∀ i, k ≤ i → i < a.length → row a i = row b i
noncomputable instance {a b : List Rw} {k : Nat} : Decidable (DiffAt a b k) := Classical.propDecidable _
theorem DiffAt.next {a b : List Rw} {k : Nat} (h : row a k = row b k) : DiffAt a b k ↔ DiffAt a b (k + 1) := by
  constructor
  · exact fun H i h1 h2 => H i (by omega) h2
  · intro H i h1 h2
    rcases Nat.lt_or_eq_of_le h1 with h3 | rfl
    · exact H i h3 h2
    · exact h
theorem same_iff {a b : List Rw} (h : a.length = b.length) : a = b ↔ DiffAt a b 0 := by
  constructor
  · rintro rfl i _ _; rfl
  · intro H
    refine List.ext_getElem? fun i => ?_
    by_cases hi : i < a.length
    · rw [row_some a hi, row_some b (by omega), H i (Nat.zero_le _) hi]
    · rw [List.getElem?_eq_none (by omega), List.getElem?_eq_none (by omega)]
theorem DB2 : ((((type_of% (@rrows_len) ∧ type_of% (@cav_len)) ∧ (type_of% (@cav_data) ∧ type_of% (@cav_p))) ∧ ((type_of% (@cav_0) ∧ type_of% (@cav_1)) ∧ (type_of% (@cav_2) ∧ (type_of% (@cav_o) ∧ type_of% (@cav_o0))))) ∧ (((type_of% (@cav_o1) ∧ type_of% (@cav_o2)) ∧ (type_of% (@eq_cav) ∧ type_of% (@rrows_take))) ∧ ((type_of% (@rrows_drop) ∧ type_of% (@rrows_fit)) ∧ (type_of% (@rrows_snoc) ∧ (type_of% (@rrows_append) ∧ type_of% (@head_nil)))))) := ⟨⟨⟨⟨@rrows_len, @cav_len⟩, ⟨@cav_data, @cav_p⟩⟩, ⟨⟨@cav_0, @cav_1⟩, ⟨@cav_2, ⟨@cav_o, @cav_o0⟩⟩⟩⟩, ⟨⟨⟨@cav_o1, @cav_o2⟩, ⟨@eq_cav, @rrows_take⟩⟩, ⟨⟨@rrows_drop, @rrows_fit⟩, ⟨@rrows_snoc, ⟨@rrows_append, @head_nil⟩⟩⟩⟩⟩
end Go.Proofs.YtihbammfchnjgaaDoor.D
namespace Go.Proofs.YtihbammfchnjgaaDoor.F
open Go Go.Proofs.YtihbammfchnjgaaDoor.A Go.Proofs.YtihbammfchnjgaaDoor.D
theorem e17 (a b : List Rw) (ha : a.length ≤ 4611686018427387904) : LV E 17 [.ro (rrows a), .ro (rrows b)] = some (.bool (decide (a = b))) := by
  rw [LV_R (fn := f17) rfl rfl rfl]
  simp only [f17, RB, pickV, eqbV, notV, negV, convV, faddrV, fldV, idxV, eqaggV, iaddrV, isnilV, nilckV, cloV, extrV, slenV, minV, sidxV, abin, cmpInt, params, growLists, fillCells, newAt, rdPtr, wrPtr, AV.cells, asVal, lenOf, boundOf, rowsOf, argIds, freshIn, scalar1, setAll, AV.isData, AV.isYld, Nat.reduceAdd, Nat.reduceMul, Nat.reduceSub, Nat.reduceEqDiff, Nat.reduceLeDiff, Nat.reduceLT, Int.reduceNeg, ↓reduceIte, reduceCtorEq, Int.reduceEq, Int.reduceLT, Int.reduceLE, Int.reduceBEq, Int.reduceBNe, Int.reduceToNat, IntKind.bits, Int.reduceAdd, Int.reduceSub, Int.reduceMul, Int.reduceTDiv, Int.reduceTMod, rrows_len]
  by_cases hl : a.length = b.length
  · simp only [RB, pickV, eqbV, notV, negV, convV, faddrV, fldV, idxV, eqaggV, iaddrV, isnilV, nilckV, cloV, extrV, slenV, minV, sidxV, abin, cmpInt, params, growLists, fillCells, newAt, rdPtr, wrPtr, AV.cells, asVal, lenOf, boundOf, rowsOf, argIds, freshIn, scalar1, setAll, AV.isData, AV.isYld, Nat.reduceAdd, Nat.reduceMul, Nat.reduceSub, Nat.reduceEqDiff, Nat.reduceLeDiff, Nat.reduceLT, Int.reduceNeg, ↓reduceIte, reduceCtorEq, Int.reduceEq, Int.reduceLT, Int.reduceLE, Int.reduceBEq, Int.reduceBNe, Int.reduceToNat, IntKind.bits, Int.reduceAdd, Int.reduceSub, Int.reduceMul, Int.reduceTDiv, Int.reduceTMod, rrows_len, hl, bne_self_eq_false]
    rw [← hl]
    refine (W_rec (β := AV) (ι := Nat) (M := fun k => [(0, .ro (rrows a)), (1, .ro (rrows b)), (12, .int .i64 (a.length : Int)), (13, .int .i64 (k : Int))]) (H := fun _ => ⟨[], []⟩) (r := fun k => some (AV.bool (decide (DiffAt a b k)))) (μ := fun k => a.length - k) (fun i => ?_) (fun k ih => ?_) 0).trans ?_
    · simp [LPB]
    · by_cases hk : k < a.length
      · have f1 : (k : Int) < (a.length : Int) := by omega
        have f2 : (0 : Int) ≤ (k : Int) := by omega
        have f6 : IntKind.i64.wrap ((k : Int) + 1) = ((k + 1 : Nat) : Int) := by rw [IntWalk.i64_in _ (by omega)] <;> omega
        have g1 := rrows_get a hk
        have g2 := rrows_get b (show k < b.length by omega)
        by_cases h : row a k = row b k
        · simp only [RB, pickV, eqbV, notV, negV, convV, faddrV, fldV, idxV, eqaggV, iaddrV, isnilV, nilckV, cloV, extrV, slenV, minV, sidxV, abin, cmpInt, params, growLists, fillCells, newAt, rdPtr, wrPtr, AV.cells, asVal, lenOf, boundOf, rowsOf, argIds, freshIn, scalar1, setAll, AV.isData, AV.isYld, Nat.reduceAdd, Nat.reduceMul, Nat.reduceSub, Nat.reduceEqDiff, Nat.reduceLeDiff, Nat.reduceLT, Int.reduceNeg, ↓reduceIte, reduceCtorEq, Int.reduceEq, Int.reduceLT, Int.reduceLE, Int.reduceBEq, Int.reduceBNe, Int.reduceToNat, IntKind.bits, Int.reduceAdd, Int.reduceSub, Int.reduceMul, Int.reduceTDiv, Int.reduceTMod, DB, f1, f2, f6, g1, g2, h]
          rw [ih (k + 1) (by omega)]
          simp only [DiffAt.next h]
        · simp only [RB, pickV, eqbV, notV, negV, convV, faddrV, fldV, idxV, eqaggV, iaddrV, isnilV, nilckV, cloV, extrV, slenV, minV, sidxV, abin, cmpInt, params, growLists, fillCells, newAt, rdPtr, wrPtr, AV.cells, asVal, lenOf, boundOf, rowsOf, argIds, freshIn, scalar1, setAll, AV.isData, AV.isYld, Nat.reduceAdd, Nat.reduceMul, Nat.reduceSub, Nat.reduceEqDiff, Nat.reduceLeDiff, Nat.reduceLT, Int.reduceNeg, ↓reduceIte, reduceCtorEq, Int.reduceEq, Int.reduceLT, Int.reduceLE, Int.reduceBEq, Int.reduceBNe, Int.reduceToNat, IntKind.bits, Int.reduceAdd, Int.reduceSub, Int.reduceMul, Int.reduceTDiv, Int.reduceTMod, DB, f1, f2, f6, g1, g2, h]
          rw [decide_eq_false fun H => h (H k (Nat.le_refl _) hk)]
      · simp only [RB, pickV, eqbV, notV, negV, convV, faddrV, fldV, idxV, eqaggV, iaddrV, isnilV, nilckV, cloV, extrV, slenV, minV, sidxV, abin, cmpInt, params, growLists, fillCells, newAt, rdPtr, wrPtr, AV.cells, asVal, lenOf, boundOf, rowsOf, argIds, freshIn, scalar1, setAll, AV.isData, AV.isYld, Nat.reduceAdd, Nat.reduceMul, Nat.reduceSub, Nat.reduceEqDiff, Nat.reduceLeDiff, Nat.reduceLT, Int.reduceNeg, ↓reduceIte, reduceCtorEq, Int.reduceEq, Int.reduceLT, Int.reduceLE, Int.reduceBEq, Int.reduceBNe, Int.reduceToNat, IntKind.bits, Int.reduceAdd, Int.reduceSub, Int.reduceMul, Int.reduceTDiv, Int.reduceTMod, DB, show ¬ (k : Int) < (a.length : Int) by omega]
        rw [decide_eq_true (show DiffAt a b k from fun i h1 h2 => by omega)]
    · congr 2; exact decide_eq_decide.2 (same_iff hl).symm
  · simp only [RB, pickV, eqbV, notV, negV, convV, faddrV, fldV, idxV, eqaggV, iaddrV, isnilV, nilckV, cloV, extrV, slenV, minV, sidxV, abin, cmpInt, params, growLists, fillCells, newAt, rdPtr, wrPtr, AV.cells, asVal, lenOf, boundOf, rowsOf, argIds, freshIn, scalar1, setAll, AV.isData, AV.isYld, Nat.reduceAdd, Nat.reduceMul, Nat.reduceSub, Nat.reduceEqDiff, Nat.reduceLeDiff, Nat.reduceLT, Int.reduceNeg, ↓reduceIte, reduceCtorEq, Int.reduceEq, Int.reduceLT, Int.reduceLE, Int.reduceBEq, Int.reduceBNe, Int.reduceToNat, IntKind.bits, Int.reduceAdd, Int.reduceSub, Int.reduceMul, Int.reduceTDiv, Int.reduceTMod, rrows_len, show ((a.length : Int) != (b.length : Int)) = true by rw [bne_iff_ne]; omega]
    rw [decide_eq_false fun h => hl (by rw [h])]
theorem e24 (a b : List Rw) (ha : a.length ≤ 4611686018427387904) : LV E 24 [.ro (rrows a), .ro (rrows b)] = some (.bool (decide (a = b))) := by
  rw [← e17 a b ha, LV_R (fn := f24) rfl rfl rfl, LV_R (fn := f17) rfl rfl rfl]; rfl
theorem e19 (a b : List Rw) (ha : a.length ≤ 4611686018427387904) : LV E 19 [.agg [.ro (rrows a)], .agg [.ro (rrows b)]] = some (.bool (decide (a = b))) := by
  rw [LV_R (fn := f19) rfl rfl rfl]
  simp only [f19, RB, pickV, eqbV, notV, negV, convV, faddrV, fldV, idxV, eqaggV, iaddrV, isnilV, nilckV, cloV, extrV, slenV, minV, sidxV, abin, cmpInt, params, growLists, fillCells, newAt, rdPtr, wrPtr, AV.cells, asVal, lenOf, boundOf, rowsOf, argIds, freshIn, scalar1, setAll, AV.isData, AV.isYld, Nat.reduceAdd, Nat.reduceMul, Nat.reduceSub, Nat.reduceEqDiff, Nat.reduceLeDiff, Nat.reduceLT, Int.reduceNeg, ↓reduceIte, reduceCtorEq, Int.reduceEq, Int.reduceLT, Int.reduceLE, Int.reduceBEq, Int.reduceBNe, Int.reduceToNat, IntKind.bits, Int.reduceAdd, Int.reduceSub, Int.reduceMul, Int.reduceTDiv, Int.reduceTMod, rrows_len]
  by_cases hl : a.length = b.length
  · simp only [RB, pickV, eqbV, notV, negV, convV, faddrV, fldV, idxV, eqaggV, iaddrV, isnilV, nilckV, cloV, extrV, slenV, minV, sidxV, abin, cmpInt, params, growLists, fillCells, newAt, rdPtr, wrPtr, AV.cells, asVal, lenOf, boundOf, rowsOf, argIds, freshIn, scalar1, setAll, AV.isData, AV.isYld, Nat.reduceAdd, Nat.reduceMul, Nat.reduceSub, Nat.reduceEqDiff, Nat.reduceLeDiff, Nat.reduceLT, Int.reduceNeg, ↓reduceIte, reduceCtorEq, Int.reduceEq, Int.reduceLT, Int.reduceLE, Int.reduceBEq, Int.reduceBNe, Int.reduceToNat, IntKind.bits, Int.reduceAdd, Int.reduceSub, Int.reduceMul, Int.reduceTDiv, Int.reduceTMod, rrows_len, hl, bne_self_eq_false]
    refine (W_rec (β := AV) (ι := Nat) (M := fun k => [(2, .ptr 0 0 0 0), (3, .ptr 1 0 0 0), (5, .int .i64 (k : Int))]) (H := fun _ => ⟨[.box 0 24 [.ro (rrows a)], .box 0 24 [.ro (rrows b)]], []⟩) (r := fun k => some (AV.bool (decide (DiffAt a b k)))) (μ := fun k => a.length - k) (fun i => ?_) (fun k ih => ?_) 0).trans ?_
    · simp [LPB]
    · by_cases hk : k < a.length
      · have f1 : (k : Int) < (a.length : Int) := by omega
        have f2 : (0 : Int) ≤ (k : Int) := by omega
        have f6 : IntKind.i64.wrap ((k : Int) + 1) = ((k + 1 : Nat) : Int) := by rw [IntWalk.i64_in _ (by omega)] <;> omega
        have g1 := rrows_get a hk
        have g2 := rrows_get b (show k < b.length by omega)
        by_cases h : row a k = row b k
        · simp only [RB, pickV, eqbV, notV, negV, convV, faddrV, fldV, idxV, eqaggV, iaddrV, isnilV, nilckV, cloV, extrV, slenV, minV, sidxV, abin, cmpInt, params, growLists, fillCells, newAt, rdPtr, wrPtr, AV.cells, asVal, lenOf, boundOf, rowsOf, argIds, freshIn, scalar1, setAll, AV.isData, AV.isYld, Nat.reduceAdd, Nat.reduceMul, Nat.reduceSub, Nat.reduceEqDiff, Nat.reduceLeDiff, Nat.reduceLT, Int.reduceNeg, ↓reduceIte, reduceCtorEq, Int.reduceEq, Int.reduceLT, Int.reduceLE, Int.reduceBEq, Int.reduceBNe, Int.reduceToNat, IntKind.bits, Int.reduceAdd, Int.reduceSub, Int.reduceMul, Int.reduceTDiv, Int.reduceTMod, DB, rrows_len, f1, f2, f6, g1, g2, h]
          rw [ih (k + 1) (by omega)]
          simp only [DiffAt.next h]
        · simp only [RB, pickV, eqbV, notV, negV, convV, faddrV, fldV, idxV, eqaggV, iaddrV, isnilV, nilckV, cloV, extrV, slenV, minV, sidxV, abin, cmpInt, params, growLists, fillCells, newAt, rdPtr, wrPtr, AV.cells, asVal, lenOf, boundOf, rowsOf, argIds, freshIn, scalar1, setAll, AV.isData, AV.isYld, Nat.reduceAdd, Nat.reduceMul, Nat.reduceSub, Nat.reduceEqDiff, Nat.reduceLeDiff, Nat.reduceLT, Int.reduceNeg, ↓reduceIte, reduceCtorEq, Int.reduceEq, Int.reduceLT, Int.reduceLE, Int.reduceBEq, Int.reduceBNe, Int.reduceToNat, IntKind.bits, Int.reduceAdd, Int.reduceSub, Int.reduceMul, Int.reduceTDiv, Int.reduceTMod, DB, rrows_len, f1, f2, f6, g1, g2, h]
          rw [decide_eq_false fun H => h (H k (Nat.le_refl _) hk)]
      · simp only [RB, pickV, eqbV, notV, negV, convV, faddrV, fldV, idxV, eqaggV, iaddrV, isnilV, nilckV, cloV, extrV, slenV, minV, sidxV, abin, cmpInt, params, growLists, fillCells, newAt, rdPtr, wrPtr, AV.cells, asVal, lenOf, boundOf, rowsOf, argIds, freshIn, scalar1, setAll, AV.isData, AV.isYld, Nat.reduceAdd, Nat.reduceMul, Nat.reduceSub, Nat.reduceEqDiff, Nat.reduceLeDiff, Nat.reduceLT, Int.reduceNeg, ↓reduceIte, reduceCtorEq, Int.reduceEq, Int.reduceLT, Int.reduceLE, Int.reduceBEq, Int.reduceBNe, Int.reduceToNat, IntKind.bits, Int.reduceAdd, Int.reduceSub, Int.reduceMul, Int.reduceTDiv, Int.reduceTMod, DB, rrows_len, show ¬ (k : Int) < (a.length : Int) by omega]
        rw [decide_eq_true (show DiffAt a b k from fun i h1 h2 => by omega)]
    · congr 2; exact decide_eq_decide.2 (same_iff hl).symm
  · simp only [RB, pickV, eqbV, notV, negV, convV, faddrV, fldV, idxV, eqaggV, iaddrV, isnilV, nilckV, cloV, extrV, slenV, minV, sidxV, abin, cmpInt, params, growLists, fillCells, newAt, rdPtr, wrPtr, AV.cells, asVal, lenOf, boundOf, rowsOf, argIds, freshIn, scalar1, setAll, AV.isData, AV.isYld, Nat.reduceAdd, Nat.reduceMul, Nat.reduceSub, Nat.reduceEqDiff, Nat.reduceLeDiff, Nat.reduceLT, Int.reduceNeg, ↓reduceIte, reduceCtorEq, Int.reduceEq, Int.reduceLT, Int.reduceLE, Int.reduceBEq, Int.reduceBNe, Int.reduceToNat, IntKind.bits, Int.reduceAdd, Int.reduceSub, Int.reduceMul, Int.reduceTDiv, Int.reduceTMod, rrows_len, show ((a.length : Int) != (b.length : Int)) = true by rw [bne_iff_ne]; omega]
    rw [decide_eq_false fun h => hl (by rw [h])]
theorem e12 (l : List Rw) : LV E 12 [.agg [.ro (rrows l)]] = some (.agg [.ro (rrows (l.take 41))]) := by
  rw [LV_R (fn := f12) rfl rfl rfl]
  simp only [f12, RB, pickV, eqbV, notV, negV, convV, faddrV, fldV, idxV, eqaggV, iaddrV, isnilV, nilckV, cloV, extrV, slenV, minV, sidxV, abin, cmpInt, params, growLists, fillCells, newAt, rdPtr, wrPtr, AV.cells, asVal, lenOf, boundOf, rowsOf, argIds, freshIn, scalar1, setAll, AV.isData, AV.isYld, Nat.reduceAdd, Nat.reduceMul, Nat.reduceSub, Nat.reduceEqDiff, Nat.reduceLeDiff, Nat.reduceLT, Int.reduceNeg, ↓reduceIte, reduceCtorEq, Int.reduceEq, Int.reduceLT, Int.reduceLE, Int.reduceBEq, Int.reduceBNe, Int.reduceToNat, IntKind.bits, Int.reduceAdd, Int.reduceSub, Int.reduceMul, Int.reduceTDiv, Int.reduceTMod, rrows_len, aop_buildSl, fillRows, aminmax]
  by_cases h : 41 < l.length
  · have f1 : (41 : Int) < (l.length : Int) := by omega
    have f2 : ¬ l.length < 41 := by omega
    have f3 : (41 : Nat) ≤ l.length := by omega
    simp only [RB, pickV, eqbV, notV, negV, convV, faddrV, fldV, idxV, eqaggV, iaddrV, isnilV, nilckV, cloV, extrV, slenV, minV, sidxV, abin, cmpInt, params, growLists, fillCells, newAt, rdPtr, wrPtr, AV.cells, asVal, lenOf, boundOf, rowsOf, argIds, freshIn, scalar1, setAll, AV.isData, AV.isYld, Nat.reduceAdd, Nat.reduceMul, Nat.reduceSub, Nat.reduceEqDiff, Nat.reduceLeDiff, Nat.reduceLT, Int.reduceNeg, ↓reduceIte, reduceCtorEq, Int.reduceEq, Int.reduceLT, Int.reduceLE, Int.reduceBEq, Int.reduceBNe, Int.reduceToNat, IntKind.bits, Int.reduceAdd, Int.reduceSub, Int.reduceMul, Int.reduceTDiv, Int.reduceTMod, DB, DB2, f1, f3, aslice, rrows_fits l (Nat.zero_le 41) f3, aappend, List.length_take, Nat.min_eq_left f3, expRes_aggm, mutIds, isData_lis, expCell, Nat.le_refl, List.take_take, Nat.min_self]
  · have f1 : ¬ (41 : Int) < (l.length : Int) := by omega
    simp only [RB, pickV, eqbV, notV, negV, convV, faddrV, fldV, idxV, eqaggV, iaddrV, isnilV, nilckV, cloV, extrV, slenV, minV, sidxV, abin, cmpInt, params, growLists, fillCells, newAt, rdPtr, wrPtr, AV.cells, asVal, lenOf, boundOf, rowsOf, argIds, freshIn, scalar1, setAll, AV.isData, AV.isYld, Nat.reduceAdd, Nat.reduceMul, Nat.reduceSub, Nat.reduceEqDiff, Nat.reduceLeDiff, Nat.reduceLT, Int.reduceNeg, ↓reduceIte, reduceCtorEq, Int.reduceEq, Int.reduceLT, Int.reduceLE, Int.reduceBEq, Int.reduceBNe, Int.reduceToNat, IntKind.bits, Int.reduceAdd, Int.reduceSub, Int.reduceMul, Int.reduceTDiv, Int.reduceTMod, DB, DB2, f1, aslice, rrows_fits l (Nat.zero_le _) (Nat.le_refl _), List.take_of_length_le (show l.length ≤ 41 by omega), List.take_length, aappend, show l.length * 40 ≤ 140737488355328 by omega, show l.length ≤ 4611686018427387904 by omega, expRes_aggm, mutIds, isData_lis, expCell, Nat.le_refl]
theorem e14 (l : List Rw) (hl : l.length ≤ 4611686018427387904) (p : Pfx) : LV E 14 [.agg [.ro (rrows l)], .agg (pav p)] = some (.int .i64 (if TabOk l then if PfxOk p then 0 else 151 else 190)) := by
  rw [LV_R (fn := f14) rfl rfl rfl]
  simp only [f14, RB, pickV, eqbV, notV, negV, convV, faddrV, fldV, idxV, eqaggV, iaddrV, isnilV, nilckV, cloV, extrV, slenV, minV, sidxV, abin, cmpInt, params, growLists, fillCells, newAt, rdPtr, wrPtr, AV.cells, asVal, lenOf, boundOf, rowsOf, argIds, freshIn, scalar1, setAll, AV.isData, AV.isYld, Nat.reduceAdd, Nat.reduceMul, Nat.reduceSub, Nat.reduceEqDiff, Nat.reduceLeDiff, Nat.reduceLT, Int.reduceNeg, ↓reduceIte, reduceCtorEq, Int.reduceEq, Int.reduceLT, Int.reduceLE, Int.reduceBEq, Int.reduceBNe, Int.reduceToNat, IntKind.bits, Int.reduceAdd, Int.reduceSub, Int.reduceMul, Int.reduceTDiv, Int.reduceTMod, DB, e32 l hl]
  by_cases h1 : TabOk l
  · by_cases h2 : PfxOk p
    · simp only [RB, pickV, eqbV, notV, negV, convV, faddrV, fldV, idxV, eqaggV, iaddrV, isnilV, nilckV, cloV, extrV, slenV, minV, sidxV, abin, cmpInt, params, growLists, fillCells, newAt, rdPtr, wrPtr, AV.cells, asVal, lenOf, boundOf, rowsOf, argIds, freshIn, scalar1, setAll, AV.isData, AV.isYld, Nat.reduceAdd, Nat.reduceMul, Nat.reduceSub, Nat.reduceEqDiff, Nat.reduceLeDiff, Nat.reduceLT, Int.reduceNeg, ↓reduceIte, reduceCtorEq, Int.reduceEq, Int.reduceLT, Int.reduceLE, Int.reduceBEq, Int.reduceBNe, Int.reduceToNat, IntKind.bits, Int.reduceAdd, Int.reduceSub, Int.reduceMul, Int.reduceTDiv, Int.reduceTMod, DB, h1, h2, e48]
    · simp only [RB, pickV, eqbV, notV, negV, convV, faddrV, fldV, idxV, eqaggV, iaddrV, isnilV, nilckV, cloV, extrV, slenV, minV, sidxV, abin, cmpInt, params, growLists, fillCells, newAt, rdPtr, wrPtr, AV.cells, asVal, lenOf, boundOf, rowsOf, argIds, freshIn, scalar1, setAll, AV.isData, AV.isYld, Nat.reduceAdd, Nat.reduceMul, Nat.reduceSub, Nat.reduceEqDiff, Nat.reduceLeDiff, Nat.reduceLT, Int.reduceNeg, ↓reduceIte, reduceCtorEq, Int.reduceEq, Int.reduceLT, Int.reduceLE, Int.reduceBEq, Int.reduceBNe, Int.reduceToNat, IntKind.bits, Int.reduceAdd, Int.reduceSub, Int.reduceMul, Int.reduceTDiv, Int.reduceTMod, DB, h1, h2, e48]
  · simp only [RB, pickV, eqbV, notV, negV, convV, faddrV, fldV, idxV, eqaggV, iaddrV, isnilV, nilckV, cloV, extrV, slenV, minV, sidxV, abin, cmpInt, params, growLists, fillCells, newAt, rdPtr, wrPtr, AV.cells, asVal, lenOf, boundOf, rowsOf, argIds, freshIn, scalar1, setAll, AV.isData, AV.isYld, Nat.reduceAdd, Nat.reduceMul, Nat.reduceSub, Nat.reduceEqDiff, Nat.reduceLeDiff, Nat.reduceLT, Int.reduceNeg, ↓reduceIte, reduceCtorEq, Int.reduceEq, Int.reduceLT, Int.reduceLE, Int.reduceBEq, Int.reduceBNe, Int.reduceToNat, IntKind.bits, Int.reduceAdd, Int.reduceSub, Int.reduceMul, Int.reduceTDiv, Int.reduceTMod, DB, h1, e48]
theorem e44 (l : List Rw) (hl : l.length ≤ 4611686018427387904) (p : Pfx) : LV E 44 [.agg [.ro (rrows l)], .agg (pav p)] = some (.int .i64 (if TabOk l then if PfxOk p then 0 else 151 else 190)) := by
  rw [LV_R (fn := f44) rfl rfl rfl]
  simp only [f44, RB, pickV, eqbV, notV, negV, convV, faddrV, fldV, idxV, eqaggV, iaddrV, isnilV, nilckV, cloV, extrV, slenV, minV, sidxV, abin, cmpInt, params, growLists, fillCells, newAt, rdPtr, wrPtr, AV.cells, asVal, lenOf, boundOf, rowsOf, argIds, freshIn, scalar1, setAll, AV.isData, AV.isYld, Nat.reduceAdd, Nat.reduceMul, Nat.reduceSub, Nat.reduceEqDiff, Nat.reduceLeDiff, Nat.reduceLT, Int.reduceNeg, ↓reduceIte, reduceCtorEq, Int.reduceEq, Int.reduceLT, Int.reduceLE, Int.reduceBEq, Int.reduceBNe, Int.reduceToNat, IntKind.bits, Int.reduceAdd, Int.reduceSub, Int.reduceMul, Int.reduceTDiv, Int.reduceTMod, DB, e60 l hl]
  by_cases h1 : TabOk l
  · simp only [RB, pickV, eqbV, notV, negV, convV, faddrV, fldV, idxV, eqaggV, iaddrV, isnilV, nilckV, cloV, extrV, slenV, minV, sidxV, abin, cmpInt, params, growLists, fillCells, newAt, rdPtr, wrPtr, AV.cells, asVal, lenOf, boundOf, rowsOf, argIds, freshIn, scalar1, setAll, AV.isData, AV.isYld, Nat.reduceAdd, Nat.reduceMul, Nat.reduceSub, Nat.reduceEqDiff, Nat.reduceLeDiff, Nat.reduceLT, Int.reduceNeg, ↓reduceIte, reduceCtorEq, Int.reduceEq, Int.reduceLT, Int.reduceLE, Int.reduceBEq, Int.reduceBNe, Int.reduceToNat, IntKind.bits, Int.reduceAdd, Int.reduceSub, Int.reduceMul, Int.reduceTDiv, Int.reduceTMod, DB, h1, e67, bne_self_eq_false]
  · simp only [RB, pickV, eqbV, notV, negV, convV, faddrV, fldV, idxV, eqaggV, iaddrV, isnilV, nilckV, cloV, extrV, slenV, minV, sidxV, abin, cmpInt, params, growLists, fillCells, newAt, rdPtr, wrPtr, AV.cells, asVal, lenOf, boundOf, rowsOf, argIds, freshIn, scalar1, setAll, AV.isData, AV.isYld, Nat.reduceAdd, Nat.reduceMul, Nat.reduceSub, Nat.reduceEqDiff, Nat.reduceLeDiff, Nat.reduceLT, Int.reduceNeg, ↓reduceIte, reduceCtorEq, Int.reduceEq, Int.reduceLT, Int.reduceLE, Int.reduceBEq, Int.reduceBNe, Int.reduceToNat, IntKind.bits, Int.reduceAdd, Int.reduceSub, Int.reduceMul, Int.reduceTDiv, Int.reduceTMod, DB, h1]
def GoOn (c : Cur) : Prop := c.done = false ∧ if c.begun then PfxOk c.after else c.after = zerP
instance {c : Cur} : Decidable (GoOn c) := by unfold GoOn; infer_instance
theorem e15 (c : Cur) : LV E 15 [.agg (cav c)] = some (.bool (decide (GoOn c))) := by
  rw [LV_R (fn := f15) rfl rfl rfl]
  simp only [f15, ← pav_zer, RB, pickV, eqbV, notV, negV, convV, faddrV, fldV, idxV, eqaggV, iaddrV, isnilV, nilckV, cloV, extrV, slenV, minV, sidxV, abin, cmpInt, params, growLists, fillCells, newAt, rdPtr, wrPtr, AV.cells, asVal, lenOf, boundOf, rowsOf, argIds, freshIn, scalar1, setAll, AV.isData, AV.isYld, Nat.reduceAdd, Nat.reduceMul, Nat.reduceSub, Nat.reduceEqDiff, Nat.reduceLeDiff, Nat.reduceLT, Int.reduceNeg, ↓reduceIte, reduceCtorEq, Int.reduceEq, Int.reduceLT, Int.reduceLE, Int.reduceBEq, Int.reduceBNe, Int.reduceToNat, IntKind.bits, Int.reduceAdd, Int.reduceSub, Int.reduceMul, Int.reduceTDiv, Int.reduceTMod, DB, DB2]
  obtain ⟨b, d, p⟩ := c
  cases d
  · cases b
    · simp only [RB, pickV, eqbV, notV, negV, convV, faddrV, fldV, idxV, eqaggV, iaddrV, isnilV, nilckV, cloV, extrV, slenV, minV, sidxV, abin, cmpInt, params, growLists, fillCells, newAt, rdPtr, wrPtr, AV.cells, asVal, lenOf, boundOf, rowsOf, argIds, freshIn, scalar1, setAll, AV.isData, AV.isYld, Nat.reduceAdd, Nat.reduceMul, Nat.reduceSub, Nat.reduceEqDiff, Nat.reduceLeDiff, Nat.reduceLT, Int.reduceNeg, ↓reduceIte, reduceCtorEq, Int.reduceEq, Int.reduceLT, Int.reduceLE, Int.reduceBEq, Int.reduceBNe, Int.reduceToNat, IntKind.bits, Int.reduceAdd, Int.reduceSub, Int.reduceMul, Int.reduceTDiv, Int.reduceTMod, DB, DB2, eq_pav]
      simp [GoOn]
    · simp only [RB, pickV, eqbV, notV, negV, convV, faddrV, fldV, idxV, eqaggV, iaddrV, isnilV, nilckV, cloV, extrV, slenV, minV, sidxV, abin, cmpInt, params, growLists, fillCells, newAt, rdPtr, wrPtr, AV.cells, asVal, lenOf, boundOf, rowsOf, argIds, freshIn, scalar1, setAll, AV.isData, AV.isYld, Nat.reduceAdd, Nat.reduceMul, Nat.reduceSub, Nat.reduceEqDiff, Nat.reduceLeDiff, Nat.reduceLT, Int.reduceNeg, ↓reduceIte, reduceCtorEq, Int.reduceEq, Int.reduceLT, Int.reduceLE, Int.reduceBEq, Int.reduceBNe, Int.reduceToNat, IntKind.bits, Int.reduceAdd, Int.reduceSub, Int.reduceMul, Int.reduceTDiv, Int.reduceTMod, DB, DB2, e48]
      simp [GoOn]
  · simp only [RB, pickV, eqbV, notV, negV, convV, faddrV, fldV, idxV, eqaggV, iaddrV, isnilV, nilckV, cloV, extrV, slenV, minV, sidxV, abin, cmpInt, params, growLists, fillCells, newAt, rdPtr, wrPtr, AV.cells, asVal, lenOf, boundOf, rowsOf, argIds, freshIn, scalar1, setAll, AV.isData, AV.isYld, Nat.reduceAdd, Nat.reduceMul, Nat.reduceSub, Nat.reduceEqDiff, Nat.reduceLeDiff, Nat.reduceLT, Int.reduceNeg, ↓reduceIte, reduceCtorEq, Int.reduceEq, Int.reduceLT, Int.reduceLE, Int.reduceBEq, Int.reduceBNe, Int.reduceToNat, IntKind.bits, Int.reduceAdd, Int.reduceSub, Int.reduceMul, Int.reduceTDiv, Int.reduceTMod, DB, DB2]
    simp [GoOn]
theorem e45 (c : Cur) : LV E 45 [.agg (cav c)] = some (.bool (decide (GoOn c))) := by
  rw [LV_R (fn := f45) rfl rfl rfl]
  simp only [f45, ← cav_zer, RB, pickV, eqbV, notV, negV, convV, faddrV, fldV, idxV, eqaggV, iaddrV, isnilV, nilckV, cloV, extrV, slenV, minV, sidxV, abin, cmpInt, params, growLists, fillCells, newAt, rdPtr, wrPtr, AV.cells, asVal, lenOf, boundOf, rowsOf, argIds, freshIn, scalar1, setAll, AV.isData, AV.isYld, Nat.reduceAdd, Nat.reduceMul, Nat.reduceSub, Nat.reduceEqDiff, Nat.reduceLeDiff, Nat.reduceLT, Int.reduceNeg, ↓reduceIte, reduceCtorEq, Int.reduceEq, Int.reduceLT, Int.reduceLE, Int.reduceBEq, Int.reduceBNe, Int.reduceToNat, IntKind.bits, Int.reduceAdd, Int.reduceSub, Int.reduceMul, Int.reduceTDiv, Int.reduceTMod, DB, DB2]
  obtain ⟨b, d, p⟩ := c
  cases b
  · simp only [RB, pickV, eqbV, notV, negV, convV, faddrV, fldV, idxV, eqaggV, iaddrV, isnilV, nilckV, cloV, extrV, slenV, minV, sidxV, abin, cmpInt, params, growLists, fillCells, newAt, rdPtr, wrPtr, AV.cells, asVal, lenOf, boundOf, rowsOf, argIds, freshIn, scalar1, setAll, AV.isData, AV.isYld, Nat.reduceAdd, Nat.reduceMul, Nat.reduceSub, Nat.reduceEqDiff, Nat.reduceLeDiff, Nat.reduceLT, Int.reduceNeg, ↓reduceIte, reduceCtorEq, Int.reduceEq, Int.reduceLT, Int.reduceLE, Int.reduceBEq, Int.reduceBNe, Int.reduceToNat, IntKind.bits, Int.reduceAdd, Int.reduceSub, Int.reduceMul, Int.reduceTDiv, Int.reduceTMod, DB, DB2, eq_cav]
    congr 2
    refine decide_eq_decide.2 ?_
    simp [GoOn, zerC]
  · cases d
    · by_cases h : PfxOk p
      · simp only [RB, pickV, eqbV, notV, negV, convV, faddrV, fldV, idxV, eqaggV, iaddrV, isnilV, nilckV, cloV, extrV, slenV, minV, sidxV, abin, cmpInt, params, growLists, fillCells, newAt, rdPtr, wrPtr, AV.cells, asVal, lenOf, boundOf, rowsOf, argIds, freshIn, scalar1, setAll, AV.isData, AV.isYld, Nat.reduceAdd, Nat.reduceMul, Nat.reduceSub, Nat.reduceEqDiff, Nat.reduceLeDiff, Nat.reduceLT, Int.reduceNeg, ↓reduceIte, reduceCtorEq, Int.reduceEq, Int.reduceLT, Int.reduceLE, Int.reduceBEq, Int.reduceBNe, Int.reduceToNat, IntKind.bits, Int.reduceAdd, Int.reduceSub, Int.reduceMul, Int.reduceTDiv, Int.reduceTMod, DB, DB2, e67, h]
        simp [GoOn, h]
      · simp only [RB, pickV, eqbV, notV, negV, convV, faddrV, fldV, idxV, eqaggV, iaddrV, isnilV, nilckV, cloV, extrV, slenV, minV, sidxV, abin, cmpInt, params, growLists, fillCells, newAt, rdPtr, wrPtr, AV.cells, asVal, lenOf, boundOf, rowsOf, argIds, freshIn, scalar1, setAll, AV.isData, AV.isYld, Nat.reduceAdd, Nat.reduceMul, Nat.reduceSub, Nat.reduceEqDiff, Nat.reduceLeDiff, Nat.reduceLT, Int.reduceNeg, ↓reduceIte, reduceCtorEq, Int.reduceEq, Int.reduceLT, Int.reduceLE, Int.reduceBEq, Int.reduceBNe, Int.reduceToNat, IntKind.bits, Int.reduceAdd, Int.reduceSub, Int.reduceMul, Int.reduceTDiv, Int.reduceTMod, DB, DB2, e67, h]
        simp [GoOn, h]
    · simp only [RB, pickV, eqbV, notV, negV, convV, faddrV, fldV, idxV, eqaggV, iaddrV, isnilV, nilckV, cloV, extrV, slenV, minV, sidxV, abin, cmpInt, params, growLists, fillCells, newAt, rdPtr, wrPtr, AV.cells, asVal, lenOf, boundOf, rowsOf, argIds, freshIn, scalar1, setAll, AV.isData, AV.isYld, Nat.reduceAdd, Nat.reduceMul, Nat.reduceSub, Nat.reduceEqDiff, Nat.reduceLeDiff, Nat.reduceLT, Int.reduceNeg, ↓reduceIte, reduceCtorEq, Int.reduceEq, Int.reduceLT, Int.reduceLE, Int.reduceBEq, Int.reduceBNe, Int.reduceToNat, IntKind.bits, Int.reduceAdd, Int.reduceSub, Int.reduceMul, Int.reduceTDiv, Int.reduceTMod, DB, DB2]
      simp [GoOn]
end Go.Proofs.YtihbammfchnjgaaDoor.F

/- Rows of which something holds, handed on one by one. No condition. -/
set_option linter.unusedSimpArgs false
namespace Go.Proofs.YtihbammfchnjgaaDoor.F
open Go Go.Proofs.YtihbammfchnjgaaDoor.A Go.Proofs.YtihbammfchnjgaaDoor.D
theorem r46 {ys : List Hd} {bs : List Blk} {pend : List (Option AExit)} (l : List Rw) (g : FuncId) (caps : List AV) : LR E ys 46 [.agg [.ro (rrows l)], .clo g caps] ⟨bs, pend⟩ = some (.clo 76 [.ptr bs.length 0 0 0, .ptr (bs.length + 1) 0 0 0], ⟨bs ++ [.box 0 24 [.ro (rrows l)], .box 0 88 [.clo g caps]], pend⟩) := by
  rw [LR_R (fn := f46) rfl rfl rfl]
  simp only [f46, RB, pickV, eqbV, notV, negV, convV, faddrV, fldV, idxV, eqaggV, iaddrV, isnilV, nilckV, cloV, extrV, slenV, minV, sidxV, abin, cmpInt, params, growLists, fillCells, newAt, rdPtr, wrPtr, AV.cells, asVal, lenOf, boundOf, rowsOf, argIds, freshIn, scalar1, setAll, AV.isData, AV.isYld, Nat.reduceAdd, Nat.reduceMul, Nat.reduceSub, Nat.reduceEqDiff, Nat.reduceLeDiff, Nat.reduceLT, Int.reduceNeg, ↓reduceIte, reduceCtorEq, Int.reduceEq, Int.reduceLT, Int.reduceLE, Int.reduceBEq, Int.reduceBNe, Int.reduceToNat, IntKind.bits, Int.reduceAdd, Int.reduceSub, Int.reduceMul, Int.reduceTDiv, Int.reduceTMod, R7B]
theorem r55 {ys : List Hd} {bs : List Blk} {pend : List (Option AExit)} {a lk e : Nat} (p q : Pfx) (h : bs[a]? = some (.box lk e (pav p))) : LR E ys 55 [.agg (pav q), .ptr a 0 0 0] ⟨bs, pend⟩ = some (.bool (decide (Holds p q)), ⟨bs ++ [.box 0 32 (pav q)], pend⟩) := by
  have g : ∀ r, (bs ++ r)[a]? = some (.box lk e (pav p)) := fun r => get_lt h
  rw [LR_R (fn := f55) rfl rfl rfl]
  simp only [f55, RB, pickV, eqbV, notV, negV, convV, faddrV, fldV, idxV, eqaggV, iaddrV, isnilV, nilckV, cloV, extrV, slenV, minV, sidxV, abin, cmpInt, params, growLists, fillCells, newAt, rdPtr, wrPtr, AV.cells, asVal, lenOf, boundOf, rowsOf, argIds, freshIn, scalar1, setAll, AV.isData, AV.isYld, Nat.reduceAdd, Nat.reduceMul, Nat.reduceSub, Nat.reduceEqDiff, Nat.reduceLeDiff, Nat.reduceLT, Int.reduceNeg, ↓reduceIte, reduceCtorEq, Int.reduceEq, Int.reduceLT, Int.reduceLE, Int.reduceBEq, Int.reduceBNe, Int.reduceToNat, IntKind.bits, Int.reduceAdd, Int.reduceSub, Int.reduceMul, Int.reduceTDiv, Int.reduceTMod, DB, DB2, R7B, g, e37]
structure IterS {σ : Type} (ys : List Hd) (d : Nat) (S : σ → Hp) (m a b : Nat) (l : List Rw) (P : Rw → Bool) (step : σ → Rw → σ × Bool) (ok : Nat → σ → Prop) where
  h : Hd
  hy : ys[d]? = some h
  g : FuncId
  caps : List AV
  len : ∀ s, (S s).bs.length = m
  low : ∀ s, belowAll m (S s).bs = true
  la : a < m
  lb : b < m
  ba : ∀ s, ∃ lk e, (S s).bs[a]? = some (.box lk e [.ro (rrows l)])
  bb : ∀ s, ∃ lk e, (S s).bs[b]? = some (.box lk e [.clo g caps])
  pr : ∀ s r x, ∃ ext, LR E ys g (.agg (pav r.p) :: caps) ⟨(S s).bs ++ [x], (S s).pend⟩ = some (.bool (P r), ⟨((S s).bs ++ [x]) ++ ext, (S s).pend⟩)
  skip : ∀ k s, ok k s → P (row l k) = false → ok (k + 1) s
  hd : ∀ k s, k < l.length → ok k s → P (row l k) = true → ((step s (row l k)).2 = true → ok (k + 1) (step s (row l k)).1) ∧ ∃ x', h [.agg (rav (row l k))] ⟨(S s).bs ++ [.box 0 59 (rav (row l k))], (S s).pend⟩ = some ((step s (row l k)).2, ⟨(S (step s (row l k)).1).bs ++ [x'], (S (step s (row l k)).1).pend⟩)
theorem r76 {σ : Type} {ys : List Hd} {d : Nat} {S : σ → Hp} {m a b : Nat} {l : List Rw} {P : Rw → Bool} {step : σ → Rw → σ × Bool} {ok : Nat → σ → Prop} (I : IterS ys d S m a b l P step ok) (hl : l.length ≤ 4611686018427387904) (s : σ) (h0 : ok 0 s) :
    ∃ ext, LR E ys 76 [.yld d, .ptr a 0 0 0, .ptr b 0 0 0] (S s) = some (.tup [], ⟨(S (foldU step (l.filter P) s)).bs ++ ext, (S (foldU step (l.filter P) s)).pend⟩) := by
  obtain ⟨h, hy, g, caps, len, low, la, lb, ba, bb, pr, skip, hd⟩ := I
  rw [LR_R (fn := f76) rfl rfl rfl]
  obtain ⟨lk, e, ba0⟩ := ba s
  simp only [f76, RB, pickV, eqbV, notV, negV, convV, faddrV, fldV, idxV, eqaggV, iaddrV, isnilV, nilckV, cloV, extrV, slenV, minV, sidxV, abin, cmpInt, params, growLists, fillCells, newAt, rdPtr, wrPtr, AV.cells, asVal, lenOf, boundOf, rowsOf, argIds, freshIn, scalar1, setAll, AV.isData, AV.isYld, Nat.reduceAdd, Nat.reduceMul, Nat.reduceSub, Nat.reduceEqDiff, Nat.reduceLeDiff, Nat.reduceLT, Int.reduceNeg, ↓reduceIte, reduceCtorEq, Int.reduceEq, Int.reduceLT, Int.reduceLE, Int.reduceBEq, Int.reduceBNe, Int.reduceToNat, IntKind.bits, Int.reduceAdd, Int.reduceSub, Int.reduceMul, Int.reduceTDiv, Int.reduceTMod, DB, DB2, R7B, ba0]
  rw [len s]
  refine W_recP (ι := Nat × σ) (Q := fun i x => ok i.1 i.2 → ∃ ext, x = some (AV.tup [], (⟨(S (foldU step ((l.drop i.1).filter P) i.2)).bs ++ ext, (S (foldU step ((l.drop i.1).filter P) i.2)).pend⟩ : Hp))) (M := fun i => [(0, .yld d), (2, .ptr b 0 0 0), (7, .ro (rrows l)), (8, .int .i64 (l.length : Int)), (9, .int .i64 (i.1 : Int))]) (H := fun i => S i.2) (μ := fun i => l.length - i.1) (fun i => ?_) (fun i ih => ?_) (0, s) h0
  · exact ⟨by simp only [List.map_cons, List.map_nil, LPB, lb, decide_true, Bool.and_self], low _⟩
  · obtain ⟨k, s⟩ := i
    simp only at ih ⊢
    intro hok
    by_cases hk : k < l.length
    · have f1 : (k : Int) < (l.length : Int) := by omega
      have f2 : (0 : Int) ≤ (k : Int) := by omega
      have f6 : IntKind.i64.wrap ((k : Int) + 1) = ((k + 1 : Nat) : Int) := by rw [IntWalk.i64_in _ (by omega)] <;> omega
      have g1 := rrows_get l hk
      have edrop : l.drop k = row l k :: l.drop (k + 1) := by
        have h1 := row_some l hk
        rw [List.getElem?_eq_getElem hk] at h1
        rw [List.drop_eq_getElem_cons hk, Option.some.inj h1]
      obtain ⟨lk', e', bb0⟩ := bb s
      have bb1 : ∀ r, ((S s).bs ++ r)[b]? = some (.box lk' e' [.clo g caps]) := fun r => get_lt bb0
      obtain ⟨ext, hpr⟩ := pr s (row l k) (.box 0 59 (rav (row l k)))
      have hlen : ∀ x : Blk, ((S s).bs ++ [x]).length = m + 1 := fun x => by simp [len]
      have hlow : belowAll (m + 1) ((S s).bs ++ [.box 0 59 (rav (row l k))]) = true := by
        rw [ball_app, belowAll_mono (by omega) (low s)]; simp only [LPB, Bool.and_self]
      have hsh : shrink false (m + 1) (.bool (P (row l k))) ⟨((S s).bs ++ [.box 0 59 (rav (row l k))]) ++ ext, (S s).pend⟩ = some ⟨(S s).bs ++ [.box 0 59 (rav (row l k))], (S s).pend⟩ := shrink_app (hlen _) rfl hlow
      cases hP : P (row l k) with
      | true =>
        obtain ⟨hok', x', hh⟩ := hd k s hk hok hP
        cases hst : (step s (row l k)).2 with
        | true =>
          rw [hP] at hpr hsh
          rw [hst] at hh
          have ih := ih (k + 1, (step s (row l k)).1) (by simp only; omega) (hok' hst)
          simp only [RB, pickV, eqbV, notV, negV, convV, faddrV, fldV, idxV, eqaggV, iaddrV, isnilV, nilckV, cloV, extrV, slenV, minV, sidxV, abin, cmpInt, params, growLists, fillCells, newAt, rdPtr, wrPtr, AV.cells, asVal, lenOf, boundOf, rowsOf, argIds, freshIn, scalar1, setAll, AV.isData, AV.isYld, Nat.reduceAdd, Nat.reduceMul, Nat.reduceSub, Nat.reduceEqDiff, Nat.reduceLeDiff, Nat.reduceLT, Int.reduceNeg, ↓reduceIte, reduceCtorEq, Int.reduceEq, Int.reduceLT, Int.reduceLE, Int.reduceBEq, Int.reduceBNe, Int.reduceToNat, IntKind.bits, Int.reduceAdd, Int.reduceSub, Int.reduceMul, Int.reduceTDiv, Int.reduceTMod, DB, DB2, R7B, f1, f2, f6, g1, len s, bb1, hpr, hsh, hlen, CR_yld' hy, hh, take_at (len _), edrop, List.filter_cons, hP, foldU, hst]
          exact ih
        | false =>
          rw [hP] at hpr hsh
          rw [hst] at hh
          simp only [RB, pickV, eqbV, notV, negV, convV, faddrV, fldV, idxV, eqaggV, iaddrV, isnilV, nilckV, cloV, extrV, slenV, minV, sidxV, abin, cmpInt, params, growLists, fillCells, newAt, rdPtr, wrPtr, AV.cells, asVal, lenOf, boundOf, rowsOf, argIds, freshIn, scalar1, setAll, AV.isData, AV.isYld, Nat.reduceAdd, Nat.reduceMul, Nat.reduceSub, Nat.reduceEqDiff, Nat.reduceLeDiff, Nat.reduceLT, Int.reduceNeg, ↓reduceIte, reduceCtorEq, Int.reduceEq, Int.reduceLT, Int.reduceLE, Int.reduceBEq, Int.reduceBNe, Int.reduceToNat, IntKind.bits, Int.reduceAdd, Int.reduceSub, Int.reduceMul, Int.reduceTDiv, Int.reduceTMod, DB, DB2, R7B, f1, f2, f6, g1, len s, bb1, hpr, hsh, hlen, CR_yld' hy, hh, take_at (len _), edrop, List.filter_cons, hP, foldU, hst]
          exact ⟨_, rfl⟩
      | false =>
        rw [hP] at hpr hsh
        have ih := ih (k + 1, s) (by simp only; omega) (skip k s hok hP)
        simp only [RB, pickV, eqbV, notV, negV, convV, faddrV, fldV, idxV, eqaggV, iaddrV, isnilV, nilckV, cloV, extrV, slenV, minV, sidxV, abin, cmpInt, params, growLists, fillCells, newAt, rdPtr, wrPtr, AV.cells, asVal, lenOf, boundOf, rowsOf, argIds, freshIn, scalar1, setAll, AV.isData, AV.isYld, Nat.reduceAdd, Nat.reduceMul, Nat.reduceSub, Nat.reduceEqDiff, Nat.reduceLeDiff, Nat.reduceLT, Int.reduceNeg, ↓reduceIte, reduceCtorEq, Int.reduceEq, Int.reduceLT, Int.reduceLE, Int.reduceBEq, Int.reduceBNe, Int.reduceToNat, IntKind.bits, Int.reduceAdd, Int.reduceSub, Int.reduceMul, Int.reduceTDiv, Int.reduceTMod, DB, DB2, R7B, f1, f2, f6, g1, len s, bb1, hpr, hsh, hlen, take_at (len _), edrop, List.filter_cons, hP]
        exact ih
    · simp only [RB, pickV, eqbV, notV, negV, convV, faddrV, fldV, idxV, eqaggV, iaddrV, isnilV, nilckV, cloV, extrV, slenV, minV, sidxV, abin, cmpInt, params, growLists, fillCells, newAt, rdPtr, wrPtr, AV.cells, asVal, lenOf, boundOf, rowsOf, argIds, freshIn, scalar1, setAll, AV.isData, AV.isYld, Nat.reduceAdd, Nat.reduceMul, Nat.reduceSub, Nat.reduceEqDiff, Nat.reduceLeDiff, Nat.reduceLT, Int.reduceNeg, ↓reduceIte, reduceCtorEq, Int.reduceEq, Int.reduceLT, Int.reduceLE, Int.reduceBEq, Int.reduceBNe, Int.reduceToNat, IntKind.bits, Int.reduceAdd, Int.reduceSub, Int.reduceMul, Int.reduceTDiv, Int.reduceTMod, DB, DB2, R7B, show ¬ (k : Int) < (l.length : Int) by omega, List.drop_eq_nil_of_le (show l.length ≤ k by omega), List.filter_nil, foldU]
      exact ⟨[], by rw [List.append_nil]⟩
theorem r76_bind {σ β : Type} {ys : List Hd} {d : Nat} {S : σ → Hp} {m a b : Nat} {l : List Rw} {P : Rw → Bool} {step : σ → Rw → σ × Bool} {ok : Nat → σ → Prop} {F : AV × Hp → Option β} {x : Option β} (s : σ) (h0 : ok 0 s) (hl : l.length ≤ 4611686018427387904) (I : IterS ys d S m a b l P step ok)
    (hF : ∀ ext, F (.tup [], ⟨(S (foldU step (l.filter P) s)).bs ++ ext, (S (foldU step (l.filter P) s)).pend⟩) = x) : (LR E ys 76 [.yld d, .ptr a 0 0 0, .ptr b 0 0 0] (S s)).bind F = x := by
  obtain ⟨ext, h⟩ := r76 I hl s h0
  rw [h]
  exact hF ext
end Go.Proofs.YtihbammfchnjgaaDoor.F

/- Rows of which something holds, collected. No condition. -/
set_option linter.unusedSimpArgs false
namespace Go.Proofs.YtihbammfchnjgaaDoor.F
open Go Go.Proofs.YtihbammfchnjgaaDoor.A Go.Proofs.YtihbammfchnjgaaDoor.D
/-- What tells whether something holds of a row, whatever lies behind. -/
def PredOk (g : FuncId) (caps : List AV) (P : Rw → Bool) (bs : List Blk) : Prop := ∀ ys pend ext r, ∃ ext', LR E ys g (.agg (pav r.p) :: caps) ⟨bs ++ ext, pend⟩ = some (.bool (P r), ⟨(bs ++ ext) ++ ext', pend⟩)
theorem foldU_all {σ α : Type} {step : σ → α → σ × Bool} (h : ∀ s r, (step s r).2 = true) : ∀ (l : List α) (s : σ), foldU step l s = l.foldl (fun s r => (step s r).1) s
  | [], s => rfl
  | r :: l, s => by simp only [foldU, h, if_true, List.foldl_cons]; exact foldU_all h l _
theorem foldl_snoc (l : List Rw) : ∀ s : List Rw, l.foldl (fun s r => s ++ [r]) s = s ++ l := by
  induction l with
  | nil => intro s; simp
  | cons a l ih => intro s; simp [ih]
theorem r84 {bs : List Blk} {a b lk e lk' e' : Nat} {l : List Rw} {P : Rw → Bool} {g : FuncId} {caps : List AV} (hl : l.length ≤ 1000000) (ha : bs[a]? = some (.box lk e [.ro (rrows l)])) (hb : bs[b]? = some (.box lk' e' [.clo g caps])) (hlow : belowAll bs.length bs = true) (hp : PredOk g caps P bs) :
    ∃ x y z, LR E [] 84 [.clip [], .clo 76 [.ptr a 0 0 0, .ptr b 0 0 0]] ⟨bs, []⟩ = some (.lis (bs.length + 1) (l.filter P).length 0 (l.filter P).length, ⟨bs ++ x :: .lst 0 (l.filter P).length 59 19 (rrows (l.filter P)) :: y :: z, []⟩) := by
  rw [LR_R (fn := f84) rfl rfl rfl]
  simp only [f84, RB, pickV, eqbV, notV, negV, convV, faddrV, fldV, idxV, eqaggV, iaddrV, isnilV, nilckV, cloV, extrV, slenV, minV, sidxV, abin, cmpInt, params, growLists, fillCells, newAt, rdPtr, wrPtr, AV.cells, asVal, lenOf, boundOf, rowsOf, argIds, freshIn, scalar1, setAll, AV.isData, AV.isYld, Nat.reduceAdd, Nat.reduceMul, Nat.reduceSub, Nat.reduceEqDiff, Nat.reduceLeDiff, Nat.reduceLT, Int.reduceNeg, ↓reduceIte, reduceCtorEq, Int.reduceEq, Int.reduceLT, Int.reduceLE, Int.reduceBEq, Int.reduceBNe, Int.reduceToNat, IntKind.bits, Int.reduceAdd, Int.reduceSub, Int.reduceMul, Int.reduceTDiv, Int.reduceTMod, DB, DB2, R7B]
  rw [R_range (g := 76) (caps := [.ptr a 0 0 0, .ptr b 0 0 0]) (by simp only [RB, pickV, eqbV, notV, negV, convV, faddrV, fldV, idxV, eqaggV, iaddrV, isnilV, nilckV, cloV, extrV, slenV, minV, sidxV, abin, cmpInt, params, growLists, fillCells, newAt, rdPtr, wrPtr, AV.cells, asVal, lenOf, boundOf, rowsOf, argIds, freshIn, scalar1, setAll, AV.isData, AV.isYld, Nat.reduceAdd, Nat.reduceMul, Nat.reduceSub, Nat.reduceEqDiff, Nat.reduceLeDiff, Nat.reduceLT, Int.reduceNeg, ↓reduceIte, reduceCtorEq, Int.reduceEq, Int.reduceLT, Int.reduceLE, Int.reduceBEq, Int.reduceBNe, Int.reduceToNat, IntKind.bits, Int.reduceAdd, Int.reduceSub, Int.reduceMul, Int.reduceTDiv, Int.reduceTMod]) rfl]
  simp only [RB, pickV, eqbV, notV, negV, convV, faddrV, fldV, idxV, eqaggV, iaddrV, isnilV, nilckV, cloV, extrV, slenV, minV, sidxV, abin, cmpInt, params, growLists, fillCells, newAt, rdPtr, wrPtr, AV.cells, asVal, lenOf, boundOf, rowsOf, argIds, freshIn, scalar1, setAll, AV.isData, AV.isYld, Nat.reduceAdd, Nat.reduceMul, Nat.reduceSub, Nat.reduceEqDiff, Nat.reduceLeDiff, Nat.reduceLT, Int.reduceNeg, ↓reduceIte, reduceCtorEq, Int.reduceEq, Int.reduceLT, Int.reduceLE, Int.reduceBEq, Int.reduceBNe, Int.reduceToNat, IntKind.bits, Int.reduceAdd, Int.reduceSub, Int.reduceMul, Int.reduceTDiv, Int.reduceTMod, R7B]
  have hlen : ∀ x y z : Blk, (bs ++ [x, y, z]).length = bs.length + 3 := fun x y z => by simp
  refine ⟨.box 0 22 [.lis (bs.length + 1) (l.filter P).length 0 (l.filter P).length], .lst 0 0 59 19 [], [], r76_bind (σ := List Rw) (d := 0) (S := fun s => ⟨bs ++ [.box 0 22 [.lis (bs.length + 1) s.length 0 s.length], .lst 0 s.length 59 19 (rrows s), .lst 0 0 59 19 []], [none]⟩)
    (m := bs.length + 3) (a := a) (b := b) (l := l) (P := P) (step := fun s r => (s ++ [r], true)) (ok := fun k s => s.length ≤ k) [] (Nat.le_refl _) (by omega) ⟨_, rfl, g, caps, fun s => hlen _ _ _, fun s => ?_, ?_, ?_, fun s => ⟨_, _, get_lt ha⟩, fun s => ⟨_, _, get_lt hb⟩, fun s r x => ?_, ?_, ?_⟩ fun ext => ?_⟩
  · rw [ball_app, belowAll_mono (by omega) hlow]
    simp only [LPB, Bool.and_true, Bool.true_and, decide_eq_true_eq]; omega
  · have := (List.getElem?_eq_some_iff.1 ha).1; omega
  · have := (List.getElem?_eq_some_iff.1 hb).1; omega
  · simp only [List.append_assoc]
    have := fun ys => hp ys [none] ([.box 0 22 [.lis (bs.length + 1) s.length 0 s.length], .lst 0 s.length 59 19 (rrows s), .lst 0 0 59 19 []] ++ [x]) r
    simp only [List.append_assoc] at this
    exact this _
  · intro k s h _; omega
  · intro k s hk hok _
    refine ⟨fun _ => by simpa using hok, ?_⟩
    rw [handler_run rfl rfl]
    have f7 : (s.length + 1) * 40 ≤ 140737488355328 := by omega
    have f8 : s.length ≤ 4611686018427387903 := by omega
    have f9 : belowAll (bs.length + 4) bs = true := belowAll_mono (by omega) hlow
    have f10 : bs.length < bs.length + 4 := by omega
    have f11 : bs.length + 1 < bs.length + 4 := by omega
    have f12 : headFits 19 [rav (row l k)] = true := rrows_fit [row l k]
    simp only [RB, pickV, eqbV, notV, negV, convV, faddrV, fldV, idxV, eqaggV, iaddrV, isnilV, nilckV, cloV, extrV, slenV, minV, sidxV, abin, cmpInt, params, growLists, fillCells, newAt, rdPtr, wrPtr, AV.cells, asVal, lenOf, boundOf, rowsOf, argIds, freshIn, scalar1, setAll, AV.isData, AV.isYld, Nat.reduceAdd, Nat.reduceMul, Nat.reduceSub, Nat.reduceEqDiff, Nat.reduceLeDiff, Nat.reduceLT, Int.reduceNeg, ↓reduceIte, reduceCtorEq, Int.reduceEq, Int.reduceLT, Int.reduceLE, Int.reduceBEq, Int.reduceBNe, Int.reduceToNat, IntKind.bits, Int.reduceAdd, Int.reduceSub, Int.reduceMul, Int.reduceTDiv, Int.reduceTMod, DB, DB2, R7B, take_add, List.append_assoc, List.length_append, Nat.add_assoc, shrink_lit, ball_app, RG, LPB, aop_buildSl, fillRows, asData, aappend, f7, f8, f9, f10, f11, f12, List.take_length]
    exact ⟨_, rfl⟩
  · rw [foldU_all (fun _ _ => rfl), foldl_snoc, List.nil_append]
    have f10 : bs.length + 1 < bs.length + 3 := by omega
    simp only [RB, pickV, eqbV, notV, negV, convV, faddrV, fldV, idxV, eqaggV, iaddrV, isnilV, nilckV, cloV, extrV, slenV, minV, sidxV, abin, cmpInt, params, growLists, fillCells, newAt, rdPtr, wrPtr, AV.cells, asVal, lenOf, boundOf, rowsOf, argIds, freshIn, scalar1, setAll, AV.isData, AV.isYld, Nat.reduceAdd, Nat.reduceMul, Nat.reduceSub, Nat.reduceEqDiff, Nat.reduceLeDiff, Nat.reduceLT, Int.reduceNeg, ↓reduceIte, reduceCtorEq, Int.reduceEq, Int.reduceLT, Int.reduceLE, Int.reduceBEq, Int.reduceBNe, Int.reduceToNat, IntKind.bits, Int.reduceAdd, Int.reduceSub, Int.reduceMul, Int.reduceTDiv, Int.reduceTMod, DB, DB2, R7B, take_add, List.append_assoc, List.length_append, Nat.add_assoc, shrink_lit, ball_app, RG, LPB, hlow, belowAll_mono (show bs.length ≤ bs.length + 3 by omega) hlow, f10]
theorem r54 {bs : List Blk} {a b lk e lk' e' : Nat} {l : List Rw} {P : Rw → Bool} {g : FuncId} {caps : List AV} (hl : l.length ≤ 1000000) (ha : bs[a]? = some (.box lk e [.ro (rrows l)])) (hb : bs[b]? = some (.box lk' e' [.clo g caps])) (hlow : belowAll bs.length bs = true) (hp : PredOk g caps P bs) :
    ∃ n r, LR E [] 54 [.clo 76 [.ptr a 0 0 0, .ptr b 0 0 0]] ⟨bs, []⟩ = some (.lis n (l.filter P).length 0 (l.filter P).length, ⟨r, []⟩) ∧ r[n]? = some (.lst 0 (l.filter P).length 59 19 (rrows (l.filter P))) := by
  rw [LR_R (fn := f54) rfl rfl rfl]
  have h1 := belowAll_mono (show bs.length ≤ (bs ++ [Blk.lst 0 0 59 19 []]).length by simp) hlow
  obtain ⟨x, y, z, h⟩ := r84 (bs := bs ++ [Blk.lst 0 0 59 19 []]) hl (get_lt ha) (get_lt hb) (by rw [ball_app, h1]; rfl) (fun ys pend ext r => by
    have := hp ys pend ([Blk.lst 0 0 59 19 []] ++ ext) r
    simp only [List.append_assoc] at this ⊢; exact this)
  simp only [f54, RB, pickV, eqbV, notV, negV, convV, faddrV, fldV, idxV, eqaggV, iaddrV, isnilV, nilckV, cloV, extrV, slenV, minV, sidxV, abin, cmpInt, params, growLists, fillCells, newAt, rdPtr, wrPtr, AV.cells, asVal, lenOf, boundOf, rowsOf, argIds, freshIn, scalar1, setAll, AV.isData, AV.isYld, Nat.reduceAdd, Nat.reduceMul, Nat.reduceSub, Nat.reduceEqDiff, Nat.reduceLeDiff, Nat.reduceLT, Int.reduceNeg, ↓reduceIte, reduceCtorEq, Int.reduceEq, Int.reduceLT, Int.reduceLE, Int.reduceBEq, Int.reduceBNe, Int.reduceToNat, IntKind.bits, Int.reduceAdd, Int.reduceSub, Int.reduceMul, Int.reduceTDiv, Int.reduceTMod, DB, DB2, R7B, h]
  refine ⟨_, _, rfl, ?_⟩
  rw [List.getElem?_append_right (by omega)]
  simp
/-- The rows that lie within a prefix. -/
theorem pred55 {bs : List Blk} {a lk e : Nat} {p : Pfx} (h : bs[a]? = some (.box lk e (pav p))) : PredOk 55 [.ptr a 0 0 0] (fun r => decide (Holds p r.p)) bs := fun ys pend ext r => ⟨_, r55 p r.p (get_lt h)⟩
theorem e23 (l : List Rw) (hl : l.length ≤ 1000000) (p : Pfx) : LV E 23 [.agg [.ro (rrows l)], .agg (pav p)] = some (if TabOk l then if PfxOk p then .tup [.fresh 59 19 (rrows (l.filter fun r => decide (Holds p r.p))), .int .i64 0] else .tup [.fresh 59 19 [], .int .i64 151] else .tup [.fresh 59 19 [], .int .i64 190]) := by
  rw [LV_R (fn := f23) rfl rfl rfl]
  simp only [f23, RB, pickV, eqbV, notV, negV, convV, faddrV, fldV, idxV, eqaggV, iaddrV, isnilV, nilckV, cloV, extrV, slenV, minV, sidxV, abin, cmpInt, params, growLists, fillCells, newAt, rdPtr, wrPtr, AV.cells, asVal, lenOf, boundOf, rowsOf, argIds, freshIn, scalar1, setAll, AV.isData, AV.isYld, Nat.reduceAdd, Nat.reduceMul, Nat.reduceSub, Nat.reduceEqDiff, Nat.reduceLeDiff, Nat.reduceLT, Int.reduceNeg, ↓reduceIte, reduceCtorEq, Int.reduceEq, Int.reduceLT, Int.reduceLE, Int.reduceBEq, Int.reduceBNe, Int.reduceToNat, IntKind.bits, Int.reduceAdd, Int.reduceSub, Int.reduceMul, Int.reduceTDiv, Int.reduceTMod, DB, DB2, e44 l (by omega)]
  by_cases h1 : TabOk l
  · by_cases h2 : PfxOk p
    · obtain ⟨n, r, h3, h4⟩ := r54 (bs := [.box 0 24 [.ro (rrows l)], .box 0 32 (pav p), .lst 0 0 59 19 [], .box 0 24 [.ro (rrows l)], .box 0 88 [.clo 55 [.ptr 1 0 0 0]]]) (a := 3) (b := 4) hl rfl rfl (by simp only [RB, pickV, eqbV, notV, negV, convV, faddrV, fldV, idxV, eqaggV, iaddrV, isnilV, nilckV, cloV, extrV, slenV, minV, sidxV, abin, cmpInt, params, growLists, fillCells, newAt, rdPtr, wrPtr, AV.cells, asVal, lenOf, boundOf, rowsOf, argIds, freshIn, scalar1, setAll, AV.isData, AV.isYld, Nat.reduceAdd, Nat.reduceMul, Nat.reduceSub, Nat.reduceEqDiff, Nat.reduceLeDiff, Nat.reduceLT, Int.reduceNeg, ↓reduceIte, reduceCtorEq, Int.reduceEq, Int.reduceLT, Int.reduceLE, Int.reduceBEq, Int.reduceBNe, Int.reduceToNat, IntKind.bits, Int.reduceAdd, Int.reduceSub, Int.reduceMul, Int.reduceTDiv, Int.reduceTMod, LPB]) (pred55 (a := 1) rfl)
      simp only [RB, pickV, eqbV, notV, negV, convV, faddrV, fldV, idxV, eqaggV, iaddrV, isnilV, nilckV, cloV, extrV, slenV, minV, sidxV, abin, cmpInt, params, growLists, fillCells, newAt, rdPtr, wrPtr, AV.cells, asVal, lenOf, boundOf, rowsOf, argIds, freshIn, scalar1, setAll, AV.isData, AV.isYld, Nat.reduceAdd, Nat.reduceMul, Nat.reduceSub, Nat.reduceEqDiff, Nat.reduceLeDiff, Nat.reduceLT, Int.reduceNeg, ↓reduceIte, reduceCtorEq, Int.reduceEq, Int.reduceLT, Int.reduceLE, Int.reduceBEq, Int.reduceBNe, Int.reduceToNat, IntKind.bits, Int.reduceAdd, Int.reduceSub, Int.reduceMul, Int.reduceTDiv, Int.reduceTMod, DB, DB2, h1, h2, bne_self_eq_false, r46, R7B, h3, h4, expCell, List.nodup_cons, List.nodup_nil, List.not_mem_nil, not_false_eq_true, not_true_eq_false, and_true, and_false, if_false, List.mem_cons, mutIds, List.take_length]
    · simp only [RB, pickV, eqbV, notV, negV, convV, faddrV, fldV, idxV, eqaggV, iaddrV, isnilV, nilckV, cloV, extrV, slenV, minV, sidxV, abin, cmpInt, params, growLists, fillCells, newAt, rdPtr, wrPtr, AV.cells, asVal, lenOf, boundOf, rowsOf, argIds, freshIn, scalar1, setAll, AV.isData, AV.isYld, Nat.reduceAdd, Nat.reduceMul, Nat.reduceSub, Nat.reduceEqDiff, Nat.reduceLeDiff, Nat.reduceLT, Int.reduceNeg, ↓reduceIte, reduceCtorEq, Int.reduceEq, Int.reduceLT, Int.reduceLE, Int.reduceBEq, Int.reduceBNe, Int.reduceToNat, IntKind.bits, Int.reduceAdd, Int.reduceSub, Int.reduceMul, Int.reduceTDiv, Int.reduceTMod, DB, DB2, h1, h2, expCell, List.nodup_cons, List.nodup_nil, List.not_mem_nil, not_false_eq_true, not_true_eq_false, and_true, and_false, if_false, List.mem_cons, mutIds, rrows_nil]
  · simp only [RB, pickV, eqbV, notV, negV, convV, faddrV, fldV, idxV, eqaggV, iaddrV, isnilV, nilckV, cloV, extrV, slenV, minV, sidxV, abin, cmpInt, params, growLists, fillCells, newAt, rdPtr, wrPtr, AV.cells, asVal, lenOf, boundOf, rowsOf, argIds, freshIn, scalar1, setAll, AV.isData, AV.isYld, Nat.reduceAdd, Nat.reduceMul, Nat.reduceSub, Nat.reduceEqDiff, Nat.reduceLeDiff, Nat.reduceLT, Int.reduceNeg, ↓reduceIte, reduceCtorEq, Int.reduceEq, Int.reduceLT, Int.reduceLE, Int.reduceBEq, Int.reduceBNe, Int.reduceToNat, IntKind.bits, Int.reduceAdd, Int.reduceSub, Int.reduceMul, Int.reduceTDiv, Int.reduceTMod, DB, DB2, h1, expCell, List.nodup_cons, List.nodup_nil, List.not_mem_nil, not_false_eq_true, not_true_eq_false, and_true, and_false, if_false, List.mem_cons, mutIds, rrows_nil]
end Go.Proofs.YtihbammfchnjgaaDoor.F

/- Pages. No condition. -/
set_option linter.unusedSimpArgs false
namespace Go.Proofs.YtihbammfchnjgaaDoor.F
open Go Go.Proofs.YtihbammfchnjgaaDoor.A Go.Proofs.YtihbammfchnjgaaDoor.D
/-- What a page asks of a row. -/
def pageOf (p : Pfx) (c : Cur) (r : Rw) : Bool := decide (Holds p r.p) && (!c.begun || decide (0 < cmpP r.p c.after))
theorem r47 {ys : List Hd} {bs : List Blk} {pend : List (Option AExit)} {a b lk e lk' e' : Nat} (p q : Pfx) (c : Cur) (h : bs[a]? = some (.box lk e (pav p))) (h' : bs[b]? = some (.box lk' e' (cav c))) : LR E ys 47 [.agg (pav q), .ptr a 0 0 0, .ptr b 0 0 0] ⟨bs, pend⟩ = some (.bool (decide (Holds p q) && (!c.begun || decide (0 < cmpP q c.after))), ⟨bs ++ [.box 0 32 (pav q)], pend⟩) := by
  have g : ∀ r, (bs ++ r)[a]? = some (.box lk e (pav p)) := fun r => get_lt h
  have g' : ∀ r, (bs ++ r)[b]? = some (.box lk' e' (cav c)) := fun r => get_lt h'
  rw [LR_R (fn := f47) rfl rfl rfl]
  simp only [f47, RB, pickV, eqbV, notV, negV, convV, faddrV, fldV, idxV, eqaggV, iaddrV, isnilV, nilckV, cloV, extrV, slenV, minV, sidxV, abin, cmpInt, params, growLists, fillCells, newAt, rdPtr, wrPtr, AV.cells, asVal, lenOf, boundOf, rowsOf, argIds, freshIn, scalar1, setAll, AV.isData, AV.isYld, Nat.reduceAdd, Nat.reduceMul, Nat.reduceSub, Nat.reduceEqDiff, Nat.reduceLeDiff, Nat.reduceLT, Int.reduceNeg, ↓reduceIte, reduceCtorEq, Int.reduceEq, Int.reduceLT, Int.reduceLE, Int.reduceBEq, Int.reduceBNe, Int.reduceToNat, IntKind.bits, Int.reduceAdd, Int.reduceSub, Int.reduceMul, Int.reduceTDiv, Int.reduceTMod, DB, DB2, R7B, g, e37]
  by_cases h1 : Holds p q
  · obtain ⟨b, d, x⟩ := c
    cases b
    · simp only [RB, pickV, eqbV, notV, negV, convV, faddrV, fldV, idxV, eqaggV, iaddrV, isnilV, nilckV, cloV, extrV, slenV, minV, sidxV, abin, cmpInt, params, growLists, fillCells, newAt, rdPtr, wrPtr, AV.cells, asVal, lenOf, boundOf, rowsOf, argIds, freshIn, scalar1, setAll, AV.isData, AV.isYld, Nat.reduceAdd, Nat.reduceMul, Nat.reduceSub, Nat.reduceEqDiff, Nat.reduceLeDiff, Nat.reduceLT, Int.reduceNeg, ↓reduceIte, reduceCtorEq, Int.reduceEq, Int.reduceLT, Int.reduceLE, Int.reduceBEq, Int.reduceBNe, Int.reduceToNat, IntKind.bits, Int.reduceAdd, Int.reduceSub, Int.reduceMul, Int.reduceTDiv, Int.reduceTMod, DB, DB2, R7B, g, g', h1]
    · simp only [RB, pickV, eqbV, notV, negV, convV, faddrV, fldV, idxV, eqaggV, iaddrV, isnilV, nilckV, cloV, extrV, slenV, minV, sidxV, abin, cmpInt, params, growLists, fillCells, newAt, rdPtr, wrPtr, AV.cells, asVal, lenOf, boundOf, rowsOf, argIds, freshIn, scalar1, setAll, AV.isData, AV.isYld, Nat.reduceAdd, Nat.reduceMul, Nat.reduceSub, Nat.reduceEqDiff, Nat.reduceLeDiff, Nat.reduceLT, Int.reduceNeg, ↓reduceIte, reduceCtorEq, Int.reduceEq, Int.reduceLT, Int.reduceLE, Int.reduceBEq, Int.reduceBNe, Int.reduceToNat, IntKind.bits, Int.reduceAdd, Int.reduceSub, Int.reduceMul, Int.reduceTDiv, Int.reduceTMod, DB, DB2, R7B, g, g', h1, e40]
  · simp only [RB, pickV, eqbV, notV, negV, convV, faddrV, fldV, idxV, eqaggV, iaddrV, isnilV, nilckV, cloV, extrV, slenV, minV, sidxV, abin, cmpInt, params, growLists, fillCells, newAt, rdPtr, wrPtr, AV.cells, asVal, lenOf, boundOf, rowsOf, argIds, freshIn, scalar1, setAll, AV.isData, AV.isYld, Nat.reduceAdd, Nat.reduceMul, Nat.reduceSub, Nat.reduceEqDiff, Nat.reduceLeDiff, Nat.reduceLT, Int.reduceNeg, ↓reduceIte, reduceCtorEq, Int.reduceEq, Int.reduceLT, Int.reduceLE, Int.reduceBEq, Int.reduceBNe, Int.reduceToNat, IntKind.bits, Int.reduceAdd, Int.reduceSub, Int.reduceMul, Int.reduceTDiv, Int.reduceTMod, DB, DB2, R7B, g, g', h1]
theorem pred47 {bs : List Blk} {a b lk e lk' e' : Nat} {p : Pfx} {c : Cur} (h : bs[a]? = some (.box lk e (pav p))) (h' : bs[b]? = some (.box lk' e' (cav c))) : PredOk 47 [.ptr a 0 0 0, .ptr b 0 0 0] (pageOf p c) bs := fun ys pend ext r => ⟨_, r47 p r.p c (get_lt h) (get_lt h')⟩
/-- The cursor when so many rows are taken. -/
def curOf (c : Cur) (done : Bool) (l : List Rw) : Cur := match l.getLast? with
  | none => ⟨c.begun, done, c.after⟩
  | some r => ⟨true, done, r.p⟩
theorem curOf_snoc (c : Cur) (d : Bool) (l : List Rw) (r : Rw) : curOf c d (l ++ [r]) = ⟨true, d, r.p⟩ := by simp [curOf]
theorem curOf_done (c : Cur) (d : Bool) (l : List Rw) : (curOf c d l).done = d := by unfold curOf; split <;> rfl
theorem curOf_set (c : Cur) (d d' : Bool) (l : List Rw) : (⟨(curOf c d l).begun, d', (curOf c d l).after⟩ : Cur) = curOf c d' l := by unfold curOf; split <;> rfl
theorem curOf_nil (c : Cur) (d : Bool) : curOf c d [] = ⟨c.begun, d, c.after⟩ := rfl
/-- Rows that are taken, and whether there was one too many. -/
def pageStep (n : Nat) (s : List Rw × Bool) (r : Rw) : (List Rw × Bool) × Bool := if s.1.length = n then ((s.1, true), false) else ((s.1 ++ [r], s.2), true)
theorem page_fold (n : Nat) : ∀ (l s : List Rw), s.length ≤ n → foldU (pageStep n) l (s, false) = ((s ++ l).take n, decide (n < (s ++ l).length))
  | [], s, h => by simp [foldU, List.take_of_length_le h, h]
  | r :: l, s, h => by
    unfold foldU pageStep
    by_cases h1 : s.length = n
    · simp only [h1, if_true, Bool.false_eq_true, if_false]
      rw [List.take_append_of_le_length (by omega), List.take_of_length_le (by omega), decide_eq_true (by simp; omega)]
    · simp only [h1, if_false, if_true]
      have := page_fold n l (s ++ [r]) (by simp; omega)
      unfold pageStep at this
      rw [this]; simp
structure PageR where
  rows : List Rw
  cur : Cur
  err : Int
def page (l : List Rw) (p : Pfx) (c : Cur) (most : Int) : PageR :=
  if TabOk l then if PfxOk p then if GoOn c ∧ 1 ≤ most ∧ most ≤ 16 then
    ⟨(l.filter (pageOf p c)).take most.toNat, curOf c (decide ((l.filter (pageOf p c)).length ≤ most.toNat)) ((l.filter (pageOf p c)).take most.toNat), 0⟩
  else ⟨[], zerC, 2⟩ else ⟨[], zerC, 151⟩ else ⟨[], zerC, 190⟩
theorem e13 (l : List Rw) (hl : l.length ≤ 1000000) (p : Pfx) (c : Cur) (most : Int) : LV E 13 [.agg [.ro (rrows l)], .agg (pav p), .agg (cav c), .int .i64 most] = some (.tup [.fresh 59 19 (rrows (page l p c most).rows), .agg (cav (page l p c most).cur), .int .i64 (page l p c most).err]) := by
  rw [LV_R (fn := f13) rfl rfl rfl]
  simp only [f13, ← cav_zer, RB, pickV, eqbV, notV, negV, convV, faddrV, fldV, idxV, eqaggV, iaddrV, isnilV, nilckV, cloV, extrV, slenV, minV, sidxV, abin, cmpInt, params, growLists, fillCells, newAt, rdPtr, wrPtr, AV.cells, asVal, lenOf, boundOf, rowsOf, argIds, freshIn, scalar1, setAll, AV.isData, AV.isYld, Nat.reduceAdd, Nat.reduceMul, Nat.reduceSub, Nat.reduceEqDiff, Nat.reduceLeDiff, Nat.reduceLT, Int.reduceNeg, ↓reduceIte, reduceCtorEq, Int.reduceEq, Int.reduceLT, Int.reduceLE, Int.reduceBEq, Int.reduceBNe, Int.reduceToNat, IntKind.bits, Int.reduceAdd, Int.reduceSub, Int.reduceMul, Int.reduceTDiv, Int.reduceTMod, DB, DB2, e44 l (show l.length ≤ 4611686018427387904 by omega)]
  unfold page
  by_cases h1 : TabOk l
  · by_cases h2 : PfxOk p
    · simp only [RB, pickV, eqbV, notV, negV, convV, faddrV, fldV, idxV, eqaggV, iaddrV, isnilV, nilckV, cloV, extrV, slenV, minV, sidxV, abin, cmpInt, params, growLists, fillCells, newAt, rdPtr, wrPtr, AV.cells, asVal, lenOf, boundOf, rowsOf, argIds, freshIn, scalar1, setAll, AV.isData, AV.isYld, Nat.reduceAdd, Nat.reduceMul, Nat.reduceSub, Nat.reduceEqDiff, Nat.reduceLeDiff, Nat.reduceLT, Int.reduceNeg, ↓reduceIte, reduceCtorEq, Int.reduceEq, Int.reduceLT, Int.reduceLE, Int.reduceBEq, Int.reduceBNe, Int.reduceToNat, IntKind.bits, Int.reduceAdd, Int.reduceSub, Int.reduceMul, Int.reduceTDiv, Int.reduceTMod, DB, DB2, h1, h2, bne_self_eq_false, e45]
      by_cases h3 : GoOn c
      · by_cases h4 : most < 1
        · simp only [RB, pickV, eqbV, notV, negV, convV, faddrV, fldV, idxV, eqaggV, iaddrV, isnilV, nilckV, cloV, extrV, slenV, minV, sidxV, abin, cmpInt, params, growLists, fillCells, newAt, rdPtr, wrPtr, AV.cells, asVal, lenOf, boundOf, rowsOf, argIds, freshIn, scalar1, setAll, AV.isData, AV.isYld, Nat.reduceAdd, Nat.reduceMul, Nat.reduceSub, Nat.reduceEqDiff, Nat.reduceLeDiff, Nat.reduceLT, Int.reduceNeg, ↓reduceIte, reduceCtorEq, Int.reduceEq, Int.reduceLT, Int.reduceLE, Int.reduceBEq, Int.reduceBNe, Int.reduceToNat, IntKind.bits, Int.reduceAdd, Int.reduceSub, Int.reduceMul, Int.reduceTDiv, Int.reduceTMod, DB, DB2, h1, h2, h3, h4, expCell, List.nodup_cons, List.nodup_nil, List.not_mem_nil, not_false_eq_true, not_true_eq_false, and_true, and_false, if_false, List.mem_cons, mutIds, rrows_nil, show ¬ 1 ≤ most by omega]
        · by_cases h5 : 16 < most
          · simp only [RB, pickV, eqbV, notV, negV, convV, faddrV, fldV, idxV, eqaggV, iaddrV, isnilV, nilckV, cloV, extrV, slenV, minV, sidxV, abin, cmpInt, params, growLists, fillCells, newAt, rdPtr, wrPtr, AV.cells, asVal, lenOf, boundOf, rowsOf, argIds, freshIn, scalar1, setAll, AV.isData, AV.isYld, Nat.reduceAdd, Nat.reduceMul, Nat.reduceSub, Nat.reduceEqDiff, Nat.reduceLeDiff, Nat.reduceLT, Int.reduceNeg, ↓reduceIte, reduceCtorEq, Int.reduceEq, Int.reduceLT, Int.reduceLE, Int.reduceBEq, Int.reduceBNe, Int.reduceToNat, IntKind.bits, Int.reduceAdd, Int.reduceSub, Int.reduceMul, Int.reduceTDiv, Int.reduceTMod, DB, DB2, h1, h2, h3, h4, h5, expCell, List.nodup_cons, List.nodup_nil, List.not_mem_nil, not_false_eq_true, not_true_eq_false, and_true, and_false, if_false, List.mem_cons, mutIds, rrows_nil, show ¬ most ≤ 16 by omega]
          · simp only [RB, pickV, eqbV, notV, negV, convV, faddrV, fldV, idxV, eqaggV, iaddrV, isnilV, nilckV, cloV, extrV, slenV, minV, sidxV, abin, cmpInt, params, growLists, fillCells, newAt, rdPtr, wrPtr, AV.cells, asVal, lenOf, boundOf, rowsOf, argIds, freshIn, scalar1, setAll, AV.isData, AV.isYld, Nat.reduceAdd, Nat.reduceMul, Nat.reduceSub, Nat.reduceEqDiff, Nat.reduceLeDiff, Nat.reduceLT, Int.reduceNeg, ↓reduceIte, reduceCtorEq, Int.reduceEq, Int.reduceLT, Int.reduceLE, Int.reduceBEq, Int.reduceBNe, Int.reduceToNat, IntKind.bits, Int.reduceAdd, Int.reduceSub, Int.reduceMul, Int.reduceTDiv, Int.reduceTMod, DB, DB2, h1, h2, h3, h4, h5, expCell, List.nodup_cons, List.nodup_nil, List.not_mem_nil, not_false_eq_true, not_true_eq_false, and_true, and_false, if_false, List.mem_cons, mutIds, r46, R7B, show 1 ≤ most by omega, show most ≤ 16 by omega]
            rw [R_range (g := 76) (caps := [.ptr 9 0 0 0, .ptr 10 0 0 0]) (by simp only [RB, pickV, eqbV, notV, negV, convV, faddrV, fldV, idxV, eqaggV, iaddrV, isnilV, nilckV, cloV, extrV, slenV, minV, sidxV, abin, cmpInt, params, growLists, fillCells, newAt, rdPtr, wrPtr, AV.cells, asVal, lenOf, boundOf, rowsOf, argIds, freshIn, scalar1, setAll, AV.isData, AV.isYld, Nat.reduceAdd, Nat.reduceMul, Nat.reduceSub, Nat.reduceEqDiff, Nat.reduceLeDiff, Nat.reduceLT, Int.reduceNeg, ↓reduceIte, reduceCtorEq, Int.reduceEq, Int.reduceLT, Int.reduceLE, Int.reduceBEq, Int.reduceBNe, Int.reduceToNat, IntKind.bits, Int.reduceAdd, Int.reduceSub, Int.reduceMul, Int.reduceTDiv, Int.reduceTMod]) rfl]
            simp only [RB, pickV, eqbV, notV, negV, convV, faddrV, fldV, idxV, eqaggV, iaddrV, isnilV, nilckV, cloV, extrV, slenV, minV, sidxV, abin, cmpInt, params, growLists, fillCells, newAt, rdPtr, wrPtr, AV.cells, asVal, lenOf, boundOf, rowsOf, argIds, freshIn, scalar1, setAll, AV.isData, AV.isYld, Nat.reduceAdd, Nat.reduceMul, Nat.reduceSub, Nat.reduceEqDiff, Nat.reduceLeDiff, Nat.reduceLT, Int.reduceNeg, ↓reduceIte, reduceCtorEq, Int.reduceEq, Int.reduceLT, Int.reduceLE, Int.reduceBEq, Int.reduceBNe, Int.reduceToNat, IntKind.bits, Int.reduceAdd, Int.reduceSub, Int.reduceMul, Int.reduceTDiv, Int.reduceTMod, R7B]
            obtain ⟨n, rfl⟩ : ∃ n : Nat, most = (n : Int) := ⟨most.toNat, by omega⟩
            refine r76_bind (σ := List Rw × Bool) (d := 0) (S := fun s => ⟨[.box 0 24 [.ro (rrows l)], .box 0 32 (pav p), .box 0 34 (cav c), .box 0 3 [.int .i64 (n : Int)], .lst 0 0 59 19 [], .box 0 34 (cav zerC), .box 0 22 [.lis 7 s.1.length 0 s.1.length], .lst 0 s.1.length 59 19 (rrows s.1), .box 0 34 (cav (curOf c (!s.2) s.1)), .box 0 24 [.ro (rrows l)], .box 0 88 [.clo 47 [.ptr 1 0 0 0, .ptr 2 0 0 0]]], [if s.2 then some (.exit 0) else none]⟩)
              (m := 11) (a := 9) (b := 10) (l := l) (P := pageOf p c) (step := pageStep n) (ok := fun k s => s.1.length ≤ k ∧ s.2 = false) ([], false) ⟨Nat.le_refl _, rfl⟩ (by omega) ⟨_, rfl, 47, [.ptr 1 0 0 0, .ptr 2 0 0 0], fun s => rfl, fun s => ?_, by omega, by omega, fun s => ⟨_, _, rfl⟩, fun s => ⟨_, _, rfl⟩, fun s r x => pred47 (bs := [_, _, _]) rfl rfl _ _ [_, _, _, _, _, _, _, _, _] r, ?_, ?_⟩ fun ext => ?_
            · simp only [RB, pickV, eqbV, notV, negV, convV, faddrV, fldV, idxV, eqaggV, iaddrV, isnilV, nilckV, cloV, extrV, slenV, minV, sidxV, abin, cmpInt, params, growLists, fillCells, newAt, rdPtr, wrPtr, AV.cells, asVal, lenOf, boundOf, rowsOf, argIds, freshIn, scalar1, setAll, AV.isData, AV.isYld, Nat.reduceAdd, Nat.reduceMul, Nat.reduceSub, Nat.reduceEqDiff, Nat.reduceLeDiff, Nat.reduceLT, Int.reduceNeg, ↓reduceIte, reduceCtorEq, Int.reduceEq, Int.reduceLT, Int.reduceLE, Int.reduceBEq, Int.reduceBNe, Int.reduceToNat, IntKind.bits, Int.reduceAdd, Int.reduceSub, Int.reduceMul, Int.reduceTDiv, Int.reduceTMod, LPB, cav_below]
            · intro k s h _; exact ⟨by omega, h.2⟩
            · rintro k ⟨s, d⟩ hk ⟨hok, rfl⟩ _
              have f7 : (s.length + 1) * 40 ≤ 140737488355328 := by simp only at hok; omega
              have f8 : s.length ≤ 4611686018427387903 := by simp only at hok; omega
              have f12 : headFits 19 [rav (row l k)] = true := rrows_fit [row l k]
              by_cases hn : s.length = n
              · refine ⟨fun h => by simp [pageStep, hn] at h, ?_⟩
                simp only [Bool.false_eq_true, if_false]
                rw [handler_run rfl rfl]
                simp only [RB, pickV, eqbV, notV, negV, convV, faddrV, fldV, idxV, eqaggV, iaddrV, isnilV, nilckV, cloV, extrV, slenV, minV, sidxV, abin, cmpInt, params, growLists, fillCells, newAt, rdPtr, wrPtr, AV.cells, asVal, lenOf, boundOf, rowsOf, argIds, freshIn, scalar1, setAll, AV.isData, AV.isYld, Nat.reduceAdd, Nat.reduceMul, Nat.reduceSub, Nat.reduceEqDiff, Nat.reduceLeDiff, Nat.reduceLT, Int.reduceNeg, ↓reduceIte, reduceCtorEq, Int.reduceEq, Int.reduceLT, Int.reduceLE, Int.reduceBEq, Int.reduceBNe, Int.reduceToNat, IntKind.bits, Int.reduceAdd, Int.reduceSub, Int.reduceMul, Int.reduceTDiv, Int.reduceTMod, DB, DB2, R7B, take_add, List.append_assoc, List.length_append, Nat.add_assoc, shrink_lit, ball_app, RG, LPB, hn, pageStep, cav_below, curOf_set]
                exact ⟨_, rfl⟩
              · refine ⟨fun _ => by simp [pageStep, hn]; exact hok, ?_⟩
                simp only [Bool.false_eq_true, if_false]
                rw [handler_run rfl rfl]
                simp only [RB, pickV, eqbV, notV, negV, convV, faddrV, fldV, idxV, eqaggV, iaddrV, isnilV, nilckV, cloV, extrV, slenV, minV, sidxV, abin, cmpInt, params, growLists, fillCells, newAt, rdPtr, wrPtr, AV.cells, asVal, lenOf, boundOf, rowsOf, argIds, freshIn, scalar1, setAll, AV.isData, AV.isYld, Nat.reduceAdd, Nat.reduceMul, Nat.reduceSub, Nat.reduceEqDiff, Nat.reduceLeDiff, Nat.reduceLT, Int.reduceNeg, ↓reduceIte, reduceCtorEq, Int.reduceEq, Int.reduceLT, Int.reduceLE, Int.reduceBEq, Int.reduceBNe, Int.reduceToNat, IntKind.bits, Int.reduceAdd, Int.reduceSub, Int.reduceMul, Int.reduceTDiv, Int.reduceTMod, DB, DB2, R7B, take_add, List.append_assoc, List.length_append, Nat.add_assoc, shrink_lit, ball_app, RG, LPB, show ((s.length : Int) == (n : Int)) = false by rw [beq_eq_false_iff_ne]; omega, hn, pageStep, cav_below, aop_buildSl, fillRows, asData, aappend, f7, f8, f12, List.take_length, rrows_len, pairOk, AV.ids, List.contains_cons, List.contains_nil, Nat.reduceBEq, List.all_cons, List.all_nil, Bool.or_self, Bool.not_false, Bool.and_self, Bool.or_false, curOf_snoc, curOf_done]
                exact ⟨_, rfl⟩
            · rw [page_fold n _ [] (Nat.zero_le _)]
              rw [show (n : Int).toNat = n from rfl]
              by_cases hn : n < (l.filter (pageOf p c)).length
              · simp only [RB, pickV, eqbV, notV, negV, convV, faddrV, fldV, idxV, eqaggV, iaddrV, isnilV, nilckV, cloV, extrV, slenV, minV, sidxV, abin, cmpInt, params, growLists, fillCells, newAt, rdPtr, wrPtr, AV.cells, asVal, lenOf, boundOf, rowsOf, argIds, freshIn, scalar1, setAll, AV.isData, AV.isYld, Nat.reduceAdd, Nat.reduceMul, Nat.reduceSub, Nat.reduceEqDiff, Nat.reduceLeDiff, Nat.reduceLT, Int.reduceNeg, ↓reduceIte, reduceCtorEq, Int.reduceEq, Int.reduceLT, Int.reduceLE, Int.reduceBEq, Int.reduceBNe, Int.reduceToNat, IntKind.bits, Int.reduceAdd, Int.reduceSub, Int.reduceMul, Int.reduceTDiv, Int.reduceTMod, DB, DB2, R7B, take_add, List.append_assoc, List.length_append, Nat.add_assoc, shrink_lit, ball_app, RG, LPB, cav_below, hn, show ¬ (l.filter (pageOf p c)).length ≤ n by omega, expCell, List.nodup_cons, List.nodup_nil, List.not_mem_nil, not_false_eq_true, not_true_eq_false, and_true, and_false, if_false, List.mem_cons, mutIds, rrows_len, List.take_length]
              · simp only [RB, pickV, eqbV, notV, negV, convV, faddrV, fldV, idxV, eqaggV, iaddrV, isnilV, nilckV, cloV, extrV, slenV, minV, sidxV, abin, cmpInt, params, growLists, fillCells, newAt, rdPtr, wrPtr, AV.cells, asVal, lenOf, boundOf, rowsOf, argIds, freshIn, scalar1, setAll, AV.isData, AV.isYld, Nat.reduceAdd, Nat.reduceMul, Nat.reduceSub, Nat.reduceEqDiff, Nat.reduceLeDiff, Nat.reduceLT, Int.reduceNeg, ↓reduceIte, reduceCtorEq, Int.reduceEq, Int.reduceLT, Int.reduceLE, Int.reduceBEq, Int.reduceBNe, Int.reduceToNat, IntKind.bits, Int.reduceAdd, Int.reduceSub, Int.reduceMul, Int.reduceTDiv, Int.reduceTMod, DB, DB2, R7B, take_add, List.append_assoc, List.length_append, Nat.add_assoc, shrink_lit, ball_app, RG, LPB, cav_below, hn, show (l.filter (pageOf p c)).length ≤ n by omega, expCell, List.nodup_cons, List.nodup_nil, List.not_mem_nil, not_false_eq_true, not_true_eq_false, and_true, and_false, if_false, List.mem_cons, mutIds, rrows_len, List.take_length]
      · simp only [RB, pickV, eqbV, notV, negV, convV, faddrV, fldV, idxV, eqaggV, iaddrV, isnilV, nilckV, cloV, extrV, slenV, minV, sidxV, abin, cmpInt, params, growLists, fillCells, newAt, rdPtr, wrPtr, AV.cells, asVal, lenOf, boundOf, rowsOf, argIds, freshIn, scalar1, setAll, AV.isData, AV.isYld, Nat.reduceAdd, Nat.reduceMul, Nat.reduceSub, Nat.reduceEqDiff, Nat.reduceLeDiff, Nat.reduceLT, Int.reduceNeg, ↓reduceIte, reduceCtorEq, Int.reduceEq, Int.reduceLT, Int.reduceLE, Int.reduceBEq, Int.reduceBNe, Int.reduceToNat, IntKind.bits, Int.reduceAdd, Int.reduceSub, Int.reduceMul, Int.reduceTDiv, Int.reduceTMod, DB, DB2, h1, h2, h3, expCell, List.nodup_cons, List.nodup_nil, List.not_mem_nil, not_false_eq_true, not_true_eq_false, and_true, and_false, if_false, List.mem_cons, mutIds, rrows_nil]
    · simp only [RB, pickV, eqbV, notV, negV, convV, faddrV, fldV, idxV, eqaggV, iaddrV, isnilV, nilckV, cloV, extrV, slenV, minV, sidxV, abin, cmpInt, params, growLists, fillCells, newAt, rdPtr, wrPtr, AV.cells, asVal, lenOf, boundOf, rowsOf, argIds, freshIn, scalar1, setAll, AV.isData, AV.isYld, Nat.reduceAdd, Nat.reduceMul, Nat.reduceSub, Nat.reduceEqDiff, Nat.reduceLeDiff, Nat.reduceLT, Int.reduceNeg, ↓reduceIte, reduceCtorEq, Int.reduceEq, Int.reduceLT, Int.reduceLE, Int.reduceBEq, Int.reduceBNe, Int.reduceToNat, IntKind.bits, Int.reduceAdd, Int.reduceSub, Int.reduceMul, Int.reduceTDiv, Int.reduceTMod, DB, DB2, h1, h2, expCell, List.nodup_cons, List.nodup_nil, List.not_mem_nil, not_false_eq_true, not_true_eq_false, and_true, and_false, if_false, List.mem_cons, mutIds, rrows_nil]
  · simp only [RB, pickV, eqbV, notV, negV, convV, faddrV, fldV, idxV, eqaggV, iaddrV, isnilV, nilckV, cloV, extrV, slenV, minV, sidxV, abin, cmpInt, params, growLists, fillCells, newAt, rdPtr, wrPtr, AV.cells, asVal, lenOf, boundOf, rowsOf, argIds, freshIn, scalar1, setAll, AV.isData, AV.isYld, Nat.reduceAdd, Nat.reduceMul, Nat.reduceSub, Nat.reduceEqDiff, Nat.reduceLeDiff, Nat.reduceLT, Int.reduceNeg, ↓reduceIte, reduceCtorEq, Int.reduceEq, Int.reduceLT, Int.reduceLE, Int.reduceBEq, Int.reduceBNe, Int.reduceToNat, IntKind.bits, Int.reduceAdd, Int.reduceSub, Int.reduceMul, Int.reduceTDiv, Int.reduceTMod, DB, DB2, h1, expCell, List.nodup_cons, List.nodup_nil, List.not_mem_nil, not_false_eq_true, not_true_eq_false, and_true, and_false, if_false, List.mem_cons, mutIds, rrows_nil]
end Go.Proofs.YtihbammfchnjgaaDoor.F

/- Slices that are searched, and of which rows are taken out. No condition. -/
set_option linter.unusedSimpArgs false
namespace Go.Proofs.YtihbammfchnjgaaDoor.F
open Go Go.Proofs.YtihbammfchnjgaaDoor.A Go.Proofs.YtihbammfchnjgaaDoor.D
theorem r94 {ys : List Hd} {bs : List Blk} {pend : List (Option AExit)} {v : AV} {l : List Pfx} {P : Pfx → Bool} {g : FuncId} {caps : List AV} (hl : l.length ≤ 4611686018427387904) (hv : SlV bs 18 v (l.map pav)) (hp : PredG E pav g caps P bs) (hlow : belowAll bs.length bs = true) (hc : belowL bs.length caps = true) :
    LR E ys 94 [v, .clo g caps] ⟨bs, pend⟩ = some (.int .i64 (idxR P l 0), ⟨bs, pend⟩) := by
  have huf := hv.uf
  have hlen := hv.len
  have hlo := hv.low
  rw [List.length_map] at hlen
  rw [LR_R (fn := f94) rfl rfl rfl]
  simp only [f94, RB, pickV, eqbV, notV, negV, convV, faddrV, fldV, idxV, eqaggV, isnilV, nilckV, cloV, extrV, slenV, minV, sidxV, abin, cmpInt, params, growLists, fillCells, newAt, AV.cells, asVal, boundOf, argIds, freshIn, scalar1, setAll, AV.isData, AV.isYld, Nat.reduceAdd, Nat.reduceMul, Nat.reduceSub, Nat.reduceEqDiff, Nat.reduceLeDiff, Nat.reduceLT, Int.reduceNeg, ↓reduceIte, reduceCtorEq, Int.reduceEq, Int.reduceLT, Int.reduceLE, Int.reduceBEq, Int.reduceBNe, Int.reduceToNat, IntKind.bits, Int.reduceAdd, Int.reduceSub, Int.reduceMul, Int.reduceTDiv, Int.reduceTMod, huf, hlen]
  refine (W_rec (ι := Nat) (M := fun k => [(0, v), (1, .clo g caps), (7, .int .i64 (l.length : Int)), (8, .int .i64 (k : Int))]) (H := fun _ => ⟨bs, pend⟩) (r := fun k => some ((AV.int .i64 (idxR P (l.drop k) k), ⟨bs, pend⟩) : AV × Hp)) (μ := fun k => l.length - k) (fun i => ?_) (fun k ih => ?_) 0)
  · exact ⟨by simp only [List.map_cons, List.map_nil, LPB, hlo, hc, Bool.and_self], hlow⟩
  · by_cases hk : k < l.length
    · have f1 : (k : Int) < (l.length : Int) := by omega
      have f6 : IntKind.i64.wrap ((k : Int) + 1) = ((k + 1 : Nat) : Int) := by rw [IntWalk.i64_in _ (by omega)] <;> omega
      obtain ⟨p, g1, g2⟩ := hv.get [] k (by simpa using hk)
      have g3 := g2 []
      rw [List.append_nil] at g1 g3
      rw [List.getElem?_map, List.getElem?_eq_getElem hk] at g3
      obtain ⟨ext, hpr⟩ := hp ys pend [] l[k]
      rw [List.append_nil] at hpr
      have hsh : shrink false bs.length (.bool (P l[k])) ⟨bs ++ ext, pend⟩ = some ⟨bs, pend⟩ := shrink_app rfl rfl hlow
      have e : idxR P (l.drop k) k = if P l[k] then (k : Int) else idxR P (l.drop (k + 1)) (k + 1) := by
        rw [List.drop_eq_getElem_cons hk, idxR]
      rw [e]
      cases hP : P l[k] with
      | true =>
        rw [hP] at hpr hsh
        simp only [RB, pickV, eqbV, notV, negV, convV, faddrV, fldV, idxV, eqaggV, isnilV, nilckV, cloV, extrV, slenV, minV, sidxV, abin, cmpInt, params, growLists, fillCells, newAt, AV.cells, asVal, boundOf, argIds, freshIn, scalar1, setAll, AV.isData, AV.isYld, Nat.reduceAdd, Nat.reduceMul, Nat.reduceSub, Nat.reduceEqDiff, Nat.reduceLeDiff, Nat.reduceLT, Int.reduceNeg, ↓reduceIte, reduceCtorEq, Int.reduceEq, Int.reduceLT, Int.reduceLE, Int.reduceBEq, Int.reduceBNe, Int.reduceToNat, IntKind.bits, Int.reduceAdd, Int.reduceSub, Int.reduceMul, Int.reduceTDiv, Int.reduceTMod, f1, huf, g1, g3, hpr, hsh]
      | false =>
        rw [hP] at hpr hsh
        simp only [RB, pickV, eqbV, notV, negV, convV, faddrV, fldV, idxV, eqaggV, isnilV, nilckV, cloV, extrV, slenV, minV, sidxV, abin, cmpInt, params, growLists, fillCells, newAt, AV.cells, asVal, boundOf, argIds, freshIn, scalar1, setAll, AV.isData, AV.isYld, Nat.reduceAdd, Nat.reduceMul, Nat.reduceSub, Nat.reduceEqDiff, Nat.reduceLeDiff, Nat.reduceLT, Int.reduceNeg, ↓reduceIte, reduceCtorEq, Int.reduceEq, Int.reduceLT, Int.reduceLE, Int.reduceBEq, Int.reduceBNe, Int.reduceToNat, IntKind.bits, Int.reduceAdd, Int.reduceSub, Int.reduceMul, Int.reduceTDiv, Int.reduceTMod, f1, f6, huf, g1, g3, hpr, hsh, List.take_length]
        exact ih (k + 1) (by omega)
    · simp only [RB, pickV, eqbV, notV, negV, convV, faddrV, fldV, idxV, eqaggV, isnilV, nilckV, cloV, extrV, slenV, minV, sidxV, abin, cmpInt, params, growLists, fillCells, newAt, AV.cells, asVal, boundOf, argIds, freshIn, scalar1, setAll, AV.isData, AV.isYld, Nat.reduceAdd, Nat.reduceMul, Nat.reduceSub, Nat.reduceEqDiff, Nat.reduceLeDiff, Nat.reduceLT, Int.reduceNeg, ↓reduceIte, reduceCtorEq, Int.reduceEq, Int.reduceLT, Int.reduceLE, Int.reduceBEq, Int.reduceBNe, Int.reduceToNat, IntKind.bits, Int.reduceAdd, Int.reduceSub, Int.reduceMul, Int.reduceTDiv, Int.reduceTMod, show ¬ (k : Int) < (l.length : Int) by omega]
      rw [List.drop_eq_nil_of_le (by omega)]; rfl
theorem r85 {ys : List Hd} {bs : List Blk} {pend : List (Option AExit)} {v : AV} {l : List Rw} {P : Rw → Bool} {g : FuncId} {caps : List AV} (hl : l.length ≤ 4611686018427387904) (hv : SlV bs 19 v (l.map rav)) (hp : PredG E rav g caps P bs) (hlow : belowAll bs.length bs = true) (hc : belowL bs.length caps = true) :
    LR E ys 85 [v, .clo g caps] ⟨bs, pend⟩ = some (.int .i64 (idxR P l 0), ⟨bs, pend⟩) := by
  have huf := hv.uf
  have hlen := hv.len
  have hlo := hv.low
  rw [List.length_map] at hlen
  rw [LR_R (fn := f85) rfl rfl rfl]
  simp only [f85, RB, pickV, eqbV, notV, negV, convV, faddrV, fldV, idxV, eqaggV, isnilV, nilckV, cloV, extrV, slenV, minV, sidxV, abin, cmpInt, params, growLists, fillCells, newAt, AV.cells, asVal, boundOf, argIds, freshIn, scalar1, setAll, AV.isData, AV.isYld, Nat.reduceAdd, Nat.reduceMul, Nat.reduceSub, Nat.reduceEqDiff, Nat.reduceLeDiff, Nat.reduceLT, Int.reduceNeg, ↓reduceIte, reduceCtorEq, Int.reduceEq, Int.reduceLT, Int.reduceLE, Int.reduceBEq, Int.reduceBNe, Int.reduceToNat, IntKind.bits, Int.reduceAdd, Int.reduceSub, Int.reduceMul, Int.reduceTDiv, Int.reduceTMod, huf, hlen]
  refine (W_rec (ι := Nat) (M := fun k => [(0, v), (1, .clo g caps), (7, .int .i64 (l.length : Int)), (8, .int .i64 (k : Int))]) (H := fun _ => ⟨bs, pend⟩) (r := fun k => some ((AV.int .i64 (idxR P (l.drop k) k), ⟨bs, pend⟩) : AV × Hp)) (μ := fun k => l.length - k) (fun i => ?_) (fun k ih => ?_) 0)
  · exact ⟨by simp only [List.map_cons, List.map_nil, LPB, hlo, hc, Bool.and_self], hlow⟩
  · by_cases hk : k < l.length
    · have f1 : (k : Int) < (l.length : Int) := by omega
      have f6 : IntKind.i64.wrap ((k : Int) + 1) = ((k + 1 : Nat) : Int) := by rw [IntWalk.i64_in _ (by omega)] <;> omega
      obtain ⟨p, g1, g2⟩ := hv.get [] k (by simpa using hk)
      have g3 := g2 []
      rw [List.append_nil] at g1 g3
      rw [List.getElem?_map, List.getElem?_eq_getElem hk] at g3
      obtain ⟨ext, hpr⟩ := hp ys pend [] l[k]
      rw [List.append_nil] at hpr
      have hsh : shrink false bs.length (.bool (P l[k])) ⟨bs ++ ext, pend⟩ = some ⟨bs, pend⟩ := shrink_app rfl rfl hlow
      have e : idxR P (l.drop k) k = if P l[k] then (k : Int) else idxR P (l.drop (k + 1)) (k + 1) := by
        rw [List.drop_eq_getElem_cons hk, idxR]
      rw [e]
      cases hP : P l[k] with
      | true =>
        rw [hP] at hpr hsh
        simp only [RB, pickV, eqbV, notV, negV, convV, faddrV, fldV, idxV, eqaggV, isnilV, nilckV, cloV, extrV, slenV, minV, sidxV, abin, cmpInt, params, growLists, fillCells, newAt, AV.cells, asVal, boundOf, argIds, freshIn, scalar1, setAll, AV.isData, AV.isYld, Nat.reduceAdd, Nat.reduceMul, Nat.reduceSub, Nat.reduceEqDiff, Nat.reduceLeDiff, Nat.reduceLT, Int.reduceNeg, ↓reduceIte, reduceCtorEq, Int.reduceEq, Int.reduceLT, Int.reduceLE, Int.reduceBEq, Int.reduceBNe, Int.reduceToNat, IntKind.bits, Int.reduceAdd, Int.reduceSub, Int.reduceMul, Int.reduceTDiv, Int.reduceTMod, f1, huf, g1, g3, hpr, hsh]
      | false =>
        rw [hP] at hpr hsh
        simp only [RB, pickV, eqbV, notV, negV, convV, faddrV, fldV, idxV, eqaggV, isnilV, nilckV, cloV, extrV, slenV, minV, sidxV, abin, cmpInt, params, growLists, fillCells, newAt, AV.cells, asVal, boundOf, argIds, freshIn, scalar1, setAll, AV.isData, AV.isYld, Nat.reduceAdd, Nat.reduceMul, Nat.reduceSub, Nat.reduceEqDiff, Nat.reduceLeDiff, Nat.reduceLT, Int.reduceNeg, ↓reduceIte, reduceCtorEq, Int.reduceEq, Int.reduceLT, Int.reduceLE, Int.reduceBEq, Int.reduceBNe, Int.reduceToNat, IntKind.bits, Int.reduceAdd, Int.reduceSub, Int.reduceMul, Int.reduceTDiv, Int.reduceTMod, f1, f6, huf, g1, g3, hpr, hsh, List.take_length]
        exact ih (k + 1) (by omega)
    · simp only [RB, pickV, eqbV, notV, negV, convV, faddrV, fldV, idxV, eqaggV, isnilV, nilckV, cloV, extrV, slenV, minV, sidxV, abin, cmpInt, params, growLists, fillCells, newAt, AV.cells, asVal, boundOf, argIds, freshIn, scalar1, setAll, AV.isData, AV.isYld, Nat.reduceAdd, Nat.reduceMul, Nat.reduceSub, Nat.reduceEqDiff, Nat.reduceLeDiff, Nat.reduceLT, Int.reduceNeg, ↓reduceIte, reduceCtorEq, Int.reduceEq, Int.reduceLT, Int.reduceLE, Int.reduceBEq, Int.reduceBNe, Int.reduceToNat, IntKind.bits, Int.reduceAdd, Int.reduceSub, Int.reduceMul, Int.reduceTDiv, Int.reduceTMod, show ¬ (k : Int) < (l.length : Int) by omega]
      rw [List.drop_eq_nil_of_le (by omega)]; rfl
theorem r77 {ys : List Hd} {bs : List Blk} {pend : List (Option AExit)} {v : AV} {l : List Pfx} {P : Pfx → Bool} {g : FuncId} {caps : List AV} (hl : l.length ≤ 4611686018427387904) (hv : SlV bs 18 v (l.map pav)) (hp : PredG E pav g caps P bs) (hlow : belowAll bs.length bs = true) (hc : belowL bs.length caps = true) :
    LR E ys 77 [v, .clo g caps] ⟨bs, pend⟩ = some (.bool (l.any P), ⟨bs, pend⟩) := by
  rw [LR_R (fn := f77) rfl rfl rfl]
  have h := fun ys => r94 (ys := ys) (pend := pend) hl hv hp hlow hc
  have hsh : ∀ n, shrink false bs.length (.int .i64 n) ⟨bs, pend⟩ = some ⟨bs, pend⟩ := fun n => shrink_id rfl rfl hlow
  simp only [f77, RB, pickV, eqbV, notV, negV, convV, faddrV, fldV, idxV, eqaggV, iaddrV, isnilV, nilckV, cloV, extrV, slenV, minV, sidxV, abin, cmpInt, params, growLists, fillCells, newAt, rdPtr, wrPtr, AV.cells, asVal, lenOf, boundOf, rowsOf, argIds, freshIn, scalar1, setAll, AV.isData, AV.isYld, Nat.reduceAdd, Nat.reduceMul, Nat.reduceSub, Nat.reduceEqDiff, Nat.reduceLeDiff, Nat.reduceLT, Int.reduceNeg, ↓reduceIte, reduceCtorEq, Int.reduceEq, Int.reduceLT, Int.reduceLE, Int.reduceBEq, Int.reduceBNe, Int.reduceToNat, IntKind.bits, Int.reduceAdd, Int.reduceSub, Int.reduceMul, Int.reduceTDiv, Int.reduceTMod, hv.uf, h, hsh]
  congr 3
  cases hP : l.any P with
  | false => rw [idxR_none hP]; rfl
  | true =>
    obtain ⟨i, h1, _⟩ := idxR_some (k := 0) hP
    rw [h1]; simp
theorem r79 {ys : List Hd} {bs : List Blk} {pend : List (Option AExit)} {id gen n : Nat} {l : List Pfx} {P : Pfx → Bool} {g : FuncId} {caps : List AV} (hl : l.length ≤ 1000000) (hn : l.length = n) (hb : bs[id]? = some (.lst 0 gen 32 18 (l.map pav))) (hp : ∀ Y, PredG E pav g caps P (bs.set id (.lst 0 gen 32 18 Y))) (hlow : belowAll bs.length bs = true) (hc : belowL bs.length caps = true) :
    ∃ z r, LR E ys 79 [.lis id gen 0 n, .clo g caps] ⟨bs, pend⟩ = some (.lis id gen 0 (l.filter fun x => !P x).length, ⟨bs.set id (.lst 0 gen 32 18 (((l.filter fun x => !P x) ++ z).map pav)) ++ r, pend⟩) := by
  subst hn
  have hid := (List.getElem?_eq_some_iff.1 hb).1
  have hself : bs.set id (.lst 0 gen 32 18 (l.map pav)) = bs := by
    rw [List.getElem?_eq_getElem hid] at hb
    rw [← Option.some.inj hb, List.set_getElem_self]
  have hlow0 : ∀ Y, belowAll bs.length (bs.set id (.lst 0 gen 32 18 Y)) = true := fun Y => by
    unfold belowAll at *
    rw [List.all_eq_true] at *
    intro b hb
    rcases List.mem_or_eq_of_mem_set hb with h | rfl
    · exact hlow b h
    · rfl
  have hlowS : ∀ m Y, bs.length ≤ m → belowAll m (bs.set id (.lst 0 gen 32 18 Y)) = true := fun m Y h => belowAll_mono h (hlow0 Y)
  have hix := r94 (ys := ys) (pend := pend) (bs := bs ++ [Blk.lst 0 0 32 18 []]) (v := .lis id gen 0 l.length) (l := l) (P := P) (g := g) (caps := caps) (by omega) (SlV.lis (get_lt hb) (by simp) (by simp [pav_len])) (fun ys pend ext x => by
    have := hp (l.map pav) ys pend ([Blk.lst 0 0 32 18 []] ++ ext) x
    rw [hself] at this
    simpa only [List.append_assoc] using this) (by rw [ball_app, belowAll_mono (by simp) hlow]; rfl) (belowL_mono (by simp) _ hc)
  rw [LR_R (fn := f79) rfl rfl rfl]
  simp only [f79, ← pav_zer, RB, pickV, eqbV, notV, negV, convV, faddrV, fldV, idxV, eqaggV, iaddrV, isnilV, nilckV, cloV, extrV, slenV, minV, sidxV, abin, cmpInt, params, growLists, fillCells, newAt, rdPtr, wrPtr, AV.cells, asVal, lenOf, boundOf, rowsOf, argIds, freshIn, scalar1, setAll, AV.isData, AV.isYld, Nat.reduceAdd, Nat.reduceMul, Nat.reduceSub, Nat.reduceEqDiff, Nat.reduceLeDiff, Nat.reduceLT, Int.reduceNeg, ↓reduceIte, reduceCtorEq, Int.reduceEq, Int.reduceLT, Int.reduceLE, Int.reduceBEq, Int.reduceBNe, Int.reduceToNat, IntKind.bits, Int.reduceAdd, Int.reduceSub, Int.reduceMul, Int.reduceTDiv, Int.reduceTMod, R7B]
  have hsh : ∀ m, shrink false (bs ++ [Blk.lst 0 0 32 18 []]).length (.int .i64 m) ⟨bs ++ [Blk.lst 0 0 32 18 []], pend⟩ = some ⟨bs ++ [Blk.lst 0 0 32 18 []], pend⟩ := fun m => shrink_id rfl rfl (by rw [ball_app, belowAll_mono (by simp) hlow]; rfl)
  cases hP : l.any P with
  | false =>
    rw [idxR_none hP] at hix
    simp only [RB, pickV, eqbV, notV, negV, convV, faddrV, fldV, idxV, eqaggV, iaddrV, isnilV, nilckV, cloV, extrV, slenV, minV, sidxV, abin, cmpInt, params, growLists, fillCells, newAt, rdPtr, wrPtr, AV.cells, asVal, lenOf, boundOf, rowsOf, argIds, freshIn, scalar1, setAll, AV.isData, AV.isYld, Nat.reduceAdd, Nat.reduceMul, Nat.reduceSub, Nat.reduceEqDiff, Nat.reduceLeDiff, Nat.reduceLT, Int.reduceNeg, ↓reduceIte, reduceCtorEq, Int.reduceEq, Int.reduceLT, Int.reduceLE, Int.reduceBEq, Int.reduceBNe, Int.reduceToNat, IntKind.bits, Int.reduceAdd, Int.reduceSub, Int.reduceMul, Int.reduceTDiv, Int.reduceTMod, R7B, hix, hsh]
    have e : (l.filter fun x => !P x) = l := List.filter_eq_self.2 fun x hx => by
      have := List.any_eq_false.1 hP x hx
      simpa using this
    rw [e]
    exact ⟨[], [Blk.lst 0 0 32 18 []], by rw [List.append_nil, hself]⟩
  | true =>
    obtain ⟨i0, hi, hi1, hi2, hi3⟩ := idxR_some (k := 0) hP
    rw [Nat.zero_add] at hi
    rw [hi] at hix
    have f0 : ((i0 : Int) == -1) = false := by rw [beq_eq_false_iff_ne]; omega
    have f6 : IntKind.i64.wrap ((i0 : Int) + 1) = ((i0 + 1 : Nat) : Int) := by rw [IntWalk.i64_in _ (by omega)] <;> omega
    simp only [RB, pickV, eqbV, notV, negV, convV, faddrV, fldV, idxV, eqaggV, iaddrV, isnilV, nilckV, cloV, extrV, slenV, minV, sidxV, abin, cmpInt, params, growLists, fillCells, newAt, rdPtr, wrPtr, AV.cells, asVal, lenOf, boundOf, rowsOf, argIds, freshIn, scalar1, setAll, AV.isData, AV.isYld, Nat.reduceAdd, Nat.reduceMul, Nat.reduceSub, Nat.reduceEqDiff, Nat.reduceLeDiff, Nat.reduceLT, Int.reduceNeg, ↓reduceIte, reduceCtorEq, Int.reduceEq, Int.reduceLT, Int.reduceLE, Int.reduceBEq, Int.reduceBNe, Int.reduceToNat, IntKind.bits, Int.reduceAdd, Int.reduceSub, Int.reduceMul, Int.reduceTDiv, Int.reduceTMod, R7B, hix, hsh, f0, f6]
    simp only [List.length_append, List.length_cons, List.length_nil, Nat.zero_add]
    have eF : ((l.take (i0 + 1)).filter fun x => !P x) = l.take i0 := by
      rw [List.take_add_one, List.getElem?_eq_getElem hi1, Option.toList_some, List.filter_append]
      have h1 : ((l.take i0).filter fun x => !P x) = l.take i0 := List.filter_eq_self.2 fun x hx => by
        have := List.any_eq_false.1 hi3 x hx
        simpa using this
      rw [h1]; simp [hi2]
    have hQ : ∀ j (ms : List Pfx), j ≤ l.length → ((l.take j).filter fun x => !P x).length + ms.length = j → (((l.take j).filter fun x => !P x) ++ ms ++ l.drop j).length = l.length := fun j ms h h' => by
      simp only [List.length_append, List.length_drop]; omega
    refine W_recP2 (ι := {s : Nat × List Pfx // s.1 ≤ l.length ∧ 0 < s.2.length ∧ ((l.take s.1).filter fun x => !P x).length + s.2.length = s.1})
      (Q := fun s x => ∃ z r, x = some ((AV.lis id gen 0 (l.filter fun x => !P x).length, ⟨bs.set id (.lst 0 gen 32 18 (((l.filter fun x => !P x) ++ z).map pav)) ++ r, pend⟩) : AV × Hp))
      (M := fun s => [(0, .lis id gen 0 l.length), (1, .clo g caps), (5, .int .i64 (((l.take s.1.1).filter fun x => !P x).length : Int)), (6, .int .i64 (s.1.1 : Int))])
      (H := fun s => ⟨bs.set id (.lst 0 gen 32 18 ((((l.take s.1.1).filter fun x => !P x) ++ s.1.2 ++ l.drop s.1.1).map pav)) ++ [Blk.lst 0 0 32 18 []], pend⟩)
      (μ := fun s => l.length - s.1.1) (fun s => ?_) (fun s ih => ?_) ⟨(i0 + 1, [l[i0]]), by omega, by simp, by rw [eF]; simp; omega⟩ ?_ ?_
    · refine ⟨?_, ?_⟩
      · have h1 : id < bs.length + 1 := by omega
        simp only [List.map_cons, List.map_nil, LPB, List.length_append, List.length_cons, List.length_nil, Nat.zero_add, belowL_mono (show bs.length ≤ bs.length + 1 by omega) _ hc, h1, decide_true, Bool.and_self]
      · rw [ball_app, hlowS _ _ (by omega)]; rfl
    · obtain ⟨⟨j, ms⟩, hj, hms, hjm⟩ := s
      simp only at ih hj hms hjm ⊢
      generalize hF : ((l.take j).filter fun x => !P x) = F at *
      have hql := hQ j ms hj (by rw [hF]; exact hjm)
      rw [hF] at hql
      by_cases hk : j < l.length
      · have f1 : (j : Int) < (l.length : Int) := by omega
        have f2 : (0 : Int) ≤ (j : Int) := by omega
        have f3 : (0 : Int) ≤ (F.length : Int) := by omega
        have f4 : F.length < l.length := by omega
        have f5 : IntKind.i64.wrap ((j : Int) + 1) = ((j + 1 : Nat) : Int) := by rw [IntWalk.i64_in _ (by omega)] <;> omega
        have f7 : IntKind.i64.wrap ((F.length : Int) + 1) = ((F.length + 1 : Nat) : Int) := by rw [IntWalk.i64_in _ (by omega)] <;> omega
        have edrop : l.drop j = l[j] :: l.drop (j + 1) := List.drop_eq_getElem_cons hk
        have etake : ((l.take (j + 1)).filter fun x => !P x) = if P l[j] then F else F ++ [l[j]] := by
          rw [List.take_add_one, List.getElem?_eq_getElem hk, Option.toList_some, List.filter_append, hF]
          cases hPj : P l[j] <;> simp [hPj]
        have g1 : ((F ++ (ms ++ l.drop j)).map pav)[j]? = some (pav l[j]) := by
          rw [← List.append_assoc, List.getElem?_map, List.getElem?_append_right (by simp; omega)]
          rw [show j - (F ++ ms).length = 0 by simp; omega, edrop]; rfl
        have hSset : ∀ r Y, (bs.set id (.lst 0 gen 32 18 ((F ++ ms ++ l.drop j).map pav)) ++ r).set id Y = bs.set id Y ++ r := fun r Y => by
          rw [setK_in (by simpa using hid), List.set_set]
        generalize hS : bs.set id (.lst 0 gen 32 18 ((F ++ ms ++ l.drop j).map pav)) = S at hSset
        have hSl : S.length = bs.length := by rw [← hS]; simp
        have hSid : ∀ r, (S ++ r)[id]? = some (.lst 0 gen 32 18 ((F ++ (ms ++ l.drop j)).map pav)) := fun r => by rw [← List.append_assoc, ← hS]; exact setK_self hid r
        have hSlow : ∀ m, bs.length ≤ m → belowAll m S = true := fun m h => by rw [← hS]; exact hlowS m _ h
        obtain ⟨ext, hpr⟩ := hp ((F ++ ms ++ l.drop j).map pav) ys pend [Blk.lst 0 0 32 18 [], Blk.box 0 32 (pav l[j])] l[j]
        rw [hS] at hpr
        have hsh2 : shrink false (bs.length + 2) (.bool (P l[j])) ⟨(S ++ [Blk.lst 0 0 32 18 [], Blk.box 0 32 (pav l[j])]) ++ ext, pend⟩ = some ⟨S ++ [Blk.lst 0 0 32 18 [], Blk.box 0 32 (pav l[j])], pend⟩ := shrink_app (by simp [hSl]) rfl (by rw [ball_app, hSlow _ (by omega)]; simp only [LPB, Bool.and_self])
        simp only [List.append_assoc, List.cons_append, List.nil_append] at hpr hsh2
        have hhd : headFits 18 [pav l[j]] = true := by simp [headFits, pav_len]
        cases hPj : P l[j] with
        | true =>
          rw [hPj] at hpr hsh2 etake
          have ih := ih ⟨(j + 1, ms ++ [l[j]]), by omega, by simp, by simp only [etake, if_true]; simp; omega⟩ (by simp only; omega)
          simp only [etake, if_true] at ih
          rw [show F ++ (ms ++ [l[j]]) ++ l.drop (j + 1) = F ++ ms ++ l.drop j by rw [edrop]; simp, hS] at ih
          simp only [RB, pickV, eqbV, notV, negV, convV, faddrV, fldV, idxV, eqaggV, iaddrV, isnilV, nilckV, cloV, extrV, slenV, minV, sidxV, abin, cmpInt, params, growLists, fillCells, newAt, rdPtr, wrPtr, AV.cells, asVal, lenOf, boundOf, rowsOf, argIds, freshIn, scalar1, setAll, AV.isData, AV.isYld, Nat.reduceAdd, Nat.reduceMul, Nat.reduceSub, Nat.reduceEqDiff, Nat.reduceLeDiff, Nat.reduceLT, Int.reduceNeg, ↓reduceIte, reduceCtorEq, Int.reduceEq, Int.reduceLT, Int.reduceLE, Int.reduceBEq, Int.reduceBNe, Int.reduceToNat, IntKind.bits, Int.reduceAdd, Int.reduceSub, Int.reduceMul, Int.reduceTDiv, Int.reduceTMod, DB, DB2, R7B, f1, f2, f5, lisFits, hSid, g1, List.append_assoc, List.length_append, hSl, Nat.add_assoc, hk, hpr, hsh2, take_add hSl]
          exact ih
        | false =>
          rw [hPj] at hpr hsh2 etake
          obtain ⟨m0, ms', rfl⟩ : ∃ m0 ms', ms = m0 :: ms' := by cases ms with
            | nil => simp at hms
            | cons a b => exact ⟨a, b, rfl⟩
          have g4 : ((F ++ (m0 :: ms' ++ l.drop j)).map pav)[F.length]? = some (pav m0) := by simp
          have g5 : ((F ++ (m0 :: ms' ++ l.drop j)).map pav).set F.length (pav l[j]) = (F ++ [l[j]] ++ (ms' ++ [l[j]]) ++ l.drop (j + 1)).map pav := by
            rw [edrop, List.map_append, show F.length = (F.map pav).length by simp, List.set_append_right _ _ (Nat.le_refl _)]; simp
          have ih := ih ⟨(j + 1, ms' ++ [l[j]]), by omega, by simp, by simp only [etake, Bool.false_eq_true, if_false]; simp at hjm ⊢; omega⟩ (by simp only; omega)
          simp only [etake, Bool.false_eq_true, if_false, List.length_append, List.length_cons, List.length_nil, Nat.zero_add] at ih
          rw [← g5] at ih
          simp only [List.cons_append] at g1 g4 hSid ih
          have hBt : ∀ Y r i, (bs.set id Y ++ r).take (bs.length + i) = bs.set id Y ++ r.take i := fun Y r i => take_add (by simp)
          simp only [RB, pickV, eqbV, notV, negV, convV, faddrV, fldV, idxV, eqaggV, iaddrV, isnilV, nilckV, cloV, extrV, slenV, minV, sidxV, abin, cmpInt, params, growLists, fillCells, newAt, rdPtr, wrPtr, AV.cells, asVal, lenOf, boundOf, rowsOf, argIds, freshIn, scalar1, setAll, AV.isData, AV.isYld, Nat.reduceAdd, Nat.reduceMul, Nat.reduceSub, Nat.reduceEqDiff, Nat.reduceLeDiff, Nat.reduceLT, Int.reduceNeg, ↓reduceIte, reduceCtorEq, Int.reduceEq, Int.reduceLT, Int.reduceLE, Int.reduceBEq, Int.reduceBNe, Int.reduceToNat, IntKind.bits, Int.reduceAdd, Int.reduceSub, Int.reduceMul, Int.reduceTDiv, Int.reduceTMod, DB, DB2, R7B, f1, f2, f3, f4, f5, f7, lisFits, hSid, g1, List.append_assoc, List.length_append, hSl, Nat.add_assoc, hk, hpr, hsh2, take_add hSl, List.cons_append, g4, hSset, hBt]
          exact ih
      · have : j = l.length := by omega
        subst this
        simp only [List.take_length, List.drop_length, List.append_nil] at *
        generalize hS : bs.set id (.lst 0 gen 32 18 ((F ++ ms).map pav)) = S
        have hSid : ∀ r, (S ++ r)[id]? = some (.lst 0 gen 32 18 ((F ++ ms).map pav)) := fun r => by rw [← hS]; exact setK_self hid r
        have hSset : ∀ r Y, (S ++ r).set id Y = bs.set id Y ++ r := fun r Y => by
          rw [← hS, setK_in (by simpa using hid), List.set_set]
        have hBid : ∀ Y r, (bs.set id Y ++ r)[id]? = some Y := fun Y r => setK_self hid r
        simp only [RB, pickV, eqbV, notV, negV, convV, faddrV, fldV, idxV, eqaggV, iaddrV, isnilV, nilckV, cloV, extrV, slenV, minV, sidxV, abin, cmpInt, params, growLists, fillCells, newAt, rdPtr, wrPtr, AV.cells, asVal, lenOf, boundOf, rowsOf, argIds, freshIn, scalar1, setAll, AV.isData, AV.isYld, Nat.reduceAdd, Nat.reduceMul, Nat.reduceSub, Nat.reduceEqDiff, Nat.reduceLeDiff, Nat.reduceLT, Int.reduceNeg, ↓reduceIte, reduceCtorEq, Int.reduceEq, Int.reduceLT, Int.reduceLE, Int.reduceBEq, Int.reduceBNe, Int.reduceToNat, IntKind.bits, Int.reduceAdd, Int.reduceSub, Int.reduceMul, Int.reduceTDiv, Int.reduceTMod, DB, DB2, R7B, hBid, show ¬ (l.length : Int) < (l.length : Int) by omega, aslice, lisFits, hSid, hSset, aop, show F.length ≤ l.length by omega, show F.length + (l.length - F.length) ≤ (F ++ ms).length by omega, List.length_map, pav_len, pav_data, List.length_append, show F.length + (l.length - F.length) ≤ F.length + ms.length by omega, ]
        refine ⟨List.replicate (l.length - F.length) zerP, [Blk.lst 0 0 32 18 []], ?_⟩
        rw [hF, show F.length + (l.length - F.length) = ((F ++ ms).map pav).length by simp; omega, List.drop_length, List.append_nil, List.map_append, List.map_append, List.map_replicate, show F.length = (F.map pav).length by simp, List.take_left]
    · simp only [eF, List.length_take, Nat.min_eq_left (Nat.le_of_lt hi1)]
    · simp only [eF]
      rw [show l.take i0 ++ [l[i0]] ++ l.drop (i0 + 1) = l by rw [List.append_assoc, List.singleton_append, ← List.drop_eq_getElem_cons hi1, List.take_append_drop], hself]
end Go.Proofs.YtihbammfchnjgaaDoor.F

/- The first free prefix, by the program. No condition. -/
set_option linter.unusedSimpArgs false
namespace Go.Proofs.YtihbammfchnjgaaDoor.D
open Go Go.Proofs.YtihbammfchnjgaaDoor.A
def prows (l : List Pfx) : List (List AV) := l.map pav
theorem prows_len (l : List Pfx) : (prows l).length = l.length := by simp [prows]
theorem prows_map (l : List Pfx) : l.map pav = prows l := rfl
/-- The halves of a prefix. -/
def zbit (q : Pfx) : Pfx := ⟨q.adr, q.bits + 1⟩
def obit (q : Pfx) : Pfx := ⟨⟨q.adr.ver, q.adr.b.put (q.bits.toNat / 8) (q.adr.b.get (q.bits.toNat / 8) ||| 128 / 2 ^ (q.bits.toNat % 8))⟩, q.bits + 1⟩
def freeS (bits : Int) : Nat → List Pfx → Pfx → Option Pfx
  | 0, l, q => if l.any (fun x => decide (Holds x q)) then none else
      if (l.filter (fun x => decide (Holds q x))).length = 0 then (if ofE q.adr bits = 0 then some (ofP q.adr bits) else none) else none
  | n + 1, l, q => if l.any (fun x => decide (Holds x q)) then none else
      if (l.filter (fun x => decide (Holds q x))).length = 0 then (if ofE q.adr bits = 0 then some (ofP q.adr bits) else none) else
        match freeS bits n (l.filter (fun x => decide (Holds q x))) (zbit q) with
        | some f => some f
        | none => freeS bits n (l.filter (fun x => decide (Holds q x))) (obit q)
theorem ofP_err {a : Adr} {n : Int} (h : ofE a n ≠ 0) : ofP a n = zerP := by
  unfold ofE at h; unfold ofP
  by_cases h1 : AddrOk a
  · by_cases h2 : 0 ≤ n ∧ n ≤ width a.ver
    · simp [h1, h2] at h
    · rw [if_neg fun h3 => h2 h3.2]
  · rw [if_neg fun h3 => h1 h3.1]
theorem freeS_eq (bits : Int) (n : Nat) (l : List Pfx) (q : Pfx) : freeS bits n l q = if l.any (fun x => decide (Holds x q)) then none else
      if (l.filter (fun x => decide (Holds q x))).length = 0 then (if ofE q.adr bits = 0 then some (ofP q.adr bits) else none) else match n with
        | 0 => none
        | m + 1 => match freeS bits m (l.filter (fun x => decide (Holds q x))) (zbit q) with
          | some f => some f
          | none => freeS bits m (l.filter (fun x => decide (Holds q x))) (obit q) := by cases n <;> rfl
theorem or128 (x j : Nat) (hx : x < 256) (hj : j < 8) : bits2 .or .u8 (x : Int) ((128 / 2 ^ j : Nat) : Int) = some ((x ||| 128 / 2 ^ j : Nat) : Int) ∧ (x ||| 128 / 2 ^ j) < 256 := by
  have : ∀ x < 256, ∀ j < 8, bits2 .or .u8 ((x : Nat) : Int) ((128 / 2 ^ j : Nat) : Int) = some ((x ||| 128 / 2 ^ j : Nat) : Int) ∧ (x ||| 128 / 2 ^ j) < 256 := by decide +kernel
  exact this x hx j hj
end Go.Proofs.YtihbammfchnjgaaDoor.D
namespace Go.Proofs.YtihbammfchnjgaaDoor.F
open Go Go.Proofs.YtihbammfchnjgaaDoor.A Go.Proofs.YtihbammfchnjgaaDoor.D
theorem e80 (l : List Pfx) (hl : l.length ≤ 1000000) : LV E 80 [.ro (prows l)] = some (.fresh 32 18 (prows l)) := by
  rw [LV_prim (p := pClone 32 18 32) rfl]
  have h : ((prows l).all fun r => r.length == 18) = true := by
    rw [List.all_eq_true]; intro r hr
    obtain ⟨p, _, rfl⟩ := List.mem_map.1 hr
    simp [pav_len]
  have h2 : (prows l).length * 32 ≤ 140737488355328 := by rw [prows_len]; omega
  simp only [pClone, rowsOf, h, h2, true_and, show 0 < 18 by omega, and_self, if_true, Option.bind_some, expRes_lis, expCell, List.getElem?_cons_zero, Nat.zero_add, Nat.le_refl, List.drop_zero, List.take_length]
theorem pred78 {bs : List Blk} {a lk e : Nat} {q : Pfx} (h : bs[a]? = some (.box lk e (pav q))) : PredG E pav 78 [.ptr a 0 0 0] (fun x => decide (Holds x q)) bs := fun ys pend ext x => by
  have g : ∀ r, ((bs ++ ext) ++ r)[a]? = some (.box lk e (pav q)) := fun r => get_lt (get_lt h)
  rw [LR_R (fn := f78) rfl rfl rfl]
  simp only [f78, RB, pickV, eqbV, notV, negV, convV, faddrV, fldV, idxV, eqaggV, iaddrV, isnilV, nilckV, cloV, extrV, slenV, minV, sidxV, abin, cmpInt, params, growLists, fillCells, newAt, rdPtr, wrPtr, AV.cells, asVal, lenOf, boundOf, rowsOf, argIds, freshIn, scalar1, setAll, AV.isData, AV.isYld, Nat.reduceAdd, Nat.reduceMul, Nat.reduceSub, Nat.reduceEqDiff, Nat.reduceLeDiff, Nat.reduceLT, Int.reduceNeg, ↓reduceIte, reduceCtorEq, Int.reduceEq, Int.reduceLT, Int.reduceLE, Int.reduceBEq, Int.reduceBNe, Int.reduceToNat, IntKind.bits, Int.reduceAdd, Int.reduceSub, Int.reduceMul, Int.reduceTDiv, Int.reduceTMod, DB, DB2, R7B, g, e37]
  exact ⟨_, rfl⟩
theorem pred81 {bs : List Blk} {a lk e : Nat} {q : Pfx} (h : bs[a]? = some (.box lk e (pav q))) : PredG E pav 81 [.ptr a 0 0 0] (fun x => !decide (Holds q x)) bs := fun ys pend ext x => by
  have g : ∀ r, ((bs ++ ext) ++ r)[a]? = some (.box lk e (pav q)) := fun r => get_lt (get_lt h)
  rw [LR_R (fn := f81) rfl rfl rfl]
  simp only [f81, RB, pickV, eqbV, notV, negV, convV, faddrV, fldV, idxV, eqaggV, iaddrV, isnilV, nilckV, cloV, extrV, slenV, minV, sidxV, abin, cmpInt, params, growLists, fillCells, newAt, rdPtr, wrPtr, AV.cells, asVal, lenOf, boundOf, rowsOf, argIds, freshIn, scalar1, setAll, AV.isData, AV.isYld, Nat.reduceAdd, Nat.reduceMul, Nat.reduceSub, Nat.reduceEqDiff, Nat.reduceLeDiff, Nat.reduceLT, Int.reduceNeg, ↓reduceIte, reduceCtorEq, Int.reduceEq, Int.reduceLT, Int.reduceLE, Int.reduceBEq, Int.reduceBNe, Int.reduceToNat, IntKind.bits, Int.reduceAdd, Int.reduceSub, Int.reduceMul, Int.reduceTDiv, Int.reduceTMod, DB, DB2, R7B, g, e37]
  exact ⟨_, rfl⟩
theorem pred51 {bs : List Blk} {a lk e : Nat} {p : Pfx} (h : bs[a]? = some (.box lk e (pav p))) : PredOk 51 [.ptr a 0 0 0] (fun r => decide (Holds p r.p)) bs := fun ys pend ext r => by
  have g : ∀ r, ((bs ++ ext) ++ r)[a]? = some (.box lk e (pav p)) := fun r => get_lt (get_lt h)
  rw [LR_R (fn := f51) rfl rfl rfl]
  simp only [f51, RB, pickV, eqbV, notV, negV, convV, faddrV, fldV, idxV, eqaggV, iaddrV, isnilV, nilckV, cloV, extrV, slenV, minV, sidxV, abin, cmpInt, params, growLists, fillCells, newAt, rdPtr, wrPtr, AV.cells, asVal, lenOf, boundOf, rowsOf, argIds, freshIn, scalar1, setAll, AV.isData, AV.isYld, Nat.reduceAdd, Nat.reduceMul, Nat.reduceSub, Nat.reduceEqDiff, Nat.reduceLeDiff, Nat.reduceLT, Int.reduceNeg, ↓reduceIte, reduceCtorEq, Int.reduceEq, Int.reduceLT, Int.reduceLE, Int.reduceBEq, Int.reduceBNe, Int.reduceToNat, IntKind.bits, Int.reduceAdd, Int.reduceSub, Int.reduceMul, Int.reduceTDiv, Int.reduceTMod, DB, DB2, R7B, g, e37]
  exact ⟨_, rfl⟩
theorem e52_step (bits : Int) (hb : bits ≤ 128) (n : Nat) (ih : ∀ m, n = m + 1 → ∀ (l : List Pfx) (q : Pfx), l.length ≤ 1000000 → 0 ≤ q.bits → q.bits + m = bits → LV E 52 [.ro (prows l), .agg (pav q), .int .i64 bits] = some (.tup [.agg (pav ((freeS bits m l q).getD zerP)), .bool (freeS bits m l q).isSome]))
    (l : List Pfx) (q : Pfx) (hl : l.length ≤ 1000000) (hq : 0 ≤ q.bits) (hn : q.bits + n = bits) : LV E 52 [.ro (prows l), .agg (pav q), .int .i64 bits] = some (.tup [.agg (pav ((freeS bits n l q).getD zerP)), .bool (freeS bits n l q).isSome]) := by
  rw [LV_R (fn := f52) rfl rfl rfl]
  have h77 := r77 (ys := []) (pend := []) (bs := [.box 0 32 (pav q), .box 0 32 (pav zerP)]) (v := .ro (prows l)) (l := l) (by omega) (SlV.ro (fun r hr => by obtain ⟨p, _, rfl⟩ := List.mem_map.1 hr; exact pav_len p)) (pred78 (a := 0) (q := q) rfl) (by simp only [LPB]; rfl) (by simp only [LPB]; rfl)
  simp only [f52, ← pav_zer, RB, pickV, eqbV, notV, negV, convV, faddrV, fldV, idxV, eqaggV, iaddrV, isnilV, nilckV, cloV, extrV, slenV, minV, sidxV, abin, cmpInt, params, growLists, fillCells, newAt, rdPtr, wrPtr, AV.cells, asVal, lenOf, boundOf, rowsOf, argIds, freshIn, scalar1, setAll, AV.isData, AV.isYld, Nat.reduceAdd, Nat.reduceMul, Nat.reduceSub, Nat.reduceEqDiff, Nat.reduceLeDiff, Nat.reduceLT, Int.reduceNeg, ↓reduceIte, reduceCtorEq, Int.reduceEq, Int.reduceLT, Int.reduceLE, Int.reduceBEq, Int.reduceBNe, Int.reduceToNat, IntKind.bits, Int.reduceAdd, Int.reduceSub, Int.reduceMul, Int.reduceTDiv, Int.reduceTMod, DB, DB2, R7B, h77, shrink_lit, LPB]
  rw [freeS_eq]
  cases h1 : l.any (fun x => decide (Holds x q)) with
  | true =>
    simp only [RB, pickV, eqbV, notV, negV, convV, faddrV, fldV, idxV, eqaggV, iaddrV, isnilV, nilckV, cloV, extrV, slenV, minV, sidxV, abin, cmpInt, params, growLists, fillCells, newAt, rdPtr, wrPtr, AV.cells, asVal, lenOf, boundOf, rowsOf, argIds, freshIn, scalar1, setAll, AV.isData, AV.isYld, Nat.reduceAdd, Nat.reduceMul, Nat.reduceSub, Nat.reduceEqDiff, Nat.reduceLeDiff, Nat.reduceLT, Int.reduceNeg, ↓reduceIte, reduceCtorEq, Int.reduceEq, Int.reduceLT, Int.reduceLE, Int.reduceBEq, Int.reduceBNe, Int.reduceToNat, IntKind.bits, Int.reduceAdd, Int.reduceSub, Int.reduceMul, Int.reduceTDiv, Int.reduceTMod, DB, DB2, R7B, Option.getD_none, Option.isSome_none]
  | false =>
    obtain ⟨z, r, h79⟩ := r79 (ys := []) (pend := []) (bs := [.box 0 32 (pav q), .box 0 32 (pav zerP), .lst 0 0 32 18 (prows l)]) (id := 2) (gen := 0) (l := l) (by omega) rfl rfl (fun Y => pred81 (a := 0) (q := q) rfl) (by simp only [LPB]; rfl) (by simp only [LPB]; rfl)
    simp only [Bool.not_not] at h79
    simp only [RB, pickV, eqbV, notV, negV, convV, faddrV, fldV, idxV, eqaggV, iaddrV, isnilV, nilckV, cloV, extrV, slenV, minV, sidxV, abin, cmpInt, params, growLists, fillCells, newAt, rdPtr, wrPtr, AV.cells, asVal, lenOf, boundOf, rowsOf, argIds, freshIn, scalar1, setAll, AV.isData, AV.isYld, Nat.reduceAdd, Nat.reduceMul, Nat.reduceSub, Nat.reduceEqDiff, Nat.reduceLeDiff, Nat.reduceLT, Int.reduceNeg, ↓reduceIte, reduceCtorEq, Int.reduceEq, Int.reduceLT, Int.reduceLE, Int.reduceBEq, Int.reduceBNe, Int.reduceToNat, IntKind.bits, Int.reduceAdd, Int.reduceSub, Int.reduceMul, Int.reduceTDiv, Int.reduceTMod, DB, DB2, R7B, e80 l hl, prows_len, h79]
    generalize hL : l.filter (fun x => decide (Holds q x)) = L at *
    have hLl : L.length ≤ 1000000 := by rw [← hL]; exact Nat.le_trans (List.length_filter_le _ _) hl
    by_cases h2 : L.length = 0
    · simp only [RB, pickV, eqbV, notV, negV, convV, faddrV, fldV, idxV, eqaggV, iaddrV, isnilV, nilckV, cloV, extrV, slenV, minV, sidxV, abin, cmpInt, params, growLists, fillCells, newAt, rdPtr, wrPtr, AV.cells, asVal, lenOf, boundOf, rowsOf, argIds, freshIn, scalar1, setAll, AV.isData, AV.isYld, Nat.reduceAdd, Nat.reduceMul, Nat.reduceSub, Nat.reduceEqDiff, Nat.reduceLeDiff, Nat.reduceLT, Int.reduceNeg, ↓reduceIte, reduceCtorEq, Int.reduceEq, Int.reduceLT, Int.reduceLE, Int.reduceBEq, Int.reduceBNe, Int.reduceToNat, IntKind.bits, Int.reduceAdd, Int.reduceSub, Int.reduceMul, Int.reduceTDiv, Int.reduceTMod, DB, DB2, R7B, h2, show (((0 : Nat) : Int) == 0) = true from rfl, e82, extrV]
      by_cases h3 : ofE q.adr bits = 0
      · simp [h3]
      · simp [h3, ofP_err h3]
    · have h2' : ((L.length : Int) == 0) = false := by rw [beq_eq_false_iff_ne]; omega
      cases n with
      | zero =>
        have h3 : q.bits = bits := by omega
        simp only [RB, pickV, eqbV, notV, negV, convV, faddrV, fldV, idxV, eqaggV, iaddrV, isnilV, nilckV, cloV, extrV, slenV, minV, sidxV, abin, cmpInt, params, growLists, fillCells, newAt, rdPtr, wrPtr, AV.cells, asVal, lenOf, boundOf, rowsOf, argIds, freshIn, scalar1, setAll, AV.isData, AV.isYld, Nat.reduceAdd, Nat.reduceMul, Nat.reduceSub, Nat.reduceEqDiff, Nat.reduceLeDiff, Nat.reduceLT, Int.reduceNeg, ↓reduceIte, reduceCtorEq, Int.reduceEq, Int.reduceLT, Int.reduceLE, Int.reduceBEq, Int.reduceBNe, Int.reduceToNat, IntKind.bits, Int.reduceAdd, Int.reduceSub, Int.reduceMul, Int.reduceTDiv, Int.reduceTMod, DB, DB2, R7B, h2, h2', h3, Option.getD_none, Option.isSome_none]
      | succ n =>
        have h3 : (q.bits == bits) = false := by rw [beq_eq_false_iff_ne]; omega
        have f1 : IntKind.i64.wrap (q.bits + 1) = q.bits + 1 := IntWalk.i64_in _ (by omega)
        have ih1 := ih n rfl L (zbit q) hLl (show 0 ≤ q.bits + 1 by omega) (show q.bits + 1 + n = bits by omega)
        have ih2 := ih n rfl L (obit q) hLl (show 0 ≤ q.bits + 1 by omega) (show q.bits + 1 + n = bits by omega)
        have h4 : L.length ≤ (List.map pav (L ++ z)).length := by simp
        have h5 : (List.map pav (L ++ z)).take L.length = prows L := by simp [prows]
        cases hz : freeS bits n L (zbit q) with
        | some f =>
          rw [hz] at ih1
          unfold zbit at ih1
          simp only [RB, pickV, eqbV, notV, negV, convV, faddrV, fldV, idxV, eqaggV, iaddrV, isnilV, nilckV, cloV, extrV, slenV, minV, sidxV, abin, cmpInt, params, growLists, fillCells, newAt, rdPtr, wrPtr, AV.cells, asVal, lenOf, boundOf, rowsOf, argIds, freshIn, scalar1, setAll, AV.isData, AV.isYld, Nat.reduceAdd, Nat.reduceMul, Nat.reduceSub, Nat.reduceEqDiff, Nat.reduceLeDiff, Nat.reduceLT, Int.reduceNeg, ↓reduceIte, reduceCtorEq, Int.reduceEq, Int.reduceLT, Int.reduceLE, Int.reduceBEq, Int.reduceBNe, Int.reduceToNat, IntKind.bits, Int.reduceAdd, Int.reduceSub, Int.reduceMul, Int.reduceTDiv, Int.reduceTMod, DB, DB2, R7B, h2, h2', h3, f1, h4, h5, ih1, CW_some, scalar, scalar1, lockAll, lockAt, reduceCtorEq, extrV, List.all_cons, List.all_nil, hz, Option.getD_some, Option.isSome_some]
        | none =>
          rw [hz] at ih1
          unfold zbit at ih1
          unfold obit at ih2
          obtain ⟨k, hk⟩ : ∃ k : Nat, q.bits = (k : Int) := ⟨q.bits.toNat, by omega⟩
          have g1 : IntKind.i64.wrap (q.bits + 1 - 1) = (k : Int) := by rw [IntWalk.i64_in _ (by omega)] <;> omega
          have hk8 : k / 8 < 16 := by omega
          have f3 : ((k / 8 : Nat) : Int) < 16 := by omega
          have f4 : (0 : Int) ≤ ((k / 8 : Nat) : Int) := by omega
          have f8 : (0 : Int) ≤ ((k % 8 : Nat) : Int) := by omega
          have f9 : (128 : Int).fdiv (2 ^ (Nat.min (k % 8) 8)) = ((128 / 2 ^ (k % 8) : Nat) : Int) := shrN 128 (k % 8) (by omega)
          obtain ⟨f10, f11⟩ := or128 (q.adr.b.get (k / 8)) (k % 8) (q.adr.b.get_lt _) (by omega)
          have g3 := pav_i ⟨q.adr, q.bits + 1⟩ (k / 8) hk8
          have g4 := pav_put ⟨q.adr, q.bits + 1⟩ hk8 f11
          rw [show q.bits.toNat = k by omega] at ih2
          simp only [RB, pickV, eqbV, notV, negV, convV, faddrV, fldV, idxV, eqaggV, iaddrV, isnilV, nilckV, cloV, extrV, slenV, minV, sidxV, abin, cmpInt, params, growLists, fillCells, newAt, rdPtr, wrPtr, AV.cells, asVal, lenOf, boundOf, rowsOf, argIds, freshIn, scalar1, setAll, AV.isData, AV.isYld, Nat.reduceAdd, Nat.reduceMul, Nat.reduceSub, Nat.reduceEqDiff, Nat.reduceLeDiff, Nat.reduceLT, Int.reduceNeg, ↓reduceIte, reduceCtorEq, Int.reduceEq, Int.reduceLT, Int.reduceLE, Int.reduceBEq, Int.reduceBNe, Int.reduceToNat, IntKind.bits, Int.reduceAdd, Int.reduceSub, Int.reduceMul, Int.reduceTDiv, Int.reduceTMod, DB, DB2, R7B, h2, h2', h3, f1, h4, h5, ih1, CW_some, scalar, scalar1, lockAll, lockAt, reduceCtorEq, extrV, List.all_cons, List.all_nil, Option.getD_none, Option.isSome_none, g1, quo8 k (by omega), rem8, f3, f4, f8, f9, f10, g3, g4, ih2]
          simp only [hz, obit, show q.bits.toNat = k by omega]
theorem e52 (bits : Int) (hb : bits ≤ 128) : ∀ (n : Nat) (l : List Pfx) (q : Pfx), l.length ≤ 1000000 → 0 ≤ q.bits → q.bits + n = bits → LV E 52 [.ro (prows l), .agg (pav q), .int .i64 bits] = some (.tup [.agg (pav ((freeS bits n l q).getD zerP)), .bool (freeS bits n l q).isSome]) := by
  intro n
  induction n with
  | zero => exact e52_step bits hb 0 (fun m h => by omega)
  | succ n ih => exact e52_step bits hb (n + 1) (fun m h => by obtain rfl : n = m := by omega
                                                               exact ih)
structure FreeR where
  pfx : Pfx
  ok : Bool
  err : Int
def freeP (l : List Rw) (p : Pfx) (bits : Int) : Option Pfx :=
  if bits = p.bits ∧ ((l.filter fun r => decide (Holds p r.p)).any fun r => decide (r.p = p)) then none
  else freeS bits (bits - p.bits).toNat (((l.filter fun r => decide (Holds p r.p)).filter fun r => !decide (r.p = p)).map (·.p)) p
def freeR (l : List Rw) (p : Pfx) (bits : Int) : FreeR :=
  if TabOk l then if PfxOk p then if p.bits ≤ bits ∧ bits ≤ width p.adr.ver then ⟨(freeP l p bits).getD zerP, (freeP l p bits).isSome, 0⟩ else ⟨zerP, false, 2⟩ else ⟨zerP, false, 151⟩ else ⟨zerP, false, 190⟩
/-- Rows but one's own, whose prefixes are gathered; a stop at the own one where it is wanted. -/
def freeStep (p : Pfx) (bits : Int) (s : List Pfx × Bool) (r : Rw) : (List Pfx × Bool) × Bool := if r.p = p then if bits = p.bits then ((s.1, true), false) else (s, true) else ((s.1 ++ [r.p], s.2), true)
theorem free_fold (p : Pfx) (bits : Int) : ∀ (l : List Rw) (s : List Pfx), foldU (freeStep p bits) l (s, false) = if bits = p.bits ∧ l.any (fun r => decide (r.p = p)) then (s ++ ((l.takeWhile fun r => !decide (r.p = p)).map (·.p)), true) else (s ++ (l.filter fun r => !decide (r.p = p)).map (·.p), false)
  | [], s => by simp [foldU]
  | r :: l, s => by
    by_cases h1 : r.p = p
    · by_cases h2 : bits = p.bits
      · have e : freeStep p bits (s, false) r = ((s, true), false) := by simp [freeStep, h1, h2]
        rw [foldU, e]; simp [h1, h2]
      · have e : freeStep p bits (s, false) r = ((s, false), true) := by simp [freeStep, h1, h2]
        rw [foldU, e]
        simp only [if_true, free_fold p bits l s]
        simp [h1, h2]
    · have e : freeStep p bits (s, false) r = ((s ++ [r.p], false), true) := by simp [freeStep, h1]
      rw [foldU, e]
      simp only [if_true, free_fold p bits l (s ++ [r.p])]
      simp [h1]
theorem e20 (l : List Rw) (hl : l.length ≤ 1000000) (p : Pfx) (bits : Int) : LV E 20 [.agg [.ro (rrows l)], .agg (pav p), .int .i64 bits] = some (.tup [.agg (pav (freeR l p bits).pfx), .bool (freeR l p bits).ok, .int .i64 (freeR l p bits).err]) := by
  rw [LV_R (fn := f20) rfl rfl rfl]
  simp only [f20, ← pav_zer, RB, pickV, eqbV, notV, negV, convV, faddrV, fldV, idxV, eqaggV, iaddrV, isnilV, nilckV, cloV, extrV, slenV, minV, sidxV, abin, cmpInt, params, growLists, fillCells, newAt, rdPtr, wrPtr, AV.cells, asVal, lenOf, boundOf, rowsOf, argIds, freshIn, scalar1, setAll, AV.isData, AV.isYld, Nat.reduceAdd, Nat.reduceMul, Nat.reduceSub, Nat.reduceEqDiff, Nat.reduceLeDiff, Nat.reduceLT, Int.reduceNeg, ↓reduceIte, reduceCtorEq, Int.reduceEq, Int.reduceLT, Int.reduceLE, Int.reduceBEq, Int.reduceBNe, Int.reduceToNat, IntKind.bits, Int.reduceAdd, Int.reduceSub, Int.reduceMul, Int.reduceTDiv, Int.reduceTMod, DB, DB2, e44 l (show l.length ≤ 4611686018427387904 by omega)]
  unfold freeR
  by_cases h1 : TabOk l
  · by_cases h2 : PfxOk p
    · simp only [RB, pickV, eqbV, notV, negV, convV, faddrV, fldV, idxV, eqaggV, iaddrV, isnilV, nilckV, cloV, extrV, slenV, minV, sidxV, abin, cmpInt, params, growLists, fillCells, newAt, rdPtr, wrPtr, AV.cells, asVal, lenOf, boundOf, rowsOf, argIds, freshIn, scalar1, setAll, AV.isData, AV.isYld, Nat.reduceAdd, Nat.reduceMul, Nat.reduceSub, Nat.reduceEqDiff, Nat.reduceLeDiff, Nat.reduceLT, Int.reduceNeg, ↓reduceIte, reduceCtorEq, Int.reduceEq, Int.reduceLT, Int.reduceLE, Int.reduceBEq, Int.reduceBNe, Int.reduceToNat, IntKind.bits, Int.reduceAdd, Int.reduceSub, Int.reduceMul, Int.reduceTDiv, Int.reduceTMod, DB, DB2, h1, h2, bne_self_eq_false]
      by_cases h3 : bits < p.bits
      · simp only [RB, pickV, eqbV, notV, negV, convV, faddrV, fldV, idxV, eqaggV, iaddrV, isnilV, nilckV, cloV, extrV, slenV, minV, sidxV, abin, cmpInt, params, growLists, fillCells, newAt, rdPtr, wrPtr, AV.cells, asVal, lenOf, boundOf, rowsOf, argIds, freshIn, scalar1, setAll, AV.isData, AV.isYld, Nat.reduceAdd, Nat.reduceMul, Nat.reduceSub, Nat.reduceEqDiff, Nat.reduceLeDiff, Nat.reduceLT, Int.reduceNeg, ↓reduceIte, reduceCtorEq, Int.reduceEq, Int.reduceLT, Int.reduceLE, Int.reduceBEq, Int.reduceBNe, Int.reduceToNat, IntKind.bits, Int.reduceAdd, Int.reduceSub, Int.reduceMul, Int.reduceTDiv, Int.reduceTMod, DB, DB2, h3, show ¬ p.bits ≤ bits by omega, expCell, List.nodup_cons, List.nodup_nil, List.not_mem_nil, not_false_eq_true, not_true_eq_false, and_true, and_false, if_false, List.mem_cons, mutIds]
      · by_cases h4 : (width p.adr.ver : Int) < bits
        · simp only [RB, pickV, eqbV, notV, negV, convV, faddrV, fldV, idxV, eqaggV, iaddrV, isnilV, nilckV, cloV, extrV, slenV, minV, sidxV, abin, cmpInt, params, growLists, fillCells, newAt, rdPtr, wrPtr, AV.cells, asVal, lenOf, boundOf, rowsOf, argIds, freshIn, scalar1, setAll, AV.isData, AV.isYld, Nat.reduceAdd, Nat.reduceMul, Nat.reduceSub, Nat.reduceEqDiff, Nat.reduceLeDiff, Nat.reduceLT, Int.reduceNeg, ↓reduceIte, reduceCtorEq, Int.reduceEq, Int.reduceLT, Int.reduceLE, Int.reduceBEq, Int.reduceBNe, Int.reduceToNat, IntKind.bits, Int.reduceAdd, Int.reduceSub, Int.reduceMul, Int.reduceTDiv, Int.reduceTMod, DB, DB2, e50, h3, h4, show ¬ bits ≤ width p.adr.ver by omega, expCell, List.nodup_cons, List.nodup_nil, List.not_mem_nil, not_false_eq_true, not_true_eq_false, and_true, and_false, if_false, List.mem_cons, mutIds]
        · have hb : bits ≤ 128 := by have := width_le p.adr.ver; omega
          simp only [RB, pickV, eqbV, notV, negV, convV, faddrV, fldV, idxV, eqaggV, iaddrV, isnilV, nilckV, cloV, extrV, slenV, minV, sidxV, abin, cmpInt, params, growLists, fillCells, newAt, rdPtr, wrPtr, AV.cells, asVal, lenOf, boundOf, rowsOf, argIds, freshIn, scalar1, setAll, AV.isData, AV.isYld, Nat.reduceAdd, Nat.reduceMul, Nat.reduceSub, Nat.reduceEqDiff, Nat.reduceLeDiff, Nat.reduceLT, Int.reduceNeg, ↓reduceIte, reduceCtorEq, Int.reduceEq, Int.reduceLT, Int.reduceLE, Int.reduceBEq, Int.reduceBNe, Int.reduceToNat, IntKind.bits, Int.reduceAdd, Int.reduceSub, Int.reduceMul, Int.reduceTDiv, Int.reduceTMod, DB, DB2, e50, h3, h4, show bits ≤ width p.adr.ver by omega, show p.bits ≤ bits by omega, r46, R7B, expCell, List.nodup_cons, List.nodup_nil, List.not_mem_nil, not_false_eq_true, not_true_eq_false, and_true, and_false, if_false, List.mem_cons, mutIds]
          rw [R_range (g := 76) (caps := [.ptr 8 0 0 0, .ptr 9 0 0 0]) (by simp only [RB, pickV, eqbV, notV, negV, convV, faddrV, fldV, idxV, eqaggV, iaddrV, isnilV, nilckV, cloV, extrV, slenV, minV, sidxV, abin, cmpInt, params, growLists, fillCells, newAt, rdPtr, wrPtr, AV.cells, asVal, lenOf, boundOf, rowsOf, argIds, freshIn, scalar1, setAll, AV.isData, AV.isYld, Nat.reduceAdd, Nat.reduceMul, Nat.reduceSub, Nat.reduceEqDiff, Nat.reduceLeDiff, Nat.reduceLT, Int.reduceNeg, ↓reduceIte, reduceCtorEq, Int.reduceEq, Int.reduceLT, Int.reduceLE, Int.reduceBEq, Int.reduceBNe, Int.reduceToNat, IntKind.bits, Int.reduceAdd, Int.reduceSub, Int.reduceMul, Int.reduceTDiv, Int.reduceTMod]) rfl]
          simp only [RB, pickV, eqbV, notV, negV, convV, faddrV, fldV, idxV, eqaggV, iaddrV, isnilV, nilckV, cloV, extrV, slenV, minV, sidxV, abin, cmpInt, params, growLists, fillCells, newAt, rdPtr, wrPtr, AV.cells, asVal, lenOf, boundOf, rowsOf, argIds, freshIn, scalar1, setAll, AV.isData, AV.isYld, Nat.reduceAdd, Nat.reduceMul, Nat.reduceSub, Nat.reduceEqDiff, Nat.reduceLeDiff, Nat.reduceLT, Int.reduceNeg, ↓reduceIte, reduceCtorEq, Int.reduceEq, Int.reduceLT, Int.reduceLE, Int.reduceBEq, Int.reduceBNe, Int.reduceToNat, IntKind.bits, Int.reduceAdd, Int.reduceSub, Int.reduceMul, Int.reduceTDiv, Int.reduceTMod, R7B]
          refine r76_bind (σ := List Pfx × Bool) (d := 0) (S := fun s => ⟨[.box 0 24 [.ro (rrows l)], .box 0 32 (pav p), .box 0 3 [.int .i64 bits], .box 0 32 (pav zerP), .box 0 4 [.bool false], .box 0 37 [.int .i64 0], .box 0 60 [.lis 7 s.1.length 0 s.1.length], .lst 0 s.1.length 32 18 (prows s.1), .box 0 24 [.ro (rrows l)], .box 0 88 [.clo 51 [.ptr 1 0 0 0]]], [if s.2 then some .ret else none]⟩)
            (m := 10) (a := 8) (b := 9) (l := l) (P := fun r => decide (Holds p r.p)) (step := freeStep p bits) (ok := fun k s => s.1.length ≤ k ∧ s.2 = false) ([], false) ⟨Nat.le_refl _, rfl⟩ (by omega) ⟨_, rfl, 51, [.ptr 1 0 0 0], fun s => rfl, fun s => ?_, by omega, by omega, fun s => ⟨_, _, rfl⟩, fun s => ⟨_, _, rfl⟩, fun s r x => pred51 (bs := [_, _]) rfl _ _ [_, _, _, _, _, _, _, _, _] r, ?_, ?_⟩ fun ext => ?_
          · simp only [RB, pickV, eqbV, notV, negV, convV, faddrV, fldV, idxV, eqaggV, iaddrV, isnilV, nilckV, cloV, extrV, slenV, minV, sidxV, abin, cmpInt, params, growLists, fillCells, newAt, rdPtr, wrPtr, AV.cells, asVal, lenOf, boundOf, rowsOf, argIds, freshIn, scalar1, setAll, AV.isData, AV.isYld, Nat.reduceAdd, Nat.reduceMul, Nat.reduceSub, Nat.reduceEqDiff, Nat.reduceLeDiff, Nat.reduceLT, Int.reduceNeg, ↓reduceIte, reduceCtorEq, Int.reduceEq, Int.reduceLT, Int.reduceLE, Int.reduceBEq, Int.reduceBNe, Int.reduceToNat, IntKind.bits, Int.reduceAdd, Int.reduceSub, Int.reduceMul, Int.reduceTDiv, Int.reduceTMod, LPB]
          · intro k s h _; exact ⟨by omega, h.2⟩
          · rintro k ⟨s, d⟩ hk ⟨hok, rfl⟩ _
            have f7 : (s.length + 1) * 32 ≤ 140737488355328 := by simp only at hok; omega
            have f8 : s.length ≤ 4611686018427387903 := by simp only at hok; omega
            have f12 : headFits 18 [pav (row l k).p] = true := by simp [headFits, pav_len]
            have f13 : ∀ x, prows s ++ [pav x] = prows (s ++ [x]) := fun x => by simp [prows]
            have f14 : (prows s).take s.length = prows s := by rw [← prows_len s, List.take_length]
            simp only [Bool.false_eq_true, if_false]
            by_cases hn : (row l k).p = p
            · by_cases hp : bits = p.bits
              · refine ⟨fun h => by simp [freeStep, hn, hp] at h, ?_⟩
                rw [handler_run rfl rfl]
                simp only [RB, pickV, eqbV, notV, negV, convV, faddrV, fldV, idxV, eqaggV, iaddrV, isnilV, nilckV, cloV, extrV, slenV, minV, sidxV, abin, cmpInt, params, growLists, fillCells, newAt, rdPtr, wrPtr, AV.cells, asVal, lenOf, boundOf, rowsOf, argIds, freshIn, scalar1, setAll, AV.isData, AV.isYld, Nat.reduceAdd, Nat.reduceMul, Nat.reduceSub, Nat.reduceEqDiff, Nat.reduceLeDiff, Nat.reduceLT, Int.reduceNeg, ↓reduceIte, reduceCtorEq, Int.reduceEq, Int.reduceLT, Int.reduceLE, Int.reduceBEq, Int.reduceBNe, Int.reduceToNat, IntKind.bits, Int.reduceAdd, Int.reduceSub, Int.reduceMul, Int.reduceTDiv, Int.reduceTMod, DB, DB2, R7B, take_add, List.append_assoc, List.length_append, Nat.add_assoc, shrink_lit, ball_app, RG, LPB, hn, hp, freeStep, expCell, List.nodup_cons, List.nodup_nil, List.not_mem_nil, not_false_eq_true, not_true_eq_false, and_true, and_false, if_false, List.mem_cons, mutIds]
                exact ⟨_, rfl⟩
              · refine ⟨fun _ => by simp [freeStep, hn, hp]; exact Nat.le_succ_of_le hok, ?_⟩
                rw [handler_run rfl rfl]
                simp only [RB, pickV, eqbV, notV, negV, convV, faddrV, fldV, idxV, eqaggV, iaddrV, isnilV, nilckV, cloV, extrV, slenV, minV, sidxV, abin, cmpInt, params, growLists, fillCells, newAt, rdPtr, wrPtr, AV.cells, asVal, lenOf, boundOf, rowsOf, argIds, freshIn, scalar1, setAll, AV.isData, AV.isYld, Nat.reduceAdd, Nat.reduceMul, Nat.reduceSub, Nat.reduceEqDiff, Nat.reduceLeDiff, Nat.reduceLT, Int.reduceNeg, ↓reduceIte, reduceCtorEq, Int.reduceEq, Int.reduceLT, Int.reduceLE, Int.reduceBEq, Int.reduceBNe, Int.reduceToNat, IntKind.bits, Int.reduceAdd, Int.reduceSub, Int.reduceMul, Int.reduceTDiv, Int.reduceTMod, DB, DB2, R7B, take_add, List.append_assoc, List.length_append, Nat.add_assoc, shrink_lit, ball_app, RG, LPB, hn, beq_eq_false_iff_ne.2 hp, hp, freeStep]
                exact ⟨_, rfl⟩
            · refine ⟨fun _ => by simp [freeStep, hn]; exact hok, ?_⟩
              rw [handler_run rfl rfl]
              simp only [RB, pickV, eqbV, notV, negV, convV, faddrV, fldV, idxV, eqaggV, iaddrV, isnilV, nilckV, cloV, extrV, slenV, minV, sidxV, abin, cmpInt, params, growLists, fillCells, newAt, rdPtr, wrPtr, AV.cells, asVal, lenOf, boundOf, rowsOf, argIds, freshIn, scalar1, setAll, AV.isData, AV.isYld, Nat.reduceAdd, Nat.reduceMul, Nat.reduceSub, Nat.reduceEqDiff, Nat.reduceLeDiff, Nat.reduceLT, Int.reduceNeg, ↓reduceIte, reduceCtorEq, Int.reduceEq, Int.reduceLT, Int.reduceLE, Int.reduceBEq, Int.reduceBNe, Int.reduceToNat, IntKind.bits, Int.reduceAdd, Int.reduceSub, Int.reduceMul, Int.reduceTDiv, Int.reduceTMod, DB, DB2, R7B, take_add, List.append_assoc, List.length_append, Nat.add_assoc, shrink_lit, ball_app, RG, LPB, hn, freeStep, aop_buildSl, fillRows, asData, aappend, f7, f8, f12, f13, f14, prows_len]
              exact ⟨_, rfl⟩
          · rw [free_fold p bits _ []]
            unfold freeP
            generalize hL : l.filter (fun r => decide (Holds p r.p)) = L at *
            have hLl : L.length ≤ 1000000 := by rw [← hL]; exact Nat.le_trans (List.length_filter_le _ _) hl
            by_cases hc : bits = p.bits ∧ (L.any fun r => decide (r.p = p)) = true
            · simp only [if_pos hc, RB, pickV, eqbV, notV, negV, convV, faddrV, fldV, idxV, eqaggV, iaddrV, isnilV, nilckV, cloV, extrV, slenV, minV, sidxV, abin, cmpInt, params, growLists, fillCells, newAt, rdPtr, wrPtr, AV.cells, asVal, lenOf, boundOf, rowsOf, argIds, freshIn, scalar1, setAll, AV.isData, AV.isYld, Nat.reduceAdd, Nat.reduceMul, Nat.reduceSub, Nat.reduceEqDiff, Nat.reduceLeDiff, Nat.reduceLT, Int.reduceNeg, ↓reduceIte, reduceCtorEq, Int.reduceEq, Int.reduceLT, Int.reduceLE, Int.reduceBEq, Int.reduceBNe, Int.reduceToNat, IntKind.bits, Int.reduceAdd, Int.reduceSub, Int.reduceMul, Int.reduceTDiv, Int.reduceTMod, DB, DB2, R7B, take_add, List.append_assoc, List.length_append, Nat.add_assoc, shrink_lit, ball_app, RG, LPB, expCell, List.nodup_cons, List.nodup_nil, List.not_mem_nil, not_false_eq_true, not_true_eq_false, and_true, and_false, if_false, List.mem_cons, mutIds, Option.getD_none, Option.isSome_none]
            · have hlen : ((L.filter fun r => !decide (r.p = p)).map (·.p)).length ≤ 1000000 := by rw [List.length_map]; exact Nat.le_trans (List.length_filter_le _ _) hLl
              have h52 := e52 bits hb (bits - p.bits).toNat ((L.filter fun r => !decide (r.p = p)).map (·.p)) p hlen h2.2.1 (by omega)
              simp only [if_neg hc, RB, pickV, eqbV, notV, negV, convV, faddrV, fldV, idxV, eqaggV, iaddrV, isnilV, nilckV, cloV, extrV, slenV, minV, sidxV, abin, cmpInt, params, growLists, fillCells, newAt, rdPtr, wrPtr, AV.cells, asVal, lenOf, boundOf, rowsOf, argIds, freshIn, scalar1, setAll, AV.isData, AV.isYld, Nat.reduceAdd, Nat.reduceMul, Nat.reduceSub, Nat.reduceEqDiff, Nat.reduceLeDiff, Nat.reduceLT, Int.reduceNeg, ↓reduceIte, reduceCtorEq, Int.reduceEq, Int.reduceLT, Int.reduceLE, Int.reduceBEq, Int.reduceBNe, Int.reduceToNat, IntKind.bits, Int.reduceAdd, Int.reduceSub, Int.reduceMul, Int.reduceTDiv, Int.reduceTMod, DB, DB2, R7B, take_add, List.append_assoc, List.length_append, Nat.add_assoc, shrink_lit, ball_app, RG, LPB]
              generalize hM : (L.filter fun r => !decide (r.p = p)).map (·.p) = M at *
              have f14 : (prows M).take M.length = prows M := by rw [← prows_len M, List.take_length]
              simp only [RB, pickV, eqbV, notV, negV, convV, faddrV, fldV, idxV, eqaggV, iaddrV, isnilV, nilckV, cloV, extrV, slenV, minV, sidxV, abin, cmpInt, params, growLists, fillCells, newAt, rdPtr, wrPtr, AV.cells, asVal, lenOf, boundOf, rowsOf, argIds, freshIn, scalar1, setAll, AV.isData, AV.isYld, Nat.reduceAdd, Nat.reduceMul, Nat.reduceSub, Nat.reduceEqDiff, Nat.reduceLeDiff, Nat.reduceLT, Int.reduceNeg, ↓reduceIte, reduceCtorEq, Int.reduceEq, Int.reduceLT, Int.reduceLE, Int.reduceBEq, Int.reduceBNe, Int.reduceToNat, IntKind.bits, Int.reduceAdd, Int.reduceSub, Int.reduceMul, Int.reduceTDiv, Int.reduceTMod, DB, DB2, R7B, take_add, List.append_assoc, List.length_append, Nat.add_assoc, shrink_lit, ball_app, RG, LPB, prows_len, f14, h52, CW_some, scalar, scalar1, lockAll, lockAt, reduceCtorEq, extrV, List.all_cons, List.all_nil, expCell, List.nodup_cons, List.nodup_nil, List.not_mem_nil, not_false_eq_true, not_true_eq_false, and_true, and_false, if_false, List.mem_cons, mutIds]
    · simp only [RB, pickV, eqbV, notV, negV, convV, faddrV, fldV, idxV, eqaggV, iaddrV, isnilV, nilckV, cloV, extrV, slenV, minV, sidxV, abin, cmpInt, params, growLists, fillCells, newAt, rdPtr, wrPtr, AV.cells, asVal, lenOf, boundOf, rowsOf, argIds, freshIn, scalar1, setAll, AV.isData, AV.isYld, Nat.reduceAdd, Nat.reduceMul, Nat.reduceSub, Nat.reduceEqDiff, Nat.reduceLeDiff, Nat.reduceLT, Int.reduceNeg, ↓reduceIte, reduceCtorEq, Int.reduceEq, Int.reduceLT, Int.reduceLE, Int.reduceBEq, Int.reduceBNe, Int.reduceToNat, IntKind.bits, Int.reduceAdd, Int.reduceSub, Int.reduceMul, Int.reduceTDiv, Int.reduceTMod, DB, DB2, h1, h2, expCell, List.nodup_cons, List.nodup_nil, List.not_mem_nil, not_false_eq_true, not_true_eq_false, and_true, and_false, if_false, List.mem_cons, mutIds]
  · simp only [RB, pickV, eqbV, notV, negV, convV, faddrV, fldV, idxV, eqaggV, iaddrV, isnilV, nilckV, cloV, extrV, slenV, minV, sidxV, abin, cmpInt, params, growLists, fillCells, newAt, rdPtr, wrPtr, AV.cells, asVal, lenOf, boundOf, rowsOf, argIds, freshIn, scalar1, setAll, AV.isData, AV.isYld, Nat.reduceAdd, Nat.reduceMul, Nat.reduceSub, Nat.reduceEqDiff, Nat.reduceLeDiff, Nat.reduceLT, Int.reduceNeg, ↓reduceIte, reduceCtorEq, Int.reduceEq, Int.reduceLT, Int.reduceLE, Int.reduceBEq, Int.reduceBNe, Int.reduceToNat, IntKind.bits, Int.reduceAdd, Int.reduceSub, Int.reduceMul, Int.reduceTDiv, Int.reduceTMod, DB, DB2, h1, expCell, List.nodup_cons, List.nodup_nil, List.not_mem_nil, not_false_eq_true, not_true_eq_false, and_true, and_false, if_false, List.mem_cons, mutIds]
end Go.Proofs.YtihbammfchnjgaaDoor.F

/- That the layer does anything. No condition. -/
set_option linter.unusedSimpArgs false
namespace Go.Proofs.YtihbammfchnjgaaDoor.D
open Go Go.Proofs.YtihbammfchnjgaaDoor.A
def fourP (a b : Nat) (n : Int) : Pfx := ⟨⟨4, (zerB.put 0 a).put 1 b⟩, n⟩
def plainT : List Rw := [⟨fourP 10 0 8, 1⟩, ⟨fourP 10 1 16, 2⟩, ⟨fourP 10 128 9, 3⟩]
theorem mutIds_data {l : List AV} (h : dataL l = true) : mutIds l = [] := by
  induction l with
  | nil => rfl
  | cons a l ih =>
    simp only [data_cons, Bool.and_eq_true] at h
    cases a <;> first | exact ih h.2 | (have := h.1; cases this)
theorem mutIds_pav (p : Pfx) : mutIds (pav p) = [] := mutIds_data (pav_data p)
theorem mutIds_aav (p : Adr) : mutIds (aav p) = [] := mutIds_data (aav_data p)
theorem mutIds_rav (p : Rw) : mutIds (rav p) = [] := mutIds_data (rav_data p)
theorem mutIds_cav (p : Cur) : mutIds (cav p) = [] := mutIds_data (cav_data p)
theorem mutIds_bav (p : B16) : mutIds (bav p) = [] := mutIds_data (bav_data p)
theorem rrows_all (l : List Rw) : (rrows l).all dataL = true := by
  rw [List.all_eq_true]; intro r hr
  obtain ⟨x, _, rfl⟩ := List.mem_map.1 hr
  exact rav_data x
theorem rav_op (r : Rw) (p : Pfx) : ovr (rav r) 0 (pav p) = some (rav ⟨p, r.hop⟩) := by
  unfold ovr; rw [if_pos (by rw [rav_len, pav_len]; omega)]
  simp only [pav_len, List.take_zero, List.nil_append, Nat.zero_add]
  simp only [rav, pav, List.drop_succ_cons]
  rw [show (17 : Nat) = 16 + 1 from rfl, drop16]; simp
theorem rav_oh (r : Rw) (n : Int) : ovr (rav r) 18 [.int .i64 n] = some (rav ⟨r.p, n⟩) := by
  unfold ovr; rw [if_pos (by rw [rav_len]; simp)]
  have h := bav_len r.p.adr.b
  simp only [rav, List.take_succ_cons, List.length_cons, List.length_nil, List.drop_succ_cons]
  rw [show (17 : Nat) = (bav r.p.adr.b).length + 1 by rw [h], List.take_length_add_append, show (18 : Nat) = 16 + 2 from rfl, drop16]; simp
end Go.Proofs.YtihbammfchnjgaaDoor.D
namespace Go.Proofs.YtihbammfchnjgaaDoor.F
open Go Go.Proofs.YtihbammfchnjgaaDoor.A Go.Proofs.YtihbammfchnjgaaDoor.D
theorem e43 (a b : Nat) (n : Int) (ha : a < 256) (hb : b < 256) : LV E 43 [.int .u8 (a : Int), .int .u8 (b : Int), .int .i64 n] = some (.agg (pav (fourP a b n))) := by
  rw [LV_R (fn := f43) rfl rfl rfl]
  have g1 := pav_put ⟨⟨4, zerB⟩, n⟩ (n := 0) (v := a) (by omega) ha
  have g2 := pav_put ⟨⟨4, zerB.put 0 a⟩, n⟩ (n := 1) (v := b) (by omega) hb
  have e : zerA.b = zerB := rfl
  simp only [f43, ← pav_zer, ← aav_zer, RB, pickV, eqbV, notV, negV, convV, faddrV, fldV, idxV, eqaggV, iaddrV, isnilV, nilckV, cloV, extrV, slenV, minV, sidxV, abin, cmpInt, params, growLists, fillCells, newAt, rdPtr, wrPtr, AV.cells, asVal, lenOf, boundOf, rowsOf, argIds, freshIn, scalar1, setAll, AV.isData, AV.isYld, Nat.reduceAdd, Nat.reduceMul, Nat.reduceSub, Nat.reduceEqDiff, Nat.reduceLeDiff, Nat.reduceLT, Int.reduceNeg, ↓reduceIte, reduceCtorEq, Int.reduceEq, Int.reduceLT, Int.reduceLE, Int.reduceBEq, Int.reduceBNe, Int.reduceToNat, IntKind.bits, Int.reduceAdd, Int.reduceSub, Int.reduceMul, Int.reduceTDiv, Int.reduceTMod, DB, DB2, aav_ov, e]
  simp only [Nat.add_zero] at g1
  simp only [RB, pickV, eqbV, notV, negV, convV, faddrV, fldV, idxV, eqaggV, iaddrV, isnilV, nilckV, cloV, extrV, slenV, minV, sidxV, abin, cmpInt, params, growLists, fillCells, newAt, rdPtr, wrPtr, AV.cells, asVal, lenOf, boundOf, rowsOf, argIds, freshIn, scalar1, setAll, AV.isData, AV.isYld, Nat.reduceAdd, Nat.reduceMul, Nat.reduceSub, Nat.reduceEqDiff, Nat.reduceLeDiff, Nat.reduceLT, Int.reduceNeg, ↓reduceIte, reduceCtorEq, Int.reduceEq, Int.reduceLT, Int.reduceLE, Int.reduceBEq, Int.reduceBNe, Int.reduceToNat, IntKind.bits, Int.reduceAdd, Int.reduceSub, Int.reduceMul, Int.reduceTDiv, Int.reduceTMod, DB, DB2, g1, g2, fourP]
theorem e43_1 : LV E 43 [.int .u8 10, .int .u8 0, .int .i64 8] = some (.agg (pav (fourP 10 0 8))) := e43 10 0 8 (by decide) (by decide)
theorem e43_2 : LV E 43 [.int .u8 10, .int .u8 1, .int .i64 16] = some (.agg (pav (fourP 10 1 16))) := e43 10 1 16 (by decide) (by decide)
theorem e43_3 : LV E 43 [.int .u8 10, .int .u8 128, .int .i64 9] = some (.agg (pav (fourP 10 128 9))) := e43 10 128 9 (by decide) (by decide)
theorem e43_4 : LV E 43 [.int .u8 10, .int .u8 0, .int .i64 16] = some (.agg (pav (fourP 10 0 16))) := e43 10 0 16 (by decide) (by decide)
theorem e42 : LV E 42 [] = some (.agg [.ro (rrows plainT)]) := by
  rw [LV_R (fn := f42) rfl rfl rfl]
  have h : [rav ⟨fourP 10 0 8, 1⟩, rav ⟨fourP 10 1 16, 2⟩, rav ⟨fourP 10 128 9, 3⟩] = rrows plainT := rfl
  simp only [f42, ← rav_zer, RB, pickV, eqbV, notV, negV, convV, faddrV, fldV, idxV, eqaggV, iaddrV, isnilV, nilckV, cloV, extrV, slenV, minV, sidxV, abin, cmpInt, params, growLists, fillCells, newAt, rdPtr, wrPtr, AV.cells, asVal, lenOf, boundOf, rowsOf, argIds, freshIn, scalar1, setAll, AV.isData, AV.isYld, Nat.reduceAdd, Nat.reduceMul, Nat.reduceSub, Nat.reduceEqDiff, Nat.reduceLeDiff, Nat.reduceLT, Int.reduceNeg, ↓reduceIte, reduceCtorEq, Int.reduceEq, Int.reduceLT, Int.reduceLE, Int.reduceBEq, Int.reduceBNe, Int.reduceToNat, IntKind.bits, Int.reduceAdd, Int.reduceSub, Int.reduceMul, Int.reduceTDiv, Int.reduceTMod, DB, DB2, R7B, e43_1, e43_2, e43_3, rav_op, rav_oh, aop_buildSl, fillRows, asData, h, rrows_all, expRes_aggm, expCell, List.nodup_cons, List.nodup_nil, List.not_mem_nil, not_false_eq_true, not_true_eq_false, and_true, and_false, if_false, List.mem_cons, mutIds]
theorem page1r : (page plainT (fourP 10 0 8) zerC 2).rows = [⟨fourP 10 0 8, 1⟩, ⟨fourP 10 1 16, 2⟩] := by decide +kernel
theorem page1c : (page plainT (fourP 10 0 8) zerC 2).cur = ⟨true, false, fourP 10 1 16⟩ := by decide +kernel
theorem page1e : (page plainT (fourP 10 0 8) zerC 2).err = 0 := by decide +kernel
theorem page2r : (page plainT (fourP 10 0 8) ⟨true, false, fourP 10 1 16⟩ 2).rows = [⟨fourP 10 128 9, 3⟩] := by decide +kernel
theorem page2c : (page plainT (fourP 10 0 8) ⟨true, false, fourP 10 1 16⟩ 2).cur = ⟨true, true, fourP 10 128 9⟩ := by decide +kernel
theorem page2e : (page plainT (fourP 10 0 8) ⟨true, false, fourP 10 1 16⟩ 2).err = 0 := by decide +kernel
theorem free1p : (freeR plainT (fourP 10 0 8) 16).pfx = fourP 10 0 16 := by decide +kernel
theorem free1o : (freeR plainT (fourP 10 0 8) 16).ok = true := by decide +kernel
theorem free1e : (freeR plainT (fourP 10 0 8) 16).err = 0 := by decide +kernel
theorem e11 : LV E 11 [] = some (.bool true) := by
  rw [LV_R (fn := f11) rfl rfl rfl]
  simp only [f11, ← cav_zer]
  simp only [← pav_zer, RB, pickV, eqbV, notV, negV, convV, faddrV, fldV, idxV, eqaggV, iaddrV, isnilV, nilckV, cloV, extrV, slenV, minV, sidxV, abin, cmpInt, params, growLists, fillCells, newAt, rdPtr, wrPtr, AV.cells, asVal, lenOf, boundOf, rowsOf, argIds, freshIn, scalar1, setAll, AV.isData, AV.isYld, Nat.reduceAdd, Nat.reduceMul, Nat.reduceSub, Nat.reduceEqDiff, Nat.reduceLeDiff, Nat.reduceLT, Int.reduceNeg, ↓reduceIte, reduceCtorEq, Int.reduceEq, Int.reduceLT, Int.reduceLE, Int.reduceBEq, Int.reduceBNe, Int.reduceToNat, IntKind.bits, Int.reduceAdd, Int.reduceSub, Int.reduceMul, Int.reduceTDiv, Int.reduceTMod, DB, DB2, R7B, e42, e43_1, e43_4, e13 plainT (by decide), e20 plainT (by decide), page1r, page1c, page1e, page2r, page2c, page2e, free1p, free1o, free1e, expCell, List.nodup_cons, List.nodup_nil, List.not_mem_nil, not_false_eq_true, not_true_eq_false, and_true, and_false, if_false, List.mem_cons, mutIds, CW_some, scalar, scalar1, lockAll, lockAt, reduceCtorEq, extrV, List.all_cons, List.all_nil, pairOk, AV.ids, List.contains_cons, List.contains_nil, Nat.reduceBEq, List.all_cons, List.all_nil, Bool.or_self, Bool.not_false, Bool.and_self, Bool.or_false, mutIds_pav, mutIds_aav, mutIds_rav, mutIds_cav, mutIds_bav]
end Go.Proofs.YtihbammfchnjgaaDoor.F

/- The order of prefixes is an order; the rows of a table rise. No condition. -/
set_option linter.unusedSimpArgs false
namespace Go.Proofs.YtihbammfchnjgaaDoor.D
open Go Go.Proofs.YtihbammfchnjgaaDoor.A
theorem lex_anti : ∀ l r : List Int, lexL l r = - lexL r l
  | a :: l, b :: r => by
    simp only [lexL]
    by_cases h1 : a < b
    · simp [h1, show ¬ b < a by omega]
    · by_cases h2 : b < a
      · simp [h1, h2]
      · simp [h1, h2, lex_anti l r]
  | [], [] => rfl
  | [], _ :: _ => rfl
  | _ :: _, [] => rfl
theorem lex_self (l : List Int) : lexL l l = 0 := by
  have := lex_anti l l; omega
theorem lex_zero : ∀ {l r : List Int}, l.length = r.length → lexL l r = 0 → l = r
  | [], [], _, _ => rfl
  | a :: l, b :: r, h, h0 => by
    simp only [lexL] at h0
    by_cases h1 : a < b
    · simp [h1] at h0
    · by_cases h2 : b < a
      · simp [h1, h2] at h0
      · simp only [h1, h2, if_false] at h0
        rw [lex_zero (by simpa using h) h0, show a = b by omega]
  | [], _ :: _, h, _ => by simp at h
  | _ :: _, [], h, _ => by simp at h
theorem lex_trans : ∀ {l r s : List Int}, l.length = r.length → r.length = s.length → lexL l r < 0 → lexL r s < 0 → lexL l s < 0
  | [], [], [], _, _, h, _ => by simp [lexL] at h
  | a :: l, b :: r, c :: s, h1, h2, h3, h4 => by
    simp only [lexL] at h3 h4 ⊢
    have ih := lex_trans (l := l) (r := r) (s := s) (by simpa using h1) (by simpa using h2)
    by_cases e1 : a < b
    · by_cases e2 : b < c
      · simp [show a < c by omega]
      · by_cases e3 : c < b
        · simp [e2, e3] at h4
        · simp [show a < c by omega]
    · by_cases e2 : b < a
      · simp [e1, e2] at h3
      · simp only [e1, e2, if_false] at h3
        by_cases e3 : b < c
        · simp [show a < c by omega]
        · by_cases e4 : c < b
          · simp [e3, e4] at h4
          · simp only [e3, e4, if_false] at h4
            simp only [show ¬ a < c by omega, show ¬ c < a by omega, if_false]
            exact ih h3 h4
  | [], _ :: _, _, h, _, _, _ => by simp at h
  | _ :: _, [], _, h, _, _, _ => by simp at h
  | _, [], _ :: _, _, h, _, _ => by simp at h
  | _, _ :: _, [], _, h, _, _ => by simp at h
theorem key_inj {p q : Pfx} (h : key p = key q) : p = q := by
  obtain ⟨⟨v, ⟨l, hl, _⟩⟩, n⟩ := p
  obtain ⟨⟨w, ⟨r, hr, _⟩⟩, m⟩ := q
  simp only [key, ints, List.cons.injEq] at h
  obtain ⟨rfl, h⟩ := h
  obtain ⟨h1, h2⟩ := List.append_inj h (by simp [hl, hr])
  have h3 : l = r := (List.map_inj_right (fun x y h => Int.ofNat.inj h)).1 h1
  subst h3
  simp only [List.cons.injEq, and_true] at h2
  subst h2; rfl
theorem cmp_anti (p q : Pfx) : cmpP p q = - cmpP q p := lex_anti _ _
theorem cmp_self (p : Pfx) : cmpP p p = 0 := lex_self _
theorem cmp_zero {p q : Pfx} (h : cmpP p q = 0) : p = q := key_inj (lex_zero (by rw [key_len, key_len]) h)
theorem cmp_trans {p q r : Pfx} (h1 : cmpP p q < 0) (h2 : cmpP q r < 0) : cmpP p r < 0 := lex_trans (by rw [key_len, key_len]) (by rw [key_len, key_len]) h1 h2
theorem cmp_range (p q : Pfx) : cmpP p q = -1 ∨ cmpP p q = 0 ∨ cmpP p q = 1 := lex_range _ _
/-- The rows of a table rise. -/
def Rise (l : List Rw) : Prop := l.Pairwise fun a b => cmpP a.p b.p < 0
theorem rise_of : ∀ {l : List Rw}, (∀ i, i + 1 < l.length → cmpP (row l i).p (row l (i + 1)).p < 0) → Rise l
  | [], _ => List.Pairwise.nil
  | [a], _ => List.pairwise_singleton _ _
  | a :: b :: l, h => by
    have h1 : Rise (b :: l) := rise_of fun i hi => by
      have := h (i + 1) (by simp at hi ⊢; omega)
      simpa [row] using this
    have h0 : cmpP a.p b.p < 0 := by simpa [row] using h 0 (by simp)
    refine List.pairwise_cons.2 ⟨fun x hx => ?_, h1⟩
    rcases List.mem_cons.1 hx with rfl | hx
    · exact h0
    · exact cmp_trans h0 ((List.pairwise_cons.1 h1).1 x hx)
theorem TabOk.rise {l : List Rw} (h : TabOk l) : Rise l := rise_of fun i hi => by
  have := (h (i + 1) (Nat.zero_le _) hi).2.2.2.2 (by omega)
  simpa using this
theorem TabOk.mem {l : List Rw} (h : TabOk l) {r : Rw} (hr : r ∈ l) : PfxOk r.p ∧ 1 ≤ r.hop ∧ r.hop ≤ 255 := by
  obtain ⟨i, hi, rfl⟩ := List.mem_iff_getElem.1 hr
  have := h i (Nat.zero_le _) hi
  unfold RowOk at this
  have e : row l i = l[i] := by
    have h1 := row_some l hi
    rw [List.getElem?_eq_getElem hi] at h1
    exact (Option.some.inj h1).symm
  rw [e] at this
  exact ⟨this.2.1, this.2.2.1, this.2.2.2.1⟩
theorem tab_of {l : List Rw} (h0 : l.length ≤ 40) (h1 : Rise l) (h2 : ∀ r ∈ l, PfxOk r.p ∧ 1 ≤ r.hop ∧ r.hop ≤ 255) : TabOk l := fun i _ hi => by
  have e : ∀ j, j < l.length → row l j ∈ l := fun j hj => List.mem_of_getElem? (row_some l hj)
  obtain ⟨a, b, c⟩ := h2 _ (e i hi)
  refine ⟨by omega, a, b, c, fun h => ?_⟩
  have k1 := row_some l (show i - 1 < l.length by omega)
  have k2 := row_some l hi
  rw [List.getElem?_eq_getElem (show i - 1 < l.length by omega)] at k1
  rw [List.getElem?_eq_getElem hi] at k2
  have := List.pairwise_iff_getElem.1 h1 (i - 1) i (by omega) hi (by omega)
  rw [Option.some.inj k1, Option.some.inj k2] at this
  exact this
theorem Rise.filter {l : List Rw} (h : Rise l) (P : Rw → Bool) : Rise (l.filter P) := List.Pairwise.sublist List.filter_sublist h
/-- What stands behind so many rows is what is greater than the last one of them. -/
theorem Rise.behind {l : List Rw} (h : Rise l) {n : Nat} {r : Rw} (hr : (l.take n).getLast? = some r) : l.filter (fun x => decide (0 < cmpP x.p r.p)) = l.drop n := by
  have e : l = l.take n ++ l.drop n := (List.take_append_drop n l).symm
  have hp := h
  rw [Rise, e, List.pairwise_append] at hp
  have hm : r ∈ l.take n := List.mem_of_getLast? hr
  have h1 : (l.take n).filter (fun x => decide (0 < cmpP x.p r.p)) = [] := by
    rw [List.filter_eq_nil_iff]
    intro x hx
    obtain ⟨pre, hpre⟩ := List.getLast?_eq_some_iff.1 hr
    rw [hpre] at hx hp
    have hq := (List.pairwise_append.1 hp.1).2.2
    rcases List.mem_append.1 hx with h' | h'
    · have := hq x h' r (by simp)
      simp; omega
    · simp at h'; subst h'; simp [cmp_self]
  have h2 : (l.drop n).filter (fun x => decide (0 < cmpP x.p r.p)) = l.drop n := List.filter_eq_self.2 fun x hx => by
    have := hp.2.2 r hm x hx
    rw [cmp_anti] at this
    simp; omega
  conv => lhs; rw [e]
  rw [List.filter_append, h1, h2, List.nil_append]
end Go.Proofs.YtihbammfchnjgaaDoor.D

/- Arguments that are read: prefixes, addresses, rows, tables, rows of numbers. No condition. -/
set_option linter.unusedSimpArgs false
set_option maxRecDepth 20000
namespace Go.Proofs.YtihbammfchnjgaaDoor.D
open Go Go.RowKit Go.Proofs.YtihbammfchnjgaaDoor.A Go.Proofs.YtihbammfchnjgaaDoor.J
variable {w : World} {P : Program} {t : TypeId} {v : Value}
def I64 (n : Int) : Prop := -9223372036854775808 ≤ n ∧ n ≤ 9223372036854775807
def k8 : List CK := List.replicate 16 (.i .u8)
theorem fits_u8 : ∀ (n : Nat) (cs : List Value), Fits (List.replicate n (.i .u8)) cs → ∃ l : List Nat, l.length = n ∧ (∀ x ∈ l, x < 256) ∧ cs.map avOf = l.map u8c
  | 0, [], _ => ⟨[], rfl, by simp, rfl⟩
  | n + 1, c :: cs, h => by
    rw [List.replicate_succ] at h
    obtain ⟨⟨m, rfl, hm⟩, h2⟩ := h
    obtain ⟨l, h3, h4, h5⟩ := fits_u8 n cs h2
    have hm' : 0 ≤ m ∧ m ≤ 255 := by simp [Lit.wf] at hm; exact hm
    refine ⟨m.toNat :: l, by simp [h3], ?_, ?_⟩
    · intro x hx
      rcases List.mem_cons.1 hx with rfl | hx
      · omega
      · exact h4 x hx
    · simp only [List.map_cons, h5, avOf, u8c]
      rw [show ((m.toNat : Nat) : Int) = m by omega]
  | 0, _ :: _, h => h.elim
  | n + 1, [], h => by rw [List.replicate_succ] at h; exact h.elim
theorem fits_split : ∀ (k1 k2 : List CK) (cs : List Value), Fits (k1 ++ k2) cs → ∃ a b, cs = a ++ b ∧ Fits k1 a ∧ Fits k2 b
  | [], k2, cs, h => ⟨[], cs, rfl, trivial, h⟩
  | k :: k1, k2, c :: cs, h => by
    obtain ⟨a, b, rfl, h1, h2⟩ := fits_split k1 k2 cs h.2
    exact ⟨c :: a, b, rfl, ⟨h.1, h1⟩, h2⟩
  | _ :: _, _, [], h => h.elim
theorem fits_b16 {cs : List Value} (h : Fits k8 cs) : ∃ b : B16, cs.map avOf = bav b := by
  obtain ⟨l, h1, h2, h3⟩ := fits_u8 16 cs h
  exact ⟨⟨l, h1, h2⟩, h3⟩
theorem fits_adr {cs : List Value} (h : Fits (.i .i64 :: k8) cs) : ∃ a : Adr, cs.map avOf = aav a ∧ I64 a.ver := by
  match cs, h with
  | c :: cs, ⟨⟨n, hc, hn⟩, h2⟩ =>
    subst hc
    obtain ⟨b, hb⟩ := fits_b16 h2
    exact ⟨⟨n, b⟩, by simp only [List.map_cons, hb, avOf, aav], wf_i64 hn⟩
theorem fits_pfx {cs : List Value} (h : Fits (.i .i64 :: (k8 ++ [.i .i64])) cs) : ∃ p : Pfx, cs.map avOf = pav p ∧ I64 p.adr.ver ∧ I64 p.bits := by
  match cs, h with
  | c :: cs, ⟨⟨n, hc, hn⟩, h2⟩ =>
    subst hc
    obtain ⟨a, b, rfl, h3, h4⟩ := fits_split k8 [.i .i64] cs h2
    clear h2
    obtain ⟨b16, hb⟩ := fits_b16 h3
    obtain ⟨d, rfl⟩ := List.length_eq_one_iff.1 h4.length.symm
    obtain ⟨⟨m, hd, hm⟩, _⟩ := h4
    subst hd
    exact ⟨⟨⟨n, b16⟩, m⟩, by simp only [List.map_cons, List.map_append, hb, avOf, pav, List.map_nil], wf_i64 hn, wf_i64 hm⟩
theorem fits_rw {cs : List Value} (h : Fits (.i .i64 :: (k8 ++ [.i .i64, .i .i64])) cs) : ∃ r : Rw, cs.map avOf = rav r ∧ I64 r.p.adr.ver ∧ I64 r.p.bits ∧ I64 r.hop := by
  match cs, h with
  | c :: cs, ⟨⟨n, hc, hn⟩, h2⟩ =>
    subst hc
    obtain ⟨a, b, rfl, h3, h4⟩ := fits_split k8 [.i .i64, .i .i64] cs h2
    clear h2
    obtain ⟨b16, hb⟩ := fits_b16 h3
    obtain ⟨d, e, rfl⟩ : ∃ d e, b = [d, e] := by
      have h5 := h4.length
      match b, h5 with
      | [d, e], _ => exact ⟨d, e, rfl⟩
    obtain ⟨⟨m, hd, hm⟩, ⟨o, he, ho⟩, _⟩ := h4
    subst hd; subst he
    exact ⟨⟨⟨⟨n, b16⟩, m⟩, o⟩, by simp only [List.map_cons, List.map_append, hb, avOf, rav, List.map_nil], wf_i64 hn, wf_i64 hm, wf_i64 ho⟩
theorem plain_one {u : Value} (h : plainV u = true) : u.oneCell' = true := by cases u <;> first | rfl | cases h
theorem rep_flat {ks : List CK} {cs : List Value} (h : Fits ks cs) : Rep w (Old w) [] [] [] (.agg (cs.map avOf)) (.agg cs.toArray) :=
  .agg _ _ (by simp) (fun u hu => plain_one (fits_plain h u hu)) (avOf_repL (fits_plain h)).2
/-- A flat struct. -/
theorem reads_flat {fs : Array Field} {n : Nat} {ks : List CK} (h : Reads P w t v) (ht : P.underlying t = some (.struct fs)) (hf : flat P n t = some ks) : ∃ cs, Fits ks cs ∧ Rep w (Old w) [] [] [] (.agg (cs.map avOf)) v := by
  obtain ⟨cs, rfl, hr⟩ := h.agg ht
  exact ⟨cs, hr.flat hf, rep_flat (hr.flat hf)⟩
theorem reads_pfx {fs : Array Field} {n : Nat} (h : Reads P w t v) (ht : P.underlying t = some (.struct fs)) (hf : flat P n t = some (.i .i64 :: (k8 ++ [.i .i64]))) : ∃ p : Pfx, Rep w (Old w) [] [] [] (.agg (pav p)) v ∧ I64 p.adr.ver ∧ I64 p.bits := by
  obtain ⟨cs, h1, h2⟩ := reads_flat h ht hf
  obtain ⟨p, h3, h4⟩ := fits_pfx h1
  exact ⟨p, h3 ▸ h2, h4⟩
theorem rdc_slice {e : TypeId} {k : Nat} {α : Type} {enc : α → List AV} {ok : α → Prop} {n : Nat} {ks : List CK} {a : Option Addr} {css : List (List Value)} {cap : Nat} (hk : 0 < k) (hc : css.length ≤ cap) (hs : SlC w k a css) (hcs : ∀ c ∈ css, RdC P w e c) (hf : flat P n e = some ks) (hfit : ∀ cs, Fits ks cs → ∃ x : α, cs.map avOf = enc x ∧ ok x) :
    ∃ l : List α, l.length = css.length ∧ (∀ x ∈ l, ok x) ∧ Rep w (Old w) [] [] [] (.ro (l.map enc)) (.slice a css.length cap) := by
  have key : ∀ css : List (List Value), (∀ c ∈ css, RdC P w e c) → ∃ l : List α, l.length = css.length ∧ (∀ x ∈ l, ok x) ∧ css.map (·.map avOf) = l.map enc := by
    intro css
    induction css with
    | nil => exact fun _ => ⟨[], rfl, by simp, rfl⟩
    | cons c css ih =>
      intro h
      obtain ⟨l, h1, h2, h3⟩ := ih fun x hx => h x (List.mem_cons_of_mem _ hx)
      obtain ⟨x, h4, h5⟩ := hfit c ((h c List.mem_cons_self).flat hf)
      exact ⟨x :: l, by simp [h1], fun y hy => by
        rcases List.mem_cons.1 hy with rfl | hy
        · exact h5
        · exact h2 y hy, by simp only [List.map_cons, h4, h3]⟩
  obtain ⟨l, h1, h2, h3⟩ := key css hcs
  exact ⟨l, h1, h2, h3 ▸ slice_rep hk hs hc fun c hc u hu => fits_plain ((hcs c hc).flat hf) u hu⟩
theorem maxLen_le : maxLen ≤ 9223372036854775807 := by decide
/-- A slice of flat things. -/
theorem reads_slice {e : TypeId} {k : Nat} {α : Type} {enc : α → List AV} {ok : α → Prop} {n : Nat} {ks : List CK} (h : Reads P w t v) (ht : P.underlying t = some (.slice e)) (hk : k = P.cellsOf e) (hpos : 0 < k) (hf : flat P n e = some ks) (hfit : ∀ cs, Fits ks cs → ∃ x : α, cs.map avOf = enc x ∧ ok x) :
    ∃ l : List α, l.length ≤ 9223372036854775807 ∧ (∀ x ∈ l, ok x) ∧ Rep w (Old w) [] [] [] (.ro (l.map enc)) v := by
  obtain ⟨a, cap, css, rfl, h1, h2, h3, h4⟩ := h.slice ht hk hpos
  obtain ⟨l, h5, h6, h7⟩ := rdc_slice hpos h1 h3 h4 hf hfit
  exact ⟨l, by have := maxLen_le; omega, h6, h7⟩
theorem fits_int {cs : List Value} (h : Fits [.i .i64] cs) : ∃ n : Int, cs.map avOf = [.int .i64 n] ∧ I64 n := by
  obtain ⟨c, rfl⟩ := List.length_eq_one_iff.1 h.length.symm
  obtain ⟨⟨n, hc, hn⟩, _⟩ := h
  subst hc; exact ⟨n, rfl, wf_i64 hn⟩
/-- A struct of one slice of flat things. -/
theorem reads_one {e ts : TypeId} {k : Nat} {α : Type} {enc : α → List AV} {ok : α → Prop} {n : Nat} {ks : List CK} {f : Field} (h : Reads P w t v) (ht : P.underlying t = some (.struct #[f])) (hoff : f.offset = 0) (hty : f.type = ts) (hc1 : P.cellsOf t = 1) (hc2 : P.cellsOf ts = 1) (hts : P.underlying ts = some (.slice e)) (hk : k = P.cellsOf e) (hpos : 0 < k) (hf : flat P n e = some ks) (hfit : ∀ cs, Fits ks cs → ∃ x : α, cs.map avOf = enc x ∧ ok x) :
    ∃ l : List α, l.length ≤ 9223372036854775807 ∧ (∀ x ∈ l, ok x) ∧ Rep w (Old w) [] [] [] (.agg [.ro (l.map enc)]) v := by
  obtain ⟨cs, rfl, hr⟩ := h.agg ht
  obtain ⟨h1, h2⟩ := hr.struct ht
  rw [hc1] at h1
  obtain ⟨c, rfl⟩ := List.length_eq_one_iff.1 h1
  have h3 := h2 f (by simp)
  rw [hoff, hty, hc2] at h3
  obtain ⟨a, cap, css, h4, h5, h6, h7, h8⟩ := h3.slice hts hk hpos
  simp at h4
  subst h4
  obtain ⟨l, h9, h10, h11⟩ := rdc_slice hpos h5 h7 h8 hf hfit
  refine ⟨l, by have := maxLen_le; omega, h10, .agg _ _ rfl (by simp [Value.oneCell']) fun i x u hx hu => ?_⟩
  cases i with
  | zero =>
    simp at hx hu
    subst hx; subst hu
    exact h11
  | succ i => simp at hx
end Go.Proofs.YtihbammfchnjgaaDoor.D

/- Who contains whom is an order. No condition. -/
set_option linter.unusedSimpArgs false
namespace Go.Proofs.YtihbammfchnjgaaDoor.D
open Go Go.Proofs.YtihbammfchnjgaaDoor.A
theorem cut_cut' (b : B16) {m n : Nat} (h : m ≤ n) : cut (cut b n) m = cut b m := bits_ext fun k hk => by
  rw [cut_bit _ _ hk, cut_bit _ _ hk, cut_bit _ _ hk]
  by_cases h1 : k < m
  · simp [h1, show k < n by omega]
  · simp [h1]
theorem cut_clr {b : B16} {n : Nat} (h : Clr b n) : cut b n = b := bits_ext fun k hk => by
  rw [cut_bit _ _ hk]
  by_cases h1 : k < n
  · simp [h1]
  · simp [h1, h k (by omega) hk]
theorem Holds.ok {p q : Pfx} (h : Holds p q) : PfxOk p ∧ PfxOk q ∧ p.bits ≤ q.bits ∧ p.adr.ver = q.adr.ver ∧ cut q.adr.b p.bits.toNat = p.adr.b := ⟨h.2.2.1, h.1, h.2.1, h.2.2.2.2.1, h.2.2.2.2.2⟩
theorem holds_of {p q : Pfx} (h1 : PfxOk p) (h2 : PfxOk q) (h3 : p.bits ≤ q.bits) (h4 : p.adr.ver = q.adr.ver) (h5 : cut q.adr.b p.bits.toNat = p.adr.b) : Holds p q := ⟨h2, h3, h1, h2.1, h4, h5⟩
theorem holds_refl {p : Pfx} (h : PfxOk p) : Holds p p := holds_of h h (Int.le_refl _) rfl (cut_clr h.2.2.2)
theorem holds_trans {p q r : Pfx} (h : Holds p q) (k : Holds q r) : Holds p r := by
  obtain ⟨a1, a2, a3, a4, a5⟩ := h.ok
  obtain ⟨b1, b2, b3, b4, b5⟩ := k.ok
  refine holds_of a1 b2 (by omega) (a4.trans b4) ?_
  rw [← a5, ← b5, cut_cut' _ (by have := a1.2.1; omega)]
theorem holds_anti {p q : Pfx} (h : Holds p q) (k : Holds q p) : p = q := by
  obtain ⟨a1, a2, a3, a4, a5⟩ := h.ok
  obtain ⟨b1, b2, b3, b4, b5⟩ := k.ok
  have hb : p.bits = q.bits := by omega
  have hc := cut_clr a2.2.2.2
  rw [← hb, a5] at hc
  obtain ⟨⟨v, b⟩, n⟩ := p
  obtain ⟨⟨w, c⟩, m⟩ := q
  simp only at hb hc a4
  subst hb; subst hc; subst a4; rfl
theorem holds_comp {x y q : Pfx} (h : Holds x q) (k : Holds y q) : Holds x y ∨ Holds y x := by
  obtain ⟨a1, a2, a3, a4, a5⟩ := h.ok
  obtain ⟨b1, b2, b3, b4, b5⟩ := k.ok
  have p1 := a1.2.1
  have p2 := b1.2.1
  rcases Int.le_total x.bits y.bits with hl | hl
  · exact .inl (holds_of a1 b1 hl (a4.trans b4.symm) (by rw [← a5, ← b5, cut_cut' _ (by omega)]))
  · exact .inr (holds_of b1 a1 hl (b4.trans a4.symm) (by rw [← a5, ← b5, cut_cut' _ (by omega)]))
end Go.Proofs.YtihbammfchnjgaaDoor.D

/- Who contains an address, or a prefix; the longest match. No condition. -/
set_option linter.unusedSimpArgs false
namespace Go.Proofs.YtihbammfchnjgaaDoor.D
open Go Go.Proofs.YtihbammfchnjgaaDoor.A
/-- The longest match: the first one of the greatest length. -/
def better (a : Adr) (best : Option Rw) (r : Rw) : Option Rw := if Has r.p a then match best with
  | none => some r
  | some b => if b.p.bits < r.p.bits then some r else some b
  else best
def longS (a : Adr) (l : List Rw) (best : Option Rw) : Option Rw := l.foldl (better a) best
theorem lex_ge : ∀ {l r : List Int}, (∀ (i : Nat) x y, l[i]? = some x → r[i]? = some y → y ≤ x) → 0 ≤ lexL l r
  | a :: l, b :: r, h => by
    have h0 := h 0 a b rfl rfl
    simp only [lexL, show ¬ a < b by omega, if_false]
    split
    · decide
    · exact lex_ge fun i x y hx hy => h (i + 1) x y (by simpa using hx) (by simpa using hy)
  | [], _, _ => by simp [lexL]
  | _ :: _, [], _ => by simp [lexL]
theorem cutN_mono (x m n : Nat) (h : n ≤ m) : cutN x n ≤ cutN x m := by
  apply Nat.le_of_not_lt
  intro hlt
  have e : cutN (cutN x m) n = cutN x n := by
    apply Nat.eq_of_testBit_eq
    intro j
    rw [cutN_bit, cutN_bit, cutN_bit]
    by_cases h1 : 8 - n ≤ j
    · simp [h1, show 8 - m ≤ j by omega]
    · simp [h1]
  have := cutN_le (cutN x m) n
  omega
theorem cut_cut (b : B16) {m n : Nat} (h : m ≤ n) : cut (cut b n) m = cut b m := bits_ext fun k hk => by
  rw [cut_bit _ _ hk, cut_bit _ _ hk, cut_bit _ _ hk]
  by_cases h1 : k < m
  · simp [h1, show k < n by omega]
  · simp [h1]
theorem ints_at (b : B16) {i : Nat} {x : Int} (h : (ints b)[i]? = some x) : x = (b.get i : Int) ∧ i < 16 := by
  have hi : i < 16 := by
    have := (List.getElem?_eq_some_iff.1 h).1
    rwa [ints_len] at this
  simp only [ints, List.getElem?_map, b.get_some hi, Option.map_some, Option.some.injEq] at h
  exact ⟨h.symm, hi⟩
theorem cut_ge (b : B16) {m n : Nat} (h : n ≤ m) : 0 ≤ lexL (ints (cut b m)) (ints (cut b n)) := lex_ge fun i x y hx hy => by
  obtain ⟨rfl, hi⟩ := ints_at _ hx
  obtain ⟨rfl, _⟩ := ints_at _ hy
  rw [cut_get _ _ hi, cut_get _ _ hi]
  have := cutN_mono (b.get i) (m - 8 * i) (n - 8 * i) (by omega)
  omega
end Go.Proofs.YtihbammfchnjgaaDoor.D
namespace Go.Proofs.YtihbammfchnjgaaDoor.F
open Go Go.Proofs.YtihbammfchnjgaaDoor.A Go.Proofs.YtihbammfchnjgaaDoor.D
/-- Of two that contain an address the one that stands ahead is the shorter one, and contains the other one. -/
theorem has_lt {p q : Pfx} {a : Adr} (hp : Has p a) (hq : Has q a) (h : cmpP p q < 0) : p.bits < q.bits ∧ Holds p q := by
  obtain ⟨p1, p2, p3, p4⟩ := hp
  obtain ⟨q1, q2, q3, q4⟩ := hq
  have hb : p.bits < q.bits := by
    apply Int.lt_of_not_ge
    intro hge
    have h0 := q1.2.1
    have hl := cut_ge a.b (m := p.bits.toNat) (n := q.bits.toNat) (by omega)
    rw [p4, q4] at hl
    rw [cmp_key, show cmpI p.adr.ver q.adr.ver = 0 by rw [p3, q3]; simp [cmpI]] at h
    simp only [ne_eq, not_true_eq_false, if_false] at h
    by_cases hz : lexL (ints p.adr.b) (ints q.adr.b) = 0
    · simp only [hz, not_true_eq_false, if_false] at h
      unfold cmpI at h
      rw [if_neg (by omega)] at h
      split at h <;> omega
    · rw [if_pos hz] at h; omega
  refine ⟨hb, q1, by omega, p1, q1.1, by rw [p3, q3], ?_⟩
  have := p1.2.1
  rw [← q4, cut_cut a.b (by omega)]; exact p4
theorem long_last {a : Adr} : ∀ (l : List Rw) (best : Option Rw), Rise l → (∀ b, best = some b → ∀ r ∈ l, Has r.p a → b.p.bits < r.p.bits) → longS a l best = match (l.filter fun r => decide (Has r.p a)).getLast? with
    | some r => some r
    | none => best
  | [], best, _, _ => rfl
  | r :: l, best, h, hb => by
    have h1 := List.pairwise_cons.1 h
    by_cases hr : Has r.p a
    · have e : better a best r = some r := by
        unfold better
        rw [if_pos hr]
        cases best with
        | none => rfl
        | some b => simp only; rw [if_pos (hb b rfl r (by simp) hr)]
      have ih := long_last l (some r) h1.2 fun b hb' x hx hx' => by
        cases hb'
        exact (has_lt hr hx' (h1.1 x hx)).1
      show longS a l (better a best r) = _
      rw [e, ih]
      rw [List.filter_cons, if_pos (by simpa using hr)]
      cases hl : (l.filter fun r => decide (Has r.p a)).getLast? with
      | none =>
        have : (l.filter fun r => decide (Has r.p a)) = [] := by simpa using hl
        rw [this]; rfl
      | some x =>
        rw [List.getLast?_cons, hl]; rfl
    · have e : better a best r = best := by unfold better; rw [if_neg hr]
      show longS a l (better a best r) = _
      rw [e, long_last l best h1.2 fun b hb' x hx hx' => hb b hb' x (by simp [hx]) hx', List.filter_cons, if_neg (by simpa using hr)]
theorem pred56 {bs : List Blk} {a lk e : Nat} {p : Pfx} (h : bs[a]? = some (.box lk e (pav p))) : PredOk 56 [.ptr a 0 0 0] (fun r => decide (Holds r.p p)) bs := fun ys pend ext r => by
  have g : ∀ r, ((bs ++ ext) ++ r)[a]? = some (.box lk e (pav p)) := fun r => get_lt (get_lt h)
  rw [LR_R (fn := f56) rfl rfl rfl]
  simp only [f56, RB, pickV, eqbV, notV, negV, convV, faddrV, fldV, idxV, eqaggV, iaddrV, isnilV, nilckV, cloV, extrV, slenV, minV, sidxV, abin, cmpInt, params, growLists, fillCells, newAt, rdPtr, wrPtr, AV.cells, asVal, lenOf, boundOf, rowsOf, argIds, freshIn, scalar1, setAll, AV.isData, AV.isYld, Nat.reduceAdd, Nat.reduceMul, Nat.reduceSub, Nat.reduceEqDiff, Nat.reduceLeDiff, Nat.reduceLT, Int.reduceNeg, ↓reduceIte, reduceCtorEq, Int.reduceEq, Int.reduceLT, Int.reduceLE, Int.reduceBEq, Int.reduceBNe, Int.reduceToNat, IntKind.bits, Int.reduceAdd, Int.reduceSub, Int.reduceMul, Int.reduceTDiv, Int.reduceTMod, DB, DB2, R7B, g, e37]
  exact ⟨_, rfl⟩
theorem pred62 {bs : List Blk} {a lk e : Nat} {p : Adr} (h : bs[a]? = some (.box lk e (aav p))) : PredOk 62 [.ptr a 0 0 0] (fun r => decide (Has r.p p)) bs := fun ys pend ext r => by
  have g : ∀ r, ((bs ++ ext) ++ r)[a]? = some (.box lk e (aav p)) := fun r => get_lt (get_lt h)
  rw [LR_R (fn := f62) rfl rfl rfl]
  simp only [f62, RB, pickV, eqbV, notV, negV, convV, faddrV, fldV, idxV, eqaggV, iaddrV, isnilV, nilckV, cloV, extrV, slenV, minV, sidxV, abin, cmpInt, params, growLists, fillCells, newAt, rdPtr, wrPtr, AV.cells, asVal, lenOf, boundOf, rowsOf, argIds, freshIn, scalar1, setAll, AV.isData, AV.isYld, Nat.reduceAdd, Nat.reduceMul, Nat.reduceSub, Nat.reduceEqDiff, Nat.reduceLeDiff, Nat.reduceLT, Int.reduceNeg, ↓reduceIte, reduceCtorEq, Int.reduceEq, Int.reduceLT, Int.reduceLE, Int.reduceBEq, Int.reduceBNe, Int.reduceToNat, IntKind.bits, Int.reduceAdd, Int.reduceSub, Int.reduceMul, Int.reduceTDiv, Int.reduceTMod, DB, DB2, R7B, g, e39]
  exact ⟨_, rfl⟩
theorem e25 (l : List Rw) (hl : l.length ≤ 1000000) (p : Pfx) : LV E 25 [.agg [.ro (rrows l)], .agg (pav p)] = some (if TabOk l then if PfxOk p then .tup [.fresh 59 19 (rrows (l.filter fun r => decide (Holds r.p p))), .int .i64 0] else .tup [.fresh 59 19 [], .int .i64 151] else .tup [.fresh 59 19 [], .int .i64 190]) := by
  rw [LV_R (fn := f25) rfl rfl rfl]
  simp only [f25, RB, pickV, eqbV, notV, negV, convV, faddrV, fldV, idxV, eqaggV, iaddrV, isnilV, nilckV, cloV, extrV, slenV, minV, sidxV, abin, cmpInt, params, growLists, fillCells, newAt, rdPtr, wrPtr, AV.cells, asVal, lenOf, boundOf, rowsOf, argIds, freshIn, scalar1, setAll, AV.isData, AV.isYld, Nat.reduceAdd, Nat.reduceMul, Nat.reduceSub, Nat.reduceEqDiff, Nat.reduceLeDiff, Nat.reduceLT, Int.reduceNeg, ↓reduceIte, reduceCtorEq, Int.reduceEq, Int.reduceLT, Int.reduceLE, Int.reduceBEq, Int.reduceBNe, Int.reduceToNat, IntKind.bits, Int.reduceAdd, Int.reduceSub, Int.reduceMul, Int.reduceTDiv, Int.reduceTMod, DB, DB2, e44 l (show l.length ≤ 4611686018427387904 by omega)]
  by_cases h1 : TabOk l
  · by_cases h2 : PfxOk p
    · obtain ⟨n, r, h3, h4⟩ := r54 (bs := [.box 0 24 [.ro (rrows l)], .box 0 32 (pav p), .lst 0 0 59 19 [], .box 0 24 [.ro (rrows l)], .box 0 88 [.clo 56 [.ptr 1 0 0 0]]]) (a := 3) (b := 4) hl rfl rfl (by simp only [RB, pickV, eqbV, notV, negV, convV, faddrV, fldV, idxV, eqaggV, iaddrV, isnilV, nilckV, cloV, extrV, slenV, minV, sidxV, abin, cmpInt, params, growLists, fillCells, newAt, rdPtr, wrPtr, AV.cells, asVal, lenOf, boundOf, rowsOf, argIds, freshIn, scalar1, setAll, AV.isData, AV.isYld, Nat.reduceAdd, Nat.reduceMul, Nat.reduceSub, Nat.reduceEqDiff, Nat.reduceLeDiff, Nat.reduceLT, Int.reduceNeg, ↓reduceIte, reduceCtorEq, Int.reduceEq, Int.reduceLT, Int.reduceLE, Int.reduceBEq, Int.reduceBNe, Int.reduceToNat, IntKind.bits, Int.reduceAdd, Int.reduceSub, Int.reduceMul, Int.reduceTDiv, Int.reduceTMod, LPB]) (pred56 (a := 1) rfl)
      simp only [RB, pickV, eqbV, notV, negV, convV, faddrV, fldV, idxV, eqaggV, iaddrV, isnilV, nilckV, cloV, extrV, slenV, minV, sidxV, abin, cmpInt, params, growLists, fillCells, newAt, rdPtr, wrPtr, AV.cells, asVal, lenOf, boundOf, rowsOf, argIds, freshIn, scalar1, setAll, AV.isData, AV.isYld, Nat.reduceAdd, Nat.reduceMul, Nat.reduceSub, Nat.reduceEqDiff, Nat.reduceLeDiff, Nat.reduceLT, Int.reduceNeg, ↓reduceIte, reduceCtorEq, Int.reduceEq, Int.reduceLT, Int.reduceLE, Int.reduceBEq, Int.reduceBNe, Int.reduceToNat, IntKind.bits, Int.reduceAdd, Int.reduceSub, Int.reduceMul, Int.reduceTDiv, Int.reduceTMod, DB, DB2, h1, h2, bne_self_eq_false, r46, R7B, h3, h4, expCell, List.nodup_cons, List.nodup_nil, List.not_mem_nil, not_false_eq_true, not_true_eq_false, and_true, and_false, if_false, List.mem_cons, mutIds, List.take_length]
    · simp only [RB, pickV, eqbV, notV, negV, convV, faddrV, fldV, idxV, eqaggV, iaddrV, isnilV, nilckV, cloV, extrV, slenV, minV, sidxV, abin, cmpInt, params, growLists, fillCells, newAt, rdPtr, wrPtr, AV.cells, asVal, lenOf, boundOf, rowsOf, argIds, freshIn, scalar1, setAll, AV.isData, AV.isYld, Nat.reduceAdd, Nat.reduceMul, Nat.reduceSub, Nat.reduceEqDiff, Nat.reduceLeDiff, Nat.reduceLT, Int.reduceNeg, ↓reduceIte, reduceCtorEq, Int.reduceEq, Int.reduceLT, Int.reduceLE, Int.reduceBEq, Int.reduceBNe, Int.reduceToNat, IntKind.bits, Int.reduceAdd, Int.reduceSub, Int.reduceMul, Int.reduceTDiv, Int.reduceTMod, DB, DB2, h1, h2, expCell, List.nodup_cons, List.nodup_nil, List.not_mem_nil, not_false_eq_true, not_true_eq_false, and_true, and_false, if_false, List.mem_cons, mutIds, rrows_nil]
  · simp only [RB, pickV, eqbV, notV, negV, convV, faddrV, fldV, idxV, eqaggV, iaddrV, isnilV, nilckV, cloV, extrV, slenV, minV, sidxV, abin, cmpInt, params, growLists, fillCells, newAt, rdPtr, wrPtr, AV.cells, asVal, lenOf, boundOf, rowsOf, argIds, freshIn, scalar1, setAll, AV.isData, AV.isYld, Nat.reduceAdd, Nat.reduceMul, Nat.reduceSub, Nat.reduceEqDiff, Nat.reduceLeDiff, Nat.reduceLT, Int.reduceNeg, ↓reduceIte, reduceCtorEq, Int.reduceEq, Int.reduceLT, Int.reduceLE, Int.reduceBEq, Int.reduceBNe, Int.reduceToNat, IntKind.bits, Int.reduceAdd, Int.reduceSub, Int.reduceMul, Int.reduceTDiv, Int.reduceTMod, DB, DB2, h1, expCell, List.nodup_cons, List.nodup_nil, List.not_mem_nil, not_false_eq_true, not_true_eq_false, and_true, and_false, if_false, List.mem_cons, mutIds, rrows_nil]
theorem e30 (l : List Rw) (hl : l.length ≤ 1000000) (a : Adr) : LV E 30 [.agg [.ro (rrows l)], .agg (aav a)] = some (if TabOk l then if AddrOk a then .tup [.fresh 59 19 (rrows (l.filter fun r => decide (Has r.p a))), .int .i64 0] else .tup [.fresh 59 19 [], .int .i64 150] else .tup [.fresh 59 19 [], .int .i64 190]) := by
  rw [LV_R (fn := f30) rfl rfl rfl]
  simp only [f30, RB, pickV, eqbV, notV, negV, convV, faddrV, fldV, idxV, eqaggV, iaddrV, isnilV, nilckV, cloV, extrV, slenV, minV, sidxV, abin, cmpInt, params, growLists, fillCells, newAt, rdPtr, wrPtr, AV.cells, asVal, lenOf, boundOf, rowsOf, argIds, freshIn, scalar1, setAll, AV.isData, AV.isYld, Nat.reduceAdd, Nat.reduceMul, Nat.reduceSub, Nat.reduceEqDiff, Nat.reduceLeDiff, Nat.reduceLT, Int.reduceNeg, ↓reduceIte, reduceCtorEq, Int.reduceEq, Int.reduceLT, Int.reduceLE, Int.reduceBEq, Int.reduceBNe, Int.reduceToNat, IntKind.bits, Int.reduceAdd, Int.reduceSub, Int.reduceMul, Int.reduceTDiv, Int.reduceTMod, DB, DB2, e60 l (show l.length ≤ 4611686018427387904 by omega)]
  by_cases h1 : TabOk l
  · by_cases h2 : AddrOk a
    · obtain ⟨n, r, h3, h4⟩ := r54 (bs := [.box 0 24 [.ro (rrows l)], .box 0 30 (aav a), .lst 0 0 59 19 [], .box 0 24 [.ro (rrows l)], .box 0 88 [.clo 62 [.ptr 1 0 0 0]]]) (a := 3) (b := 4) hl rfl rfl (by simp only [RB, pickV, eqbV, notV, negV, convV, faddrV, fldV, idxV, eqaggV, iaddrV, isnilV, nilckV, cloV, extrV, slenV, minV, sidxV, abin, cmpInt, params, growLists, fillCells, newAt, rdPtr, wrPtr, AV.cells, asVal, lenOf, boundOf, rowsOf, argIds, freshIn, scalar1, setAll, AV.isData, AV.isYld, Nat.reduceAdd, Nat.reduceMul, Nat.reduceSub, Nat.reduceEqDiff, Nat.reduceLeDiff, Nat.reduceLT, Int.reduceNeg, ↓reduceIte, reduceCtorEq, Int.reduceEq, Int.reduceLT, Int.reduceLE, Int.reduceBEq, Int.reduceBNe, Int.reduceToNat, IntKind.bits, Int.reduceAdd, Int.reduceSub, Int.reduceMul, Int.reduceTDiv, Int.reduceTMod, LPB]) (pred62 (a := 1) rfl)
      simp only [RB, pickV, eqbV, notV, negV, convV, faddrV, fldV, idxV, eqaggV, iaddrV, isnilV, nilckV, cloV, extrV, slenV, minV, sidxV, abin, cmpInt, params, growLists, fillCells, newAt, rdPtr, wrPtr, AV.cells, asVal, lenOf, boundOf, rowsOf, argIds, freshIn, scalar1, setAll, AV.isData, AV.isYld, Nat.reduceAdd, Nat.reduceMul, Nat.reduceSub, Nat.reduceEqDiff, Nat.reduceLeDiff, Nat.reduceLT, Int.reduceNeg, ↓reduceIte, reduceCtorEq, Int.reduceEq, Int.reduceLT, Int.reduceLE, Int.reduceBEq, Int.reduceBNe, Int.reduceToNat, IntKind.bits, Int.reduceAdd, Int.reduceSub, Int.reduceMul, Int.reduceTDiv, Int.reduceTMod, DB, DB2, h1, h2, e61, bne_self_eq_false, r46, R7B, h3, h4, expCell, List.nodup_cons, List.nodup_nil, List.not_mem_nil, not_false_eq_true, not_true_eq_false, and_true, and_false, if_false, List.mem_cons, mutIds, List.take_length]
    · simp only [RB, pickV, eqbV, notV, negV, convV, faddrV, fldV, idxV, eqaggV, iaddrV, isnilV, nilckV, cloV, extrV, slenV, minV, sidxV, abin, cmpInt, params, growLists, fillCells, newAt, rdPtr, wrPtr, AV.cells, asVal, lenOf, boundOf, rowsOf, argIds, freshIn, scalar1, setAll, AV.isData, AV.isYld, Nat.reduceAdd, Nat.reduceMul, Nat.reduceSub, Nat.reduceEqDiff, Nat.reduceLeDiff, Nat.reduceLT, Int.reduceNeg, ↓reduceIte, reduceCtorEq, Int.reduceEq, Int.reduceLT, Int.reduceLE, Int.reduceBEq, Int.reduceBNe, Int.reduceToNat, IntKind.bits, Int.reduceAdd, Int.reduceSub, Int.reduceMul, Int.reduceTDiv, Int.reduceTMod, DB, DB2, h1, h2, e61, bne_self_eq_false, expCell, List.nodup_cons, List.nodup_nil, List.not_mem_nil, not_false_eq_true, not_true_eq_false, and_true, and_false, if_false, List.mem_cons, mutIds, rrows_nil]
  · simp only [RB, pickV, eqbV, notV, negV, convV, faddrV, fldV, idxV, eqaggV, iaddrV, isnilV, nilckV, cloV, extrV, slenV, minV, sidxV, abin, cmpInt, params, growLists, fillCells, newAt, rdPtr, wrPtr, AV.cells, asVal, lenOf, boundOf, rowsOf, argIds, freshIn, scalar1, setAll, AV.isData, AV.isYld, Nat.reduceAdd, Nat.reduceMul, Nat.reduceSub, Nat.reduceEqDiff, Nat.reduceLeDiff, Nat.reduceLT, Int.reduceNeg, ↓reduceIte, reduceCtorEq, Int.reduceEq, Int.reduceLT, Int.reduceLE, Int.reduceBEq, Int.reduceBNe, Int.reduceToNat, IntKind.bits, Int.reduceAdd, Int.reduceSub, Int.reduceMul, Int.reduceTDiv, Int.reduceTMod, DB, DB2, h1, expCell, List.nodup_cons, List.nodup_nil, List.not_mem_nil, not_false_eq_true, not_true_eq_false, and_true, and_false, if_false, List.mem_cons, mutIds, rrows_nil]
theorem e36 (l : List Rw) (hl : l.length ≤ 1000000) (a : Adr) : LV E 36 [.agg [.ro (rrows l)], .agg (aav a)] = some (if TabOk l then if AddrOk a then .tup [.agg (rav ((longS a l none).getD zerR)), .bool (longS a l none).isSome, .int .i64 0] else .tup [.agg (rav zerR), .bool false, .int .i64 150] else .tup [.agg (rav zerR), .bool false, .int .i64 190]) := by
  rw [LV_R (fn := f36) rfl rfl rfl]
  simp only [f36, ← rav_zer, RB, pickV, eqbV, notV, negV, convV, faddrV, fldV, idxV, eqaggV, iaddrV, isnilV, nilckV, cloV, extrV, slenV, minV, sidxV, abin, cmpInt, params, growLists, fillCells, newAt, rdPtr, wrPtr, AV.cells, asVal, lenOf, boundOf, rowsOf, argIds, freshIn, scalar1, setAll, AV.isData, AV.isYld, Nat.reduceAdd, Nat.reduceMul, Nat.reduceSub, Nat.reduceEqDiff, Nat.reduceLeDiff, Nat.reduceLT, Int.reduceNeg, ↓reduceIte, reduceCtorEq, Int.reduceEq, Int.reduceLT, Int.reduceLE, Int.reduceBEq, Int.reduceBNe, Int.reduceToNat, IntKind.bits, Int.reduceAdd, Int.reduceSub, Int.reduceMul, Int.reduceTDiv, Int.reduceTMod, DB, DB2, e60 l (show l.length ≤ 4611686018427387904 by omega)]
  by_cases h1 : TabOk l
  · by_cases h2 : AddrOk a
    · simp only [RB, pickV, eqbV, notV, negV, convV, faddrV, fldV, idxV, eqaggV, iaddrV, isnilV, nilckV, cloV, extrV, slenV, minV, sidxV, abin, cmpInt, params, growLists, fillCells, newAt, rdPtr, wrPtr, AV.cells, asVal, lenOf, boundOf, rowsOf, argIds, freshIn, scalar1, setAll, AV.isData, AV.isYld, Nat.reduceAdd, Nat.reduceMul, Nat.reduceSub, Nat.reduceEqDiff, Nat.reduceLeDiff, Nat.reduceLT, Int.reduceNeg, ↓reduceIte, reduceCtorEq, Int.reduceEq, Int.reduceLT, Int.reduceLE, Int.reduceBEq, Int.reduceBNe, Int.reduceToNat, IntKind.bits, Int.reduceAdd, Int.reduceSub, Int.reduceMul, Int.reduceTDiv, Int.reduceTMod, DB, DB2, h1, h2, e61, bne_self_eq_false]
      refine (W_rec2 (β := AV) (ι := Nat × Option Rw) (M := fun s => [(3, .ptr 1 0 0 0), (4, .ptr 2 0 0 0), (7, .ptr 3 0 0 0), (8, .bool s.2.isSome), (22, .ro (rrows l)), (23, .int .i64 (l.length : Int)), (24, .int .i64 (s.1 : Int))])
        (H := fun s => ⟨[.box 0 24 [.ro (rrows l)], .box 0 30 (aav a), .box 0 59 (rav zerR), .box 0 59 (rav (s.2.getD zerR))], []⟩)
        (r := fun s => some (AV.tup [.agg (rav ((longS a (l.drop s.1) s.2).getD zerR)), .bool (longS a (l.drop s.1) s.2).isSome, .int .i64 0])) (μ := fun s => l.length - s.1) (fun s => ?_) (fun s ih => ?_) (0, none) rfl rfl)
      · simp [LPB]
      · obtain ⟨k, best⟩ := s
        simp only at ih ⊢
        by_cases hk : k < l.length
        · have f1 : (k : Int) < (l.length : Int) := by omega
          have f2 : (0 : Int) ≤ (k : Int) := by omega
          have f6 : IntKind.i64.wrap ((k : Int) + 1) = ((k + 1 : Nat) : Int) := by rw [IntWalk.i64_in _ (by omega)] <;> omega
          have g1 := rrows_get l hk
          have ed : l.drop k = row l k :: l.drop (k + 1) := by
            have h1 := row_some l hk
            rw [List.getElem?_eq_getElem hk] at h1
            rw [List.drop_eq_getElem_cons hk, Option.some.inj h1]
          have el : longS a (l.drop k) best = longS a (l.drop (k + 1)) (better a best (row l k)) := by rw [ed]; rfl
          rw [el]
          have ih := ih (k + 1, better a best (row l k)) (by simp only; omega)
          simp only at ih
          rw [← ih]
          unfold better
          by_cases hh : Has (row l k).p a
          · cases best with
            | none => simp only [RB, pickV, eqbV, notV, negV, convV, faddrV, fldV, idxV, eqaggV, iaddrV, isnilV, nilckV, cloV, extrV, slenV, minV, sidxV, abin, cmpInt, params, growLists, fillCells, newAt, rdPtr, wrPtr, AV.cells, asVal, lenOf, boundOf, rowsOf, argIds, freshIn, scalar1, setAll, AV.isData, AV.isYld, Nat.reduceAdd, Nat.reduceMul, Nat.reduceSub, Nat.reduceEqDiff, Nat.reduceLeDiff, Nat.reduceLT, Int.reduceNeg, ↓reduceIte, reduceCtorEq, Int.reduceEq, Int.reduceLT, Int.reduceLE, Int.reduceBEq, Int.reduceBNe, Int.reduceToNat, IntKind.bits, Int.reduceAdd, Int.reduceSub, Int.reduceMul, Int.reduceTDiv, Int.reduceTMod, DB, DB2, R7B, f1, f2, f6, g1, e39, hh, Option.isSome_none, Option.isSome_some, Option.getD_some, Option.getD_none]
            | some b =>
              by_cases hb : b.p.bits < (row l k).p.bits
              · simp only [RB, pickV, eqbV, notV, negV, convV, faddrV, fldV, idxV, eqaggV, iaddrV, isnilV, nilckV, cloV, extrV, slenV, minV, sidxV, abin, cmpInt, params, growLists, fillCells, newAt, rdPtr, wrPtr, AV.cells, asVal, lenOf, boundOf, rowsOf, argIds, freshIn, scalar1, setAll, AV.isData, AV.isYld, Nat.reduceAdd, Nat.reduceMul, Nat.reduceSub, Nat.reduceEqDiff, Nat.reduceLeDiff, Nat.reduceLT, Int.reduceNeg, ↓reduceIte, reduceCtorEq, Int.reduceEq, Int.reduceLT, Int.reduceLE, Int.reduceBEq, Int.reduceBNe, Int.reduceToNat, IntKind.bits, Int.reduceAdd, Int.reduceSub, Int.reduceMul, Int.reduceTDiv, Int.reduceTMod, DB, DB2, R7B, f1, f2, f6, g1, e39, hh, hb, Option.isSome_none, Option.isSome_some, Option.getD_some, Option.getD_none]
              · simp only [RB, pickV, eqbV, notV, negV, convV, faddrV, fldV, idxV, eqaggV, iaddrV, isnilV, nilckV, cloV, extrV, slenV, minV, sidxV, abin, cmpInt, params, growLists, fillCells, newAt, rdPtr, wrPtr, AV.cells, asVal, lenOf, boundOf, rowsOf, argIds, freshIn, scalar1, setAll, AV.isData, AV.isYld, Nat.reduceAdd, Nat.reduceMul, Nat.reduceSub, Nat.reduceEqDiff, Nat.reduceLeDiff, Nat.reduceLT, Int.reduceNeg, ↓reduceIte, reduceCtorEq, Int.reduceEq, Int.reduceLT, Int.reduceLE, Int.reduceBEq, Int.reduceBNe, Int.reduceToNat, IntKind.bits, Int.reduceAdd, Int.reduceSub, Int.reduceMul, Int.reduceTDiv, Int.reduceTMod, DB, DB2, R7B, f1, f2, f6, g1, e39, hh, hb, Option.isSome_none, Option.isSome_some, Option.getD_some, Option.getD_none]
          · simp only [RB, pickV, eqbV, notV, negV, convV, faddrV, fldV, idxV, eqaggV, iaddrV, isnilV, nilckV, cloV, extrV, slenV, minV, sidxV, abin, cmpInt, params, growLists, fillCells, newAt, rdPtr, wrPtr, AV.cells, asVal, lenOf, boundOf, rowsOf, argIds, freshIn, scalar1, setAll, AV.isData, AV.isYld, Nat.reduceAdd, Nat.reduceMul, Nat.reduceSub, Nat.reduceEqDiff, Nat.reduceLeDiff, Nat.reduceLT, Int.reduceNeg, ↓reduceIte, reduceCtorEq, Int.reduceEq, Int.reduceLT, Int.reduceLE, Int.reduceBEq, Int.reduceBNe, Int.reduceToNat, IntKind.bits, Int.reduceAdd, Int.reduceSub, Int.reduceMul, Int.reduceTDiv, Int.reduceTMod, DB, DB2, R7B, f1, f2, f6, g1, e39, hh]
        · simp only [RB, pickV, eqbV, notV, negV, convV, faddrV, fldV, idxV, eqaggV, iaddrV, isnilV, nilckV, cloV, extrV, slenV, minV, sidxV, abin, cmpInt, params, growLists, fillCells, newAt, rdPtr, wrPtr, AV.cells, asVal, lenOf, boundOf, rowsOf, argIds, freshIn, scalar1, setAll, AV.isData, AV.isYld, Nat.reduceAdd, Nat.reduceMul, Nat.reduceSub, Nat.reduceEqDiff, Nat.reduceLeDiff, Nat.reduceLT, Int.reduceNeg, ↓reduceIte, reduceCtorEq, Int.reduceEq, Int.reduceLT, Int.reduceLE, Int.reduceBEq, Int.reduceBNe, Int.reduceToNat, IntKind.bits, Int.reduceAdd, Int.reduceSub, Int.reduceMul, Int.reduceTDiv, Int.reduceTMod, DB, DB2, R7B, show ¬ (k : Int) < (l.length : Int) by omega, List.drop_eq_nil_of_le (show l.length ≤ k by omega), expCell, List.nodup_cons, List.nodup_nil, List.not_mem_nil, not_false_eq_true, not_true_eq_false, and_true, and_false, if_false, List.mem_cons, mutIds]
          rfl
    · simp only [RB, pickV, eqbV, notV, negV, convV, faddrV, fldV, idxV, eqaggV, iaddrV, isnilV, nilckV, cloV, extrV, slenV, minV, sidxV, abin, cmpInt, params, growLists, fillCells, newAt, rdPtr, wrPtr, AV.cells, asVal, lenOf, boundOf, rowsOf, argIds, freshIn, scalar1, setAll, AV.isData, AV.isYld, Nat.reduceAdd, Nat.reduceMul, Nat.reduceSub, Nat.reduceEqDiff, Nat.reduceLeDiff, Nat.reduceLT, Int.reduceNeg, ↓reduceIte, reduceCtorEq, Int.reduceEq, Int.reduceLT, Int.reduceLE, Int.reduceBEq, Int.reduceBNe, Int.reduceToNat, IntKind.bits, Int.reduceAdd, Int.reduceSub, Int.reduceMul, Int.reduceTDiv, Int.reduceTMod, DB, DB2, h1, h2, e61, bne_self_eq_false, expCell, List.nodup_cons, List.nodup_nil, List.not_mem_nil, not_false_eq_true, not_true_eq_false, and_true, and_false, if_false, List.mem_cons, mutIds]
  · simp only [RB, pickV, eqbV, notV, negV, convV, faddrV, fldV, idxV, eqaggV, iaddrV, isnilV, nilckV, cloV, extrV, slenV, minV, sidxV, abin, cmpInt, params, growLists, fillCells, newAt, rdPtr, wrPtr, AV.cells, asVal, lenOf, boundOf, rowsOf, argIds, freshIn, scalar1, setAll, AV.isData, AV.isYld, Nat.reduceAdd, Nat.reduceMul, Nat.reduceSub, Nat.reduceEqDiff, Nat.reduceLeDiff, Nat.reduceLT, Int.reduceNeg, ↓reduceIte, reduceCtorEq, Int.reduceEq, Int.reduceLT, Int.reduceLE, Int.reduceBEq, Int.reduceBNe, Int.reduceToNat, IntKind.bits, Int.reduceAdd, Int.reduceSub, Int.reduceMul, Int.reduceTDiv, Int.reduceTMod, DB, DB2, h1, expCell, List.nodup_cons, List.nodup_nil, List.not_mem_nil, not_false_eq_true, not_true_eq_false, and_true, and_false, if_false, List.mem_cons, mutIds]
end Go.Proofs.YtihbammfchnjgaaDoor.F

/- The first free prefix, by the document; that both tell the same. No condition. -/
set_option linter.unusedSimpArgs false
namespace Go.Proofs.YtihbammfchnjgaaDoor.D
open Go Go.Proofs.YtihbammfchnjgaaDoor.A
def firstS (l : List Rw) (p : Pfx) (bits : Int) (n : Nat) (q : Pfx) : Option Pfx :=
  if l.any (fun x => decide (Holds x.p q) && !decide (Holds x.p p)) then none else
    if l.any (fun x => decide (Holds q x.p)) then match n with
      | 0 => none
      | m + 1 => match firstS l p bits m (zbit q) with
        | some f => some f
        | none => firstS l p bits m (obit q)
    else some (ofP q.adr bits)
theorem firstS_eq (l : List Rw) (p : Pfx) (bits : Int) (n : Nat) (q : Pfx) : firstS l p bits n q = if l.any (fun x => decide (Holds x.p q) && !decide (Holds x.p p)) then none else
    if l.any (fun x => decide (Holds q x.p)) then match n with
      | 0 => none
      | m + 1 => match firstS l p bits m (zbit q) with
        | some f => some f
        | none => firstS l p bits m (obit q)
    else some (ofP q.adr bits) := by cases n <;> rw [firstS]
theorem put_bit (b : B16) (n : Nat) (hn : n < 128) {k : Nat} (hk : k < 128) : bit (b.put (n / 8) (b.get (n / 8) ||| 128 / 2 ^ (n % 8))) k = (decide (k = n) || bit b k) := by
  have h1 := (or128 (b.get (n / 8)) (n % 8) (b.get_lt _) (by omega)).2
  unfold bit
  rw [B16.get_put _ (by omega) h1]
  by_cases h : k / 8 = n / 8
  · rw [if_pos h, Nat.testBit_or, h]
    have e : ∀ j < 8, ∀ i < 8, (128 / 2 ^ j).testBit (7 - i) = decide (i = j) := by decide
    rw [e (n % 8) (by omega) (k % 8) (by omega)]
    have : decide (k % 8 = n % 8) = decide (k = n) := decide_eq_decide.2 (by omega)
    rw [this, Bool.or_comm]
  · rw [if_neg h, show decide (k = n) = false from decide_eq_false (by omega)]
    simp
theorem zbit_ok {q : Pfx} (h : PfxOk q) (hb : q.bits < width q.adr.ver) : Holds q (zbit q) := by
  have h0 := h.2.1
  refine holds_of h ⟨h.1, by unfold zbit; simp only; omega, by unfold zbit; simp only; omega, fun k h1 h2 => ?_⟩ (by unfold zbit; simp only; omega) rfl (cut_clr h.2.2.2)
  unfold zbit at h1 ⊢
  simp only at h1 ⊢
  exact h.2.2.2 k (by omega) h2
theorem obit_ok {q : Pfx} (h : PfxOk q) (hb : q.bits < width q.adr.ver) : Holds q (obit q) := by
  have h0 := h.2.1
  have hw := width_le q.adr.ver
  have hn : q.bits.toNat < 128 := by omega
  have hbit : ∀ k, k < 128 → bit (obit q).adr.b k = (decide (k = q.bits.toNat) || bit q.adr.b k) := fun k hk => put_bit _ _ hn hk
  refine holds_of h ⟨⟨h.1.1, fun k h1 h2 => ?_⟩, by unfold obit; simp only; omega, by unfold obit; simp only; omega, fun k h1 h2 => ?_⟩ (by unfold obit; simp only; omega) rfl ?_
  · rw [hbit k h2, h.1.2 k h1 h2]
    have : width (obit q).adr.ver = width q.adr.ver := rfl
    simp; omega
  · rw [hbit k h2]
    have : (obit q).bits = q.bits + 1 := rfl
    rw [h.2.2.2 k (by omega) h2]
    simp; omega
  · apply bits_ext
    intro k hk
    rw [cut_bit _ _ hk, hbit k hk]
    by_cases h1 : k < q.bits.toNat
    · simp [h1, show k ≠ q.bits.toNat by omega]
    · simp [h1, h.2.2.2 k (by omega) hk]
theorem any_iff {l : List Rw} {P : Pfx → Bool} : l.any (fun x => P x.p) = true ↔ ∃ y ∈ l.map (·.p), P y = true := by
  rw [List.any_eq_true]
  constructor
  · rintro ⟨x, hx, h⟩; exact ⟨x.p, List.mem_map.2 ⟨x, hx, rfl⟩, h⟩
  · rintro ⟨y, hy, h⟩
    obtain ⟨x, hx, rfl⟩ := List.mem_map.1 hy
    exact ⟨x, hx, h⟩
/-- Below one's own prefix the program and the document go the same way. -/
theorem free_first (l : List Rw) (p : Pfx) (bits : Int) : ∀ (n : Nat) (L : List Pfx) (q0 q : Pfx), PfxOk q → q.bits + n = bits → bits ≤ width q.adr.ver → Holds p q0 → Holds q0 q → (q ≠ p) →
    (∀ y, y ∈ L ↔ y ∈ l.map (·.p) ∧ y ≠ p ∧ Holds p y ∧ Holds q0 y) → (∀ y ∈ l.map (·.p), Holds y q0 → Holds y p) →
    freeS bits n L q = firstS l p bits n q := by
  intro n
  induction n with
  | zero =>
    intro L q0 q hq hn hw hp h0 hne hL hc
    rw [freeS_eq, firstS]
    have e1 : L.any (fun x => decide (Holds x q)) = l.any (fun x => decide (Holds x.p q) && !decide (Holds x.p p)) := by
      rw [Bool.eq_iff_iff, any_iff (P := fun y => decide (Holds y q) && !decide (Holds y p)), List.any_eq_true]
      constructor
      · rintro ⟨y, hy, hy2⟩
        obtain ⟨a1, a2, a3, a4⟩ := (hL y).1 hy
        exact ⟨y, a1, by simp at hy2 ⊢; exact ⟨hy2, fun h => a2 (holds_anti h a3)⟩⟩
      · rintro ⟨y, hy, hy2⟩
        simp at hy2
        rcases holds_comp hy2.1 h0 with h | h
        · exact absurd (hc y hy h) hy2.2
        · exact ⟨y, (hL y).2 ⟨hy, fun e => hy2.2 (by rw [e]; exact holds_refl hp.ok.1), holds_trans hp h, h⟩, by simpa using hy2.1⟩
    have e2 : (L.filter (fun x => decide (Holds q x))).length = 0 ↔ ¬ l.any (fun x => decide (Holds q x.p)) = true := by
      rw [any_iff (P := fun y => decide (Holds q y)), List.length_eq_zero_iff, List.filter_eq_nil_iff]
      constructor
      · rintro h ⟨y, hy, hy2⟩
        have hy2 : Holds q y := by simpa using hy2
        have hqp : Holds p q := holds_trans hp h0
        exact h y ((hL y).2 ⟨hy, fun e => hne (holds_anti (e ▸ hy2) hqp), holds_trans hqp hy2, holds_trans h0 hy2⟩) (by simpa using hy2)
      · intro h y hy hy2
        exact h ⟨y, ((hL y).1 hy).1, hy2⟩
    have e3 : ofE q.adr bits = 0 := by unfold ofE; rw [if_pos hq.1, if_pos ⟨by have := hq.2.1; omega, hw⟩]
    rw [e1]
    by_cases h1 : l.any (fun x => decide (Holds x.p q) && !decide (Holds x.p p)) = true
    · simp only [h1, if_true]
    · simp only [h1, if_false]
      by_cases h2 : l.any (fun x => decide (Holds q x.p)) = true
      · rw [if_neg (fun h => e2.1 h h2), if_pos h2]
      · rw [if_pos (e2.2 h2), if_neg h2, if_pos e3]
  | succ n ih =>
    intro L q0 q hq hn hw hp h0 hne hL hc
    rw [freeS_eq, firstS]
    have hqp : Holds p q := holds_trans hp h0
    have e1 : L.any (fun x => decide (Holds x q)) = l.any (fun x => decide (Holds x.p q) && !decide (Holds x.p p)) := by
      rw [Bool.eq_iff_iff, any_iff (P := fun y => decide (Holds y q) && !decide (Holds y p)), List.any_eq_true]
      constructor
      · rintro ⟨y, hy, hy2⟩
        obtain ⟨a1, a2, a3, a4⟩ := (hL y).1 hy
        exact ⟨y, a1, by simp at hy2 ⊢; exact ⟨hy2, fun h => a2 (holds_anti h a3)⟩⟩
      · rintro ⟨y, hy, hy2⟩
        simp at hy2
        rcases holds_comp hy2.1 h0 with h | h
        · exact absurd (hc y hy h) hy2.2
        · exact ⟨y, (hL y).2 ⟨hy, fun e => hy2.2 (by rw [e]; exact holds_refl hp.ok.1), holds_trans hp h, h⟩, by simpa using hy2.1⟩
    have e2 : (L.filter (fun x => decide (Holds q x))).length = 0 ↔ ¬ l.any (fun x => decide (Holds q x.p)) = true := by
      rw [any_iff (P := fun y => decide (Holds q y)), List.length_eq_zero_iff, List.filter_eq_nil_iff]
      constructor
      · rintro h ⟨y, hy, hy2⟩
        have hy2 : Holds q y := by simpa using hy2
        exact h y ((hL y).2 ⟨hy, fun e => hne (holds_anti (e ▸ hy2) hqp), holds_trans hqp hy2, holds_trans h0 hy2⟩) (by simpa using hy2)
      · intro h y hy hy2
        exact h ⟨y, ((hL y).1 hy).1, hy2⟩
    have e3 : ofE q.adr bits = 0 := by unfold ofE; rw [if_pos hq.1, if_pos ⟨by have := hq.2.1; omega, hw⟩]
    rw [e1]
    by_cases h1 : l.any (fun x => decide (Holds x.p q) && !decide (Holds x.p p)) = true
    · simp only [h1, if_true]
    · simp only [h1, if_false]
      by_cases h2 : l.any (fun x => decide (Holds q x.p)) = true
      · rw [if_neg (fun h => e2.1 h h2), if_pos h2]
        have hc' : ∀ y ∈ l.map (·.p), Holds y q → Holds y p := fun y hy hyq => by
          apply Decidable.byContradiction
          intro hn'
          exact h1 ((any_iff (P := fun y => decide (Holds y q) && !decide (Holds y p))).2 ⟨y, hy, by simp [hyq, hn']⟩)
        have hL' : ∀ y, y ∈ L.filter (fun x => decide (Holds q x)) ↔ y ∈ l.map (·.p) ∧ y ≠ p ∧ Holds p y ∧ Holds q y := fun y => by
          rw [List.mem_filter, hL y]
          simp only [decide_eq_true_eq]
          constructor
          · rintro ⟨⟨a, b, c, _⟩, d⟩; exact ⟨a, b, c, d⟩
          · rintro ⟨a, b, c, d⟩; exact ⟨⟨a, b, c, holds_trans h0 d⟩, d⟩
        have hz := zbit_ok hq (by omega)
        have ho := obit_ok hq (by omega)
        have hne' : ∀ c : Pfx, c.bits = q.bits + 1 → c ≠ p := fun c hcb e => by
          subst e; have := hqp.ok.2.2.1; omega
        have ez : (zbit q).bits + n = bits := by show q.bits + 1 + n = bits; omega
        have eo : (obit q).bits + n = bits := by show q.bits + 1 + n = bits; omega
        rw [ih _ q (zbit q) hz.1 ez hw hqp hz (hne' _ rfl) hL' hc', ih _ q (obit q) ho.1 eo hw hqp ho (hne' _ rfl) hL' hc']
        all_goals rfl
      · rw [if_pos (e2.2 h2), if_neg h2, if_pos e3]
end Go.Proofs.YtihbammfchnjgaaDoor.D
namespace Go.Proofs.YtihbammfchnjgaaDoor.F
open Go Go.Proofs.YtihbammfchnjgaaDoor.A Go.Proofs.YtihbammfchnjgaaDoor.D
theorem free_same {l : List Rw} {p : Pfx} {bits : Int} (hp : PfxOk p) (h1 : p.bits ≤ bits) (h2 : bits ≤ width p.adr.ver) : freeP l p bits = firstS l p bits (bits - p.bits).toNat p := by
  have hpp := holds_refl hp
  have hmem : ∀ y, y ∈ ((l.filter fun r => decide (Holds p r.p)).filter fun r => !decide (r.p = p)).map (·.p) ↔ y ∈ l.map (·.p) ∧ y ≠ p ∧ Holds p y ∧ Holds p y := fun y => by
    constructor
    · intro h
      obtain ⟨r, hr, rfl⟩ := List.mem_map.1 h
      obtain ⟨hr1, hr2⟩ := List.mem_filter.1 hr
      obtain ⟨hr3, hr4⟩ := List.mem_filter.1 hr1
      have hr4 : Holds p r.p := by simpa using hr4
      exact ⟨List.mem_map.2 ⟨r, hr3, rfl⟩, by simpa using hr2, hr4, hr4⟩
    · rintro ⟨h, hne, hh, _⟩
      obtain ⟨r, hr, rfl⟩ := List.mem_map.1 h
      exact List.mem_map.2 ⟨r, List.mem_filter.2 ⟨List.mem_filter.2 ⟨hr, by simpa using hh⟩, by simpa using hne⟩, rfl⟩
  have hc : ∀ y ∈ l.map (·.p), Holds y p → Holds y p := fun _ _ h => h
  unfold freeP
  generalize hL : ((l.filter fun r => decide (Holds p r.p)).filter fun r => !decide (r.p = p)).map (·.p) = L at hmem
  have c1 : L.any (fun x => decide (Holds x p)) = false := by
    rw [List.any_eq_false]
    intro y hy hy2
    obtain ⟨_, b, c, _⟩ := (hmem y).1 hy
    exact b (holds_anti (by simpa using hy2) c)
  have c2 : l.any (fun x => decide (Holds x.p p) && !decide (Holds x.p p)) = false := by
    rw [List.any_eq_false]
    intro y _ h
    simp at h
  have hany : ((l.filter fun r => decide (Holds p r.p)).any fun r => decide (r.p = p)) = true ↔ p ∈ l.map (·.p) := by
    rw [List.any_eq_true]
    constructor
    · rintro ⟨r, hr, he⟩
      have he : r.p = p := by simpa using he
      exact he ▸ List.mem_map.2 ⟨r, (List.mem_filter.1 hr).1, rfl⟩
    · intro h
      obtain ⟨r, hr, he⟩ := List.mem_map.1 h
      exact ⟨r, List.mem_filter.2 ⟨hr, by rw [he]; simpa using hpp⟩, by simpa using he⟩
  have hin : l.any (fun x => decide (Holds p x.p)) = true ↔ p ∈ l.map (·.p) ∨ L.filter (fun x => decide (Holds p x)) ≠ [] := by
    rw [any_iff (P := fun y => decide (Holds p y))]
    constructor
    · rintro ⟨y, hy, hy2⟩
      by_cases e : y = p
      · exact .inl (e ▸ hy)
      · have hy2 : Holds p y := by simpa using hy2
        exact .inr (List.ne_nil_of_mem (List.mem_filter.2 ⟨(hmem y).2 ⟨hy, e, hy2, hy2⟩, by simpa using hy2⟩))
    · rintro (h | h)
      · exact ⟨p, h, by simpa using hpp⟩
      · obtain ⟨y, hy⟩ := List.exists_mem_of_ne_nil _ h
        obtain ⟨a, b⟩ := List.mem_filter.1 hy
        exact ⟨y, ((hmem y).1 a).1, b⟩
  have hof : ofE p.adr bits = 0 := by unfold ofE; rw [if_pos hp.1, if_pos ⟨by have := hp.2.1; omega, h2⟩]
  cases hn : (bits - p.bits).toNat with
  | zero =>
    have hb : bits = p.bits := by omega
    rw [firstS, freeS_eq]
    simp only [c1, c2, Bool.false_eq_true, if_false]
    by_cases hm : p ∈ l.map (·.p)
    · rw [if_pos ⟨hb, hany.2 hm⟩, if_pos (hin.2 (.inl hm))]
    · rw [if_neg (fun h => hm (hany.1 h.2))]
      by_cases hf : L.filter (fun x => decide (Holds p x)) = []
      · simp only [hf, List.length_nil, if_true, hof]
        rw [if_neg (fun h => (hin.1 h).elim hm (fun k => k hf))]
      · rw [if_neg (fun h => hf (List.length_eq_zero_iff.1 h)), if_pos (hin.2 (.inr hf))]
  | succ n =>
    have hb : bits ≠ p.bits := by omega
    have hw : p.bits < width p.adr.ver := by omega
    rw [if_neg (fun h => hb h.1), firstS, freeS_eq]
    simp only [c1, c2, Bool.false_eq_true, if_false]
    have hz := zbit_ok hp hw
    have ho := obit_ok hp hw
    have hne' : ∀ c : Pfx, c.bits = p.bits + 1 → c ≠ p := fun c hcb e => by subst e; omega
    have ez : (zbit p).bits + n = bits := by show p.bits + 1 + n = bits; omega
    have eo : (obit p).bits + n = bits := by show p.bits + 1 + n = bits; omega
    have hL' : ∀ y, y ∈ L.filter (fun x => decide (Holds p x)) ↔ y ∈ l.map (·.p) ∧ y ≠ p ∧ Holds p y ∧ Holds p y := fun y => by
      rw [List.mem_filter, hmem y]
      simp only [decide_eq_true_eq]
      constructor
      · rintro ⟨h, _⟩; exact h
      · intro h; exact ⟨h, h.2.2.1⟩
    by_cases hf : L.filter (fun x => decide (Holds p x)) = []
    · simp only [hf, List.length_nil, if_true, hof]
      by_cases hm : p ∈ l.map (·.p)
      · rw [if_pos (hin.2 (.inl hm))]
        have hno : ∀ y ∈ l.map (·.p), y ≠ p → ¬ Holds p y := fun y hy hne hh => by
          have := (hL' y).2 ⟨hy, hne, hh, hh⟩
          rw [hf] at this; cases this
        have d1 : l.any (fun x => decide (Holds x.p (zbit p)) && !decide (Holds x.p p)) = false := by
          rw [Bool.eq_false_iff]
          intro h
          obtain ⟨y, hy, hy2⟩ := (any_iff (P := fun y => decide (Holds y (zbit p)) && !decide (Holds y p))).1 h
          simp at hy2
          rcases holds_comp hy2.1 hz with h | h
          · exact hy2.2 h
          · exact hno y hy (fun e => hy2.2 (e ▸ hpp)) h
        have d2 : l.any (fun x => decide (Holds (zbit p) x.p)) = false := by
          rw [Bool.eq_false_iff]
          intro h
          obtain ⟨y, hy, hy2⟩ := (any_iff (P := fun y => decide (Holds (zbit p) y))).1 h
          have hy2 : Holds (zbit p) y := by simpa using hy2
          exact hno y hy (fun e => by subst e; have := hy2.ok.2.2.1; have : (zbit y).bits = y.bits + 1 := rfl; omega) (holds_trans hz hy2)
        have : firstS l p bits n (zbit p) = some (ofP p.adr bits) := by
          rw [firstS_eq]
          simp only [d1, d2, Bool.false_eq_true, if_false]; rfl
        rw [this]
      · rw [if_neg (fun h => (hin.1 h).elim hm (fun k => k hf))]
    · rw [if_neg (fun h => hf (List.length_eq_zero_iff.1 h)), if_pos (hin.2 (.inr hf))]
      rw [free_first l p bits n _ p (zbit p) hz.1 ez h2 hpp hz (hne' _ rfl) hL' hc, free_first l p bits n _ p (obit p) ho.1 eo h2 hpp ho (hne' _ rfl) hL' hc]
      all_goals rfl
end Go.Proofs.YtihbammfchnjgaaDoor.F

/- QueryWhole: pages, one behind the other. No condition. -/
set_option linter.unusedSimpArgs false
namespace Go.Proofs.YtihbammfchnjgaaDoor.F
open Go Go.Proofs.YtihbammfchnjgaaDoor.A Go.Proofs.YtihbammfchnjgaaDoor.D
def nrows (l : List Int) : List (List AV) := l.map fun x => [.int .i64 x]
theorem nrows_len (l : List Int) : (nrows l).length = l.length := by simp [nrows]
theorem nrows_get (l : List Int) {i : Nat} (h : i < l.length) : (nrows l)[i]? = some [.int .i64 l[i]] := by simp [nrows, h]
theorem curOf_append (c : Cur) (d0 d : Bool) (l r : List Rw) : curOf (curOf c d0 l) d r = curOf c d (l ++ r) := by
  cases hr : r.getLast? with
  | none =>
    have : r = [] := by simpa using hr
    subst this
    rw [List.append_nil, curOf_nil, curOf_set]
  | some x =>
    have h2 : (l ++ r).getLast? = some x := by rw [List.getLast?_append, hr]; rfl
    unfold curOf
    rw [hr, h2]
section
variable {T : List Rw} {p : Pfx} {k : Nat}
def within (T : List Rw) (p : Pfx) : List Rw := T.filter fun r => decide (Holds p r.p)
theorem within_len (T : List Rw) (p : Pfx) : (within T p).length ≤ T.length := List.length_filter_le _ _
theorem left_of (hT : TabOk T) (hk : k ≤ (within T p).length) : T.filter (pageOf p (curOf zerC false ((within T p).take k))) = (within T p).drop k := by
  cases hr : ((within T p).take k).getLast? with
  | none =>
    have h1 : (within T p).take k = [] := by simpa using hr
    have h2 : k = 0 := by
      have := congrArg List.length h1
      simp at this; rcases this with h | h
      · exact h
      · rw [h] at hk; simpa using hk
    subst h2
    rw [h1, curOf_nil]
    simp only [List.drop_zero, within]
    congr 1
    funext x
    simp only [pageOf, zerC, Bool.not_false, Bool.true_or, Bool.and_true]
  | some r =>
    have e : curOf zerC false ((within T p).take k) = ⟨true, false, r.p⟩ := by unfold curOf; rw [hr]
    have hb := Rise.behind (l := within T p) (Rise.filter hT.rise _) hr
    rw [e, ← hb]
    show _ = (T.filter fun r => decide (Holds p r.p)).filter _
    rw [List.filter_filter]
    congr 1
    funext x
    simp only [pageOf, Bool.not_true, Bool.false_or, Bool.and_comm]
theorem goes_on (hT : TabOk T) : GoOn (curOf zerC false ((within T p).take k)) := by
  unfold curOf
  split
  · exact ⟨rfl, rfl⟩
  · rename_i r hr
    exact ⟨rfl, (hT.mem (List.mem_filter.1 (List.mem_of_mem_take (List.mem_of_getLast? hr))).1).1⟩
theorem page_at (hT : TabOk T) (hp : PfxOk p) (hk : k ≤ (within T p).length) {m : Nat} (h1 : 1 ≤ m) (h2 : m ≤ 16) : page T p (curOf zerC false ((within T p).take k)) (m : Int) = ⟨((within T p).drop k).take m, curOf zerC (decide (((within T p).drop k).length ≤ m)) ((within T p).take (k + m)), 0⟩ := by
  unfold page
  rw [if_pos hT, if_pos hp, if_pos ⟨goes_on hT, by omega, by omega⟩, left_of hT hk, curOf_append, List.take_add]
  rfl
end
theorem most_ok (v : Int) : ∃ m : Nat, 1 ≤ m ∧ m ≤ 16 ∧ IntKind.i64.wrap (1 + IntKind.i64.wrap ((IntKind.u64.wrap v).tmod 16)) = (m : Int) := by
  have h0 : 0 ≤ IntKind.u64.wrap v := by
    have : IntKind.u64.wrap v = v % 2 ^ 64 := rfl
    omega
  refine ⟨1 + ((IntKind.u64.wrap v).tmod 16).toNat, by omega, ?_, ?_⟩
  · rw [Int.tmod_eq_emod_of_nonneg h0]; omega
  · rw [Int.tmod_eq_emod_of_nonneg h0, IntWalk.i64_in (_ % 16) (by omega), IntWalk.i64_in _ (by omega)]; omega
theorem whole (x : List Rw) (p : Pfx) (sz : List Int) (hs : sz.length ≤ 9223372036854775807) : LV E 5 [.agg [.ro (rrows x)], .agg (pav p), .ro (nrows sz)] = some (.bool true) := by
  have hT : (x.take 41).length ≤ 1000000 := by simp; omega
  rw [LV_R (fn := f5) rfl rfl rfl]
  simp only [f5, ← cav_zer]
  simp only [← pav_zer, RB, pickV, eqbV, notV, negV, convV, faddrV, fldV, idxV, eqaggV, iaddrV, isnilV, nilckV, cloV, extrV, slenV, minV, sidxV, abin, cmpInt, params, growLists, fillCells, newAt, rdPtr, wrPtr, AV.cells, asVal, lenOf, boundOf, rowsOf, argIds, freshIn, scalar1, setAll, AV.isData, AV.isYld, Nat.reduceAdd, Nat.reduceMul, Nat.reduceSub, Nat.reduceEqDiff, Nat.reduceLeDiff, Nat.reduceLT, Int.reduceNeg, ↓reduceIte, reduceCtorEq, Int.reduceEq, Int.reduceLT, Int.reduceLE, Int.reduceBEq, Int.reduceBNe, Int.reduceToNat, IntKind.bits, Int.reduceAdd, Int.reduceSub, Int.reduceMul, Int.reduceTDiv, Int.reduceTMod, DB, DB2, R7B, e11, e12]
  generalize x.take 41 = T at *
  by_cases h1 : TabOk T
  · by_cases h2 : PfxOk p
    · have hw : T.filter (fun r => decide (Holds p r.p)) = within T p := rfl
      have hA : (within T p).length ≤ 40 := Nat.le_trans (within_len T p) h1.len
      simp only [RB, pickV, eqbV, notV, negV, convV, faddrV, fldV, idxV, eqaggV, iaddrV, isnilV, nilckV, cloV, extrV, slenV, minV, sidxV, abin, cmpInt, params, growLists, fillCells, newAt, rdPtr, wrPtr, AV.cells, asVal, lenOf, boundOf, rowsOf, argIds, freshIn, scalar1, setAll, AV.isData, AV.isYld, Nat.reduceAdd, Nat.reduceMul, Nat.reduceSub, Nat.reduceEqDiff, Nat.reduceLeDiff, Nat.reduceLT, Int.reduceNeg, ↓reduceIte, reduceCtorEq, Int.reduceEq, Int.reduceLT, Int.reduceLE, Int.reduceBEq, Int.reduceBNe, Int.reduceToNat, IntKind.bits, Int.reduceAdd, Int.reduceSub, Int.reduceMul, Int.reduceTDiv, Int.reduceTMod, DB, DB2, R7B, e23 T hT p, h1, h2, CW_some, scalar, scalar1, lockAll, lockAt, reduceCtorEq, extrV, List.all_cons, List.all_nil, bne_self_eq_false, hw]
      have hpg := fun (k m : Nat) (hk : k ≤ (within T p).length) (h3 : 1 ≤ m) (h4 : m ≤ 16) => page_at (m := m) h1 h2 hk h3 h4
      have e0 : zerC = curOf zerC false ((within T p).take 0) := rfl
      generalize hwA : within T p = A at *
      refine (W_rec2 (β := AV) (ι := {s : Nat × Nat // s.1 ≤ s.2 ∧ s.2 ≤ A.length})
        (M := fun s => [(2, .ro (nrows sz)), (4, .ptr 1 0 0 0), (7, .ptr 2 0 0 0), (8, .lis 4 0 0 A.length), (10, .lis 5 s.1.1 0 s.1.2), (11, .ptr 6 0 0 0), (29, .int .i64 (s.1.1 : Int))])
        (H := fun s => ⟨[.box 0 24 [.ro (rrows x)], .box 0 32 (pav p), .box 0 24 [.ro (rrows T)], .lst 0 0 59 19 [], .lst 0 0 59 19 (rrows A), .lst 0 s.1.1 59 19 (rrows (A.take s.1.2)), .box 0 34 (cav (curOf zerC false (A.take s.1.2)))], []⟩)
        (r := fun _ => some (AV.bool true)) (μ := fun s => 42 - s.1.1) (fun s => ?_) (fun s ih => ?_) ⟨(0, 0), by omega⟩ rfl rfl)
      · simp [LPB, cav_below]
      · obtain ⟨⟨i, k⟩, hik, hkA⟩ := s
        simp only at hik hkA ih ⊢
        have f1 : (i : Int) < 42 := by omega
        have f2 : IntKind.i64.wrap ((i : Int) + 1) = ((i + 1 : Nat) : Int) := by rw [IntWalk.i64_in _ (by omega)] <;> omega
        by_cases hsz : sz = []
        · subst hsz
          have hpm : page T p (curOf zerC false (A.take k)) 1 = _ := hpg k 1 hkA (by omega) (by omega)
          generalize hR : (A.drop k).take 1 = R at hpm
          have hRl : R.length = min 1 (A.length - k) := by rw [← hR]; simp
          have g1 : ¬ (1 : Int) < (R.length : Int) := by omega
          have f7 : (k + R.length) * 40 ≤ 140737488355328 := by omega
          have f8 : k + R.length ≤ 4611686018427387904 := by omega
          have f9 : (rrows (A.take k)).length = k := by rw [rrows_len]; simp; omega
          have f10 : (rrows (A.take k)).take k = rrows (A.take k) := List.take_of_length_le (Nat.le_of_eq f9)
          have f11 : A.take k ++ R = A.take (k + 1) := by rw [← hR, List.take_add]
          have f12 : (rrows R).take R.length = rrows R := by rw [← rrows_len R, List.take_length]
          have f13 : (rrows A).take A.length = rrows A := by rw [← rrows_len A, List.take_length]
          by_cases hd : (A.drop k).length ≤ 1
          · have hd' := hd
            rw [List.length_drop] at hd'
            have f14 : A.take (k + 1) = A := List.take_of_length_le (by omega)
            have f15 : k + R.length = A.length := by omega
            simp only [hd, decide_true] at hpm
            simp only [RB, pickV, eqbV, notV, negV, convV, faddrV, fldV, idxV, eqaggV, iaddrV, isnilV, nilckV, cloV, extrV, slenV, minV, sidxV, abin, cmpInt, params, growLists, fillCells, newAt, rdPtr, wrPtr, AV.cells, asVal, lenOf, boundOf, rowsOf, argIds, freshIn, scalar1, setAll, AV.isData, AV.isYld, Nat.reduceAdd, Nat.reduceMul, Nat.reduceSub, Nat.reduceEqDiff, Nat.reduceLeDiff, Nat.reduceLT, Int.reduceNeg, ↓reduceIte, reduceCtorEq, Int.reduceEq, Int.reduceLT, Int.reduceLE, Int.reduceBEq, Int.reduceBNe, Int.reduceToNat, IntKind.bits, Int.reduceAdd, Int.reduceSub, Int.reduceMul, Int.reduceTDiv, Int.reduceTMod, DB, DB2, R7B, f1, f2, nrows_len, e13 T hT p, hpm, bne_self_eq_false, g1, curOf_done, aappend, f7, f8, f9, f10, f11, f12, f13, f14, f15, pairOk, AV.ids, List.contains_cons, List.contains_nil, Nat.reduceBEq, List.all_cons, List.all_nil, Bool.or_self, Bool.not_false, Bool.and_self, Bool.or_false, mutIds_pav, mutIds_aav, mutIds_rav, mutIds_cav, mutIds_bav, e24 A A (by omega), CW_some, scalar, scalar1, lockAll, lockAt, reduceCtorEq, extrV, List.all_cons, List.all_nil, show A.length * 40 ≤ 140737488355328 by omega, show A.length ≤ 4611686018427387904 by omega, List.length_nil]
          · have hd' := hd
            rw [List.length_drop] at hd'
            have f15 : R.length = 1 := by omega
            simp only [hd, decide_false] at hpm
            have ih := ih ⟨(i + 1, k + 1), by simp only; omega⟩ (by simp only; omega)
            simp only at ih
            simp only [f15] at f7 f8 f12 g1
            simp only [RB, pickV, eqbV, notV, negV, convV, faddrV, fldV, idxV, eqaggV, iaddrV, isnilV, nilckV, cloV, extrV, slenV, minV, sidxV, abin, cmpInt, params, growLists, fillCells, newAt, rdPtr, wrPtr, AV.cells, asVal, lenOf, boundOf, rowsOf, argIds, freshIn, scalar1, setAll, AV.isData, AV.isYld, Nat.reduceAdd, Nat.reduceMul, Nat.reduceSub, Nat.reduceEqDiff, Nat.reduceLeDiff, Nat.reduceLT, Int.reduceNeg, ↓reduceIte, reduceCtorEq, Int.reduceEq, Int.reduceLT, Int.reduceLE, Int.reduceBEq, Int.reduceBNe, Int.reduceToNat, IntKind.bits, Int.reduceAdd, Int.reduceSub, Int.reduceMul, Int.reduceTDiv, Int.reduceTMod, DB, DB2, R7B, f1, f2, nrows_len, e13 T hT p, hpm, bne_self_eq_false, g1, curOf_done, aappend, f7, f8, f9, f10, f11, f12, f13, f15, pairOk, AV.ids, List.contains_cons, List.contains_nil, Nat.reduceBEq, List.all_cons, List.all_nil, Bool.or_self, Bool.not_false, Bool.and_self, Bool.or_false, mutIds_pav, mutIds_aav, mutIds_rav, mutIds_cav, mutIds_bav, CW_some, scalar, scalar1, lockAll, lockAt, reduceCtorEq, extrV, List.all_cons, List.all_nil, List.length_nil]
            exact ih
        · obtain ⟨m, hm1, hm2, hm3⟩ := most_ok (sz[i % sz.length]'(Nat.mod_lt _ (List.length_pos_iff.2 hsz)))
          have hlen := List.length_pos_iff.2 hsz
          have hpm := hpg k m hkA hm1 hm2
          have j1 : (0 : Int) < (sz.length : Int) := by omega
          have j2 : ((sz.length : Int) ≠ 0) := by omega
          have j3 : (i : Int).tmod (sz.length : Int) = ((i % sz.length : Nat) : Int) := rfl
          have j4 := nrows_get sz (Nat.mod_lt i hlen)
          generalize hR : (A.drop k).take m = R at hpm
          have hRl : R.length = min m (A.length - k) := by rw [← hR]; simp
          have g1 : ¬ (m : Int) < (R.length : Int) := by omega
          have f7 : (k + R.length) * 40 ≤ 140737488355328 := by omega
          have f8 : k + R.length ≤ 4611686018427387904 := by omega
          have f9 : (rrows (A.take k)).length = k := by rw [rrows_len]; simp; omega
          have f10 : (rrows (A.take k)).take k = rrows (A.take k) := List.take_of_length_le (Nat.le_of_eq f9)
          have f11 : A.take k ++ R = A.take (k + m) := by rw [← hR, List.take_add]
          have f12 : (rrows R).take R.length = rrows R := by rw [← rrows_len R, List.take_length]
          have f13 : (rrows A).take A.length = rrows A := by rw [← rrows_len A, List.take_length]
          by_cases hd : (A.drop k).length ≤ m
          · have hd' := hd
            rw [List.length_drop] at hd'
            have f14 : A.take (k + m) = A := List.take_of_length_le (by omega)
            have f15 : k + R.length = A.length := by omega
            simp only [hd, decide_true] at hpm
            simp only [RB, pickV, eqbV, notV, negV, convV, faddrV, fldV, idxV, eqaggV, iaddrV, isnilV, nilckV, cloV, extrV, slenV, minV, sidxV, abin, cmpInt, params, growLists, fillCells, newAt, rdPtr, wrPtr, AV.cells, asVal, lenOf, boundOf, rowsOf, argIds, freshIn, scalar1, setAll, AV.isData, AV.isYld, Nat.reduceAdd, Nat.reduceMul, Nat.reduceSub, Nat.reduceEqDiff, Nat.reduceLeDiff, Nat.reduceLT, Int.reduceNeg, ↓reduceIte, reduceCtorEq, Int.reduceEq, Int.reduceLT, Int.reduceLE, Int.reduceBEq, Int.reduceBNe, Int.reduceToNat, IntKind.bits, Int.reduceAdd, Int.reduceSub, Int.reduceMul, Int.reduceTDiv, Int.reduceTMod, DB, DB2, R7B, f1, f2, nrows_len, e13 T hT p, hpm, bne_self_eq_false, g1, curOf_done, aappend, f7, f8, f9, f10, f11, f12, f13, f14, f15, pairOk, AV.ids, List.contains_cons, List.contains_nil, Nat.reduceBEq, List.all_cons, List.all_nil, Bool.or_self, Bool.not_false, Bool.and_self, Bool.or_false, mutIds_pav, mutIds_aav, mutIds_rav, mutIds_cav, mutIds_bav, e24 A A (by omega), CW_some, scalar, scalar1, lockAll, lockAt, reduceCtorEq, extrV, List.all_cons, List.all_nil, show A.length * 40 ≤ 140737488355328 by omega, show A.length ≤ 4611686018427387904 by omega, j1, j2, j3, j4, hm3]
          · have hd' := hd
            rw [List.length_drop] at hd'
            have f15 : R.length = m := by omega
            simp only [hd, decide_false] at hpm
            have ih := ih ⟨(i + 1, k + m), by simp only; omega⟩ (by simp only; omega)
            simp only at ih
            simp only [f15] at f7 f8 f12 g1
            simp only [RB, pickV, eqbV, notV, negV, convV, faddrV, fldV, idxV, eqaggV, iaddrV, isnilV, nilckV, cloV, extrV, slenV, minV, sidxV, abin, cmpInt, params, growLists, fillCells, newAt, rdPtr, wrPtr, AV.cells, asVal, lenOf, boundOf, rowsOf, argIds, freshIn, scalar1, setAll, AV.isData, AV.isYld, Nat.reduceAdd, Nat.reduceMul, Nat.reduceSub, Nat.reduceEqDiff, Nat.reduceLeDiff, Nat.reduceLT, Int.reduceNeg, ↓reduceIte, reduceCtorEq, Int.reduceEq, Int.reduceLT, Int.reduceLE, Int.reduceBEq, Int.reduceBNe, Int.reduceToNat, IntKind.bits, Int.reduceAdd, Int.reduceSub, Int.reduceMul, Int.reduceTDiv, Int.reduceTMod, DB, DB2, R7B, f1, f2, nrows_len, e13 T hT p, hpm, bne_self_eq_false, g1, curOf_done, aappend, f7, f8, f9, f10, f11, f12, f13, f15, pairOk, AV.ids, List.contains_cons, List.contains_nil, Nat.reduceBEq, List.all_cons, List.all_nil, Bool.or_self, Bool.not_false, Bool.and_self, Bool.or_false, mutIds_pav, mutIds_aav, mutIds_rav, mutIds_cav, mutIds_bav, CW_some, scalar, scalar1, lockAll, lockAt, reduceCtorEq, extrV, List.all_cons, List.all_nil, j1, j2, j3, j4, hm3]
            exact ih
    · simp only [RB, pickV, eqbV, notV, negV, convV, faddrV, fldV, idxV, eqaggV, iaddrV, isnilV, nilckV, cloV, extrV, slenV, minV, sidxV, abin, cmpInt, params, growLists, fillCells, newAt, rdPtr, wrPtr, AV.cells, asVal, lenOf, boundOf, rowsOf, argIds, freshIn, scalar1, setAll, AV.isData, AV.isYld, Nat.reduceAdd, Nat.reduceMul, Nat.reduceSub, Nat.reduceEqDiff, Nat.reduceLeDiff, Nat.reduceLT, Int.reduceNeg, ↓reduceIte, reduceCtorEq, Int.reduceEq, Int.reduceLT, Int.reduceLE, Int.reduceBEq, Int.reduceBNe, Int.reduceToNat, IntKind.bits, Int.reduceAdd, Int.reduceSub, Int.reduceMul, Int.reduceTDiv, Int.reduceTMod, DB, DB2, R7B, e23 T hT p, h1, h2, CW_some, scalar, scalar1, lockAll, lockAt, reduceCtorEq, extrV, List.all_cons, List.all_nil, bne_self_eq_false]
  · simp only [RB, pickV, eqbV, notV, negV, convV, faddrV, fldV, idxV, eqaggV, iaddrV, isnilV, nilckV, cloV, extrV, slenV, minV, sidxV, abin, cmpInt, params, growLists, fillCells, newAt, rdPtr, wrPtr, AV.cells, asVal, lenOf, boundOf, rowsOf, argIds, freshIn, scalar1, setAll, AV.isData, AV.isYld, Nat.reduceAdd, Nat.reduceMul, Nat.reduceSub, Nat.reduceEqDiff, Nat.reduceLeDiff, Nat.reduceLT, Int.reduceNeg, ↓reduceIte, reduceCtorEq, Int.reduceEq, Int.reduceLT, Int.reduceLE, Int.reduceBEq, Int.reduceBNe, Int.reduceToNat, IntKind.bits, Int.reduceAdd, Int.reduceSub, Int.reduceMul, Int.reduceTDiv, Int.reduceTMod, DB, DB2, R7B, e23 T hT p, h1, CW_some, scalar, scalar1, lockAll, lockAt, reduceCtorEq, extrV, List.all_cons, List.all_nil, bne_self_eq_false]
end Go.Proofs.YtihbammfchnjgaaDoor.F

/- Where a prefix stands in a table: table.place. No condition. -/
set_option linter.unusedSimpArgs false
namespace Go.Proofs.YtihbammfchnjgaaDoor.D
open Go Go.Proofs.YtihbammfchnjgaaDoor.A
def RiseR (l : List Rw) : Prop := ∀ i j, i < j → j < l.length → cmpP (row l i).p (row l j).p < 0
theorem row_el {l : List Rw} {i : Nat} (h : i < l.length) : row l i = l[i] := by have := row_some l h; rw [List.getElem?_eq_getElem h] at this; exact (Option.some.inj this).symm
theorem Rise.rows {l : List Rw} (h : Rise l) : RiseR l := fun i j hij hj => by
  have := List.pairwise_iff_getElem.1 h i j (by omega) hj hij
  rw [row_el (by omega), row_el hj]; exact this
theorem RiseR.le {l : List Rw} (h : RiseR l) {p : Pfx} {i j : Nat} (hij : i ≤ j) (hj : j < l.length) (hp : cmpP (row l j).p p < 0) : cmpP (row l i).p p < 0 := by
  rcases Nat.lt_or_eq_of_le hij with h1 | rfl
  · exact cmp_trans (h i j h1 hj) hp
  · exact hp
theorem RiseR.ge {l : List Rw} (h : RiseR l) {p : Pfx} {i j : Nat} (hij : i ≤ j) (hj : j < l.length) (hp : 0 ≤ cmpP (row l i).p p) : 0 ≤ cmpP (row l j).p p := by
  by_cases h2 : 0 ≤ cmpP (row l j).p p
  · exact h2
  · have := h.le hij hj (show cmpP (row l j).p p < 0 by omega); omega
def Lo (l : List Rw) (p : Pfx) (i : Nat) : Prop := ∀ j, j < i → cmpP (row l j).p p < 0
def Hi (l : List Rw) (p : Pfx) (i : Nat) : Prop := ∀ j, i ≤ j → j < l.length → 0 ≤ cmpP (row l j).p p
/-- The rows ahead of a prefix, and behind it. -/
def ahead (l : List Rw) (p : Pfx) : List Rw := l.filter fun r => decide (cmpP r.p p < 0)
def past (l : List Rw) (p : Pfx) : List Rw := l.filter fun r => decide (0 < cmpP r.p p)
theorem mem_take_row {l : List Rw} {i : Nat} {r : Rw} (h : r ∈ l.take i) : ∃ j, j < i ∧ j < l.length ∧ r = row l j := by
  obtain ⟨j, hj, rfl⟩ := List.mem_iff_getElem.1 h
  rw [List.length_take] at hj
  exact ⟨j, by omega, by omega, by rw [List.getElem_take, row_el (by omega)]⟩
theorem mem_drop_row {l : List Rw} {i : Nat} {r : Rw} (h : r ∈ l.drop i) : ∃ j, i ≤ j ∧ j < l.length ∧ r = row l j := by
  obtain ⟨j, hj, rfl⟩ := List.mem_iff_getElem.1 h
  rw [List.length_drop] at hj
  exact ⟨i + j, by omega, by omega, by rw [List.getElem_drop, row_el (by omega)]⟩
theorem lo_ahead {l : List Rw} {p : Pfx} {i : Nat} (hlo : Lo l p i) (hhi : Hi l p i) : l.take i = ahead l p := by
  unfold ahead
  conv => rhs; rw [← List.take_append_drop i l]
  rw [List.filter_append, List.filter_eq_self.2 (fun r hr => by
    obtain ⟨j, h1, _, rfl⟩ := mem_take_row hr
    exact decide_eq_true (hlo j h1)), List.filter_eq_nil_iff.2 (fun r hr => by
    obtain ⟨j, h1, h2, rfl⟩ := mem_drop_row hr
    have := hhi j h1 h2
    simp; omega), List.append_nil]
theorem cmp_flip {p q : Pfx} (h : cmpP p q < 0) : 0 < cmpP q p := by have := cmp_anti p q; omega
theorem hi_past {l : List Rw} {p : Pfx} {i n : Nat} (hr : RiseR l) (hlo : Lo l p i) (hhi : Hi l p i) (hn : n = if i < l.length ∧ (row l i).p = p then i + 1 else i) : l.drop n = past l p := by
  unfold past
  conv => rhs; rw [← List.take_append_drop n l]
  rw [List.filter_append, List.filter_eq_nil_iff.2 (fun r hr' => by
    obtain ⟨j, h1, h2, rfl⟩ := mem_take_row hr'
    rcases Nat.lt_or_ge j i with h | h
    · have := hlo j h
      simp; omega
    · split at hn
      · rename_i hc
        obtain rfl : j = i := by omega
        simp [hc.2, cmp_self]
      · omega), List.filter_eq_self.2 (fun r hr' => by
    obtain ⟨j, h1, h2, rfl⟩ := mem_drop_row hr'
    refine decide_eq_true ?_
    split at hn
    · rename_i hc
      have := hr i j (by omega) h2
      rw [hc.2] at this
      exact cmp_flip this
    · rename_i hc
      have h3 := hhi j (by omega) h2
      rcases Nat.lt_or_eq_of_le (show i ≤ j by omega) with h4 | rfl
      · have h5 := hr i j h4 h2
        have h6 := hhi i (Nat.le_refl _) (by omega)
        rcases Int.lt_or_eq_of_le h3 with h7 | h7
        · exact h7
        · rw [cmp_zero h7.symm] at h5; omega
      · rcases Int.lt_or_eq_of_le h3 with h7 | h7
        · exact h7
        · exact absurd ⟨h2, cmp_zero h7.symm⟩ hc), List.nil_append]
end Go.Proofs.YtihbammfchnjgaaDoor.D
namespace Go.Proofs.YtihbammfchnjgaaDoor.F
open Go Go.Proofs.YtihbammfchnjgaaDoor.A Go.Proofs.YtihbammfchnjgaaDoor.D
theorem r90 {ys : List Hd} {pend : List (Option AExit)} (bs : List Blk) (r : Rw) (p : Pfx) : ∃ e, LR E ys 90 [.agg (rav r), .agg (pav p)] ⟨bs, pend⟩ = some (.int .i64 (cmpP r.p p), ⟨bs ++ e, pend⟩) := by
  refine ⟨[.box 0 59 (rav r), .box 0 32 (pav p)], ?_⟩
  rw [LR_R (fn := f90) rfl rfl rfl]
  simp only [f90, RB, pickV, eqbV, notV, negV, convV, faddrV, fldV, idxV, eqaggV, iaddrV, isnilV, nilckV, cloV, extrV, slenV, minV, sidxV, abin, cmpInt, params, growLists, fillCells, newAt, rdPtr, wrPtr, AV.cells, asVal, lenOf, boundOf, rowsOf, argIds, freshIn, scalar1, setAll, AV.isData, AV.isYld, Nat.reduceAdd, Nat.reduceMul, Nat.reduceSub, Nat.reduceEqDiff, Nat.reduceLeDiff, Nat.reduceLT, Int.reduceNeg, ↓reduceIte, reduceCtorEq, Int.reduceEq, Int.reduceLT, Int.reduceLE, Int.reduceBEq, Int.reduceBNe, Int.reduceToNat, IntKind.bits, Int.reduceAdd, Int.reduceSub, Int.reduceMul, Int.reduceTDiv, Int.reduceTMod, DB, DB2, R7B, take_add, List.append_assoc, List.length_append, Nat.add_assoc, shrink_lit, ball_app, RG, LPB, e86]
theorem r89 {ys : List Hd} {bs : List Blk} {pend : List (Option AExit)} {v : AV} {l : List Rw} (p : Pfx) (hn : l.length ≤ 1000000) (hv : SlV bs 19 v (rrows l)) (hr : RiseR l) (hlow : belowAll bs.length bs = true) :
    ∃ e i, i ≤ l.length ∧ Lo l p i ∧ Hi l p i ∧ LR E ys 89 [v, .agg (pav p), .clo 90 []] ⟨bs, pend⟩ = some (.tup [.int .i64 (i : Nat), .bool (decide (i < l.length ∧ (row l i).p = p))], ⟨bs ++ e, pend⟩) := by
  have huf := hv.uf
  have hlen := hv.len
  rw [rrows_len] at hlen
  have hlo : ∀ m, bs.length ≤ m → v.refsLt m = true := fun m h => by
    have := hv.low
    have h2 := belowL_mono h [v] (by simp [belowL, this])
    simpa [belowL] using h2
  have hlo1 := hlo (bs.length + 1) (by omega)
  have hb1 : belowAll (bs.length + 1) bs = true := belowAll_mono (by omega) hlow
  have hbb : belowAll (bs.length + 1) (bs ++ [.box 0 32 (pav p)]) = true := by rw [ball_app, belowAll_mono (by omega) hlow]; simp [LPB, pav_below]
  have hget : ∀ ext k, k < l.length → ∃ q, iaddrV (bs ++ ext) 19 none v (.int .i64 (k : Int)) = some q ∧ ∀ ext', rdPtr (bs ++ ext') q 19 = some (rav (row l k)) := fun ext k hk => by
    obtain ⟨q, h1, h2⟩ := hv.get ext k (by rw [rrows_len]; exact hk)
    exact ⟨q, h1, fun ext' => by rw [h2, rrows_get l hk]⟩
  have hld : rdPtr (bs ++ [.box 0 32 (pav p)]) (.ptr bs.length 0 0 0) 18 = some (pav p) := by
    simp only [rdPtr, A.get_at rfl, List.getElem?_cons_zero, and_self, if_true, pav_p]
  suffices H : ∃ e i, i ≤ l.length ∧ Lo l p i ∧ Hi l p i ∧ LR E ys 89 [v, .agg (pav p), .clo 90 []] ⟨bs, pend⟩ = some (.tup [.int .i64 (i : Nat), .bool (decide (i < l.length ∧ (row l i).p = p))], ⟨bs ++ e, pend⟩) from H
  rw [LR_R (fn := f89) rfl rfl rfl]
  simp only [f89, RB, pickV, eqbV, notV, negV, convV, faddrV, fldV, idxV, eqaggV, isnilV, nilckV, cloV, extrV, slenV, minV, sidxV, abin, cmpInt, params, growLists, fillCells, newAt, AV.cells, asVal, boundOf, argIds, freshIn, scalar1, setAll, AV.isData, AV.isYld, Nat.reduceAdd, Nat.reduceMul, Nat.reduceSub, Nat.reduceEqDiff, Nat.reduceLeDiff, Nat.reduceLT, Int.reduceNeg, ↓reduceIte, reduceCtorEq, Int.reduceEq, Int.reduceLT, Int.reduceLE, Int.reduceBEq, Int.reduceBNe, Int.reduceToNat, IntKind.bits, Int.reduceAdd, Int.reduceSub, Int.reduceMul, Int.reduceTDiv, Int.reduceTMod, DB, DB2, R7B, take_add, List.append_assoc, List.length_append, Nat.add_assoc, shrink_lit, ball_app, RG, LPB, huf, hlen]
  refine W_recP2 (ι := {s : Nat × Nat // s.1 ≤ s.2 ∧ s.2 ≤ l.length ∧ Lo l p s.1 ∧ Hi l p s.2}) (M := fun s => [(0, v), (2, .clo 90 []), (4, .ptr bs.length 0 0 0), (8, .int .i64 (l.length : Int)), (9, .int .i64 (s.1.1 : Int)), (10, .int .i64 (s.1.2 : Int))])
    (H := fun _ => ⟨bs ++ [.box 0 32 (pav p)], pend⟩)
    (Q := fun _ x => ∃ e i, i ≤ l.length ∧ Lo l p i ∧ Hi l p i ∧ x = some ((AV.tup [.int .i64 (i : Nat), .bool (decide (i < l.length ∧ (row l i).p = p))], ⟨bs ++ e, pend⟩) : AV × Hp)) (μ := fun s => s.1.2 - s.1.1) (fun s => ?_) (fun s ih => ?_) ⟨(0, l.length), Nat.zero_le _, Nat.le_refl _, fun j h => by omega, fun j h1 h2 => by omega⟩ rfl rfl
  · exact ⟨by simp only [List.map_cons, List.map_nil, LPB, hlo1, Bool.and_self]; simp, hbb⟩
  · obtain ⟨⟨lo, hi⟩, h1, h2, h3, h4⟩ := s
    simp only at h1 h2 h3 h4 ih ⊢
    by_cases hk : lo < hi
    · have f1 : (lo : Int) < (hi : Int) := by omega
      have w1 : IntKind.i64.wrap ((lo : Int) + (hi : Int)) = ((lo + hi : Nat) : Int) := by rw [IntWalk.i64_in _ (by omega)]; omega
      have w2 : IntKind.u64.wrap ((lo + hi : Nat) : Int) = ((lo + hi : Nat) : Int) := IntWalk.u64_in _ (by omega)
      have w3 : ((lo + hi : Nat) : Int).fdiv (2 ^ (Nat.min 1 64)) = (((lo + hi) / 2 : Nat) : Int) := by
        rw [show Nat.min 1 64 = 1 from rfl, Int.fdiv_eq_ediv_of_nonneg _ (by decide)]; omega
      have w4 : IntKind.i64.wrap (((lo + hi) / 2 : Nat) : Int) = (((lo + hi) / 2 : Nat) : Int) := IntWalk.i64_in _ (by omega)
      have w5 : IntKind.i64.wrap ((((lo + hi) / 2 : Nat) : Int) + 1) = (((lo + hi) / 2 + 1 : Nat) : Int) := by rw [IntWalk.i64_in _ (by omega)]; omega
      have hm1 : lo ≤ (lo + hi) / 2 := by omega
      have hm2 : (lo + hi) / 2 < hi := by omega
      generalize (lo + hi) / 2 = m at *
      obtain ⟨q, g1, g2⟩ := hget [.box 0 32 (pav p)] m (by omega)
      obtain ⟨e, h90⟩ := r90 (ys := ys) (pend := pend) (bs ++ [.box 0 32 (pav p)]) (row l m) p
      have hsh : shrink false (bs.length + 1) (.int .i64 (cmpP (row l m).p p)) ⟨(bs ++ [.box 0 32 (pav p)]) ++ e, pend⟩ = some ⟨bs ++ [.box 0 32 (pav p)], pend⟩ := shrink_app (by simp) rfl hbb
      simp only [List.append_assoc] at h90 hsh
      by_cases hc : cmpP (row l m).p p < 0
      · simp only [RB, pickV, eqbV, notV, negV, convV, faddrV, fldV, idxV, eqaggV, isnilV, nilckV, cloV, extrV, slenV, minV, sidxV, abin, cmpInt, params, growLists, fillCells, newAt, AV.cells, asVal, boundOf, argIds, freshIn, scalar1, setAll, AV.isData, AV.isYld, Nat.reduceAdd, Nat.reduceMul, Nat.reduceSub, Nat.reduceEqDiff, Nat.reduceLeDiff, Nat.reduceLT, Int.reduceNeg, ↓reduceIte, reduceCtorEq, Int.reduceEq, Int.reduceLT, Int.reduceLE, Int.reduceBEq, Int.reduceBNe, Int.reduceToNat, IntKind.bits, Int.reduceAdd, Int.reduceSub, Int.reduceMul, Int.reduceTDiv, Int.reduceTMod, DB, DB2, R7B, take_add, List.append_assoc, List.length_append, Nat.add_assoc, shrink_lit, ball_app, RG, LPB, f1, w1, w2, w3, w4, w5, huf, g1, g2, hld, hb1, h90, hsh, hc]
        exact ih ⟨(m + 1, hi), by omega, h2, fun j hj => hr.le (show j ≤ m by omega) (by omega) hc, h4⟩ (by simp only; omega)
      · simp only [RB, pickV, eqbV, notV, negV, convV, faddrV, fldV, idxV, eqaggV, isnilV, nilckV, cloV, extrV, slenV, minV, sidxV, abin, cmpInt, params, growLists, fillCells, newAt, AV.cells, asVal, boundOf, argIds, freshIn, scalar1, setAll, AV.isData, AV.isYld, Nat.reduceAdd, Nat.reduceMul, Nat.reduceSub, Nat.reduceEqDiff, Nat.reduceLeDiff, Nat.reduceLT, Int.reduceNeg, ↓reduceIte, reduceCtorEq, Int.reduceEq, Int.reduceLT, Int.reduceLE, Int.reduceBEq, Int.reduceBNe, Int.reduceToNat, IntKind.bits, Int.reduceAdd, Int.reduceSub, Int.reduceMul, Int.reduceTDiv, Int.reduceTMod, DB, DB2, R7B, take_add, List.append_assoc, List.length_append, Nat.add_assoc, shrink_lit, ball_app, RG, LPB, f1, w1, w2, w3, w4, w5, huf, g1, g2, hld, hb1, h90, hsh, hc]
        exact ih ⟨(lo, m), by omega, by omega, h3, fun j hj hj2 => hr.ge hj hj2 (Int.not_lt.1 hc)⟩ (by simp only; omega)
    · have e : lo = hi := by omega
      subst e
      simp only [RB, pickV, eqbV, notV, negV, convV, faddrV, fldV, idxV, eqaggV, isnilV, nilckV, cloV, extrV, slenV, minV, sidxV, abin, cmpInt, params, growLists, fillCells, newAt, AV.cells, asVal, boundOf, argIds, freshIn, scalar1, setAll, AV.isData, AV.isYld, Nat.reduceAdd, Nat.reduceMul, Nat.reduceSub, Nat.reduceEqDiff, Nat.reduceLeDiff, Nat.reduceLT, Int.reduceNeg, ↓reduceIte, reduceCtorEq, Int.reduceEq, Int.reduceLT, Int.reduceLE, Int.reduceBEq, Int.reduceBNe, Int.reduceToNat, IntKind.bits, Int.reduceAdd, Int.reduceSub, Int.reduceMul, Int.reduceTDiv, Int.reduceTMod, DB, DB2, R7B, take_add, List.append_assoc, List.length_append, Nat.add_assoc, shrink_lit, ball_app, RG, LPB, hk, show ¬ (lo : Int) < (lo : Int) by omega]
      by_cases hl : lo < l.length
      · have f1 : (lo : Int) < (l.length : Int) := by omega
        obtain ⟨q, g1, g2⟩ := hget [.box 0 32 (pav p)] lo hl
        obtain ⟨e, h90⟩ := r90 (ys := ys) (pend := pend) (bs ++ [.box 0 32 (pav p)]) (row l lo) p
        have hsh : shrink false (bs.length + 1) (.int .i64 (cmpP (row l lo).p p)) ⟨(bs ++ [.box 0 32 (pav p)]) ++ e, pend⟩ = some ⟨bs ++ [.box 0 32 (pav p)], pend⟩ := shrink_app (by simp) rfl hbb
        simp only [List.append_assoc] at h90 hsh
        have hz : (cmpP (row l lo).p p == 0) = decide ((row l lo).p = p) := by
          by_cases hh : (row l lo).p = p
          · rw [decide_eq_true hh, hh, cmp_self]; rfl
          · rw [decide_eq_false hh, beq_eq_false_iff_ne]; exact fun h => hh (cmp_zero h)
        refine ⟨[.box 0 32 (pav p)], lo, h2, h3, h4, ?_⟩
        simp only [RB, pickV, eqbV, notV, negV, convV, faddrV, fldV, idxV, eqaggV, isnilV, nilckV, cloV, extrV, slenV, minV, sidxV, abin, cmpInt, params, growLists, fillCells, newAt, AV.cells, asVal, boundOf, argIds, freshIn, scalar1, setAll, AV.isData, AV.isYld, Nat.reduceAdd, Nat.reduceMul, Nat.reduceSub, Nat.reduceEqDiff, Nat.reduceLeDiff, Nat.reduceLT, Int.reduceNeg, ↓reduceIte, reduceCtorEq, Int.reduceEq, Int.reduceLT, Int.reduceLE, Int.reduceBEq, Int.reduceBNe, Int.reduceToNat, IntKind.bits, Int.reduceAdd, Int.reduceSub, Int.reduceMul, Int.reduceTDiv, Int.reduceTMod, DB, DB2, R7B, take_add, List.append_assoc, List.length_append, Nat.add_assoc, shrink_lit, ball_app, RG, LPB, f1, huf, g1, g2, hld, hb1, h90, hsh, hz, hl]
      · refine ⟨[.box 0 32 (pav p)], lo, h2, h3, h4, ?_⟩
        simp only [RB, pickV, eqbV, notV, negV, convV, faddrV, fldV, idxV, eqaggV, isnilV, nilckV, cloV, extrV, slenV, minV, sidxV, abin, cmpInt, params, growLists, fillCells, newAt, AV.cells, asVal, boundOf, argIds, freshIn, scalar1, setAll, AV.isData, AV.isYld, Nat.reduceAdd, Nat.reduceMul, Nat.reduceSub, Nat.reduceEqDiff, Nat.reduceLeDiff, Nat.reduceLT, Int.reduceNeg, ↓reduceIte, reduceCtorEq, Int.reduceEq, Int.reduceLT, Int.reduceLE, Int.reduceBEq, Int.reduceBNe, Int.reduceToNat, IntKind.bits, Int.reduceAdd, Int.reduceSub, Int.reduceMul, Int.reduceTDiv, Int.reduceTMod, DB, DB2, R7B, take_add, List.append_assoc, List.length_append, Nat.add_assoc, shrink_lit, ball_app, RG, LPB, show ¬ (lo : Int) < (l.length : Int) by omega, hl]
theorem e69 (x : List Rw) (p : Pfx) (hn : x.length ≤ 1000000) (hr : RiseR x) : ∃ i, i ≤ x.length ∧ Lo x p i ∧ Hi x p i ∧ LV E 69 [.agg [.ro (rrows x)], .agg (pav p)] = some (.tup [.int .i64 (i : Nat), .bool (decide (i < x.length ∧ (row x i).p = p))]) := by
  obtain ⟨e, i, k1, k2, k3, k4⟩ := r89 (ys := []) (pend := []) (bs := [.box 0 24 [.ro (rrows x)], .box 0 32 (pav p)]) (v := .ro (rrows x)) (l := x) p hn (SlV.ro (fun r hr => by
      simp only [rrows, List.mem_map] at hr; obtain ⟨y, _, rfl⟩ := hr; exact rav_len y)) hr (by simp [LPB, pav_below])
  refine ⟨i, k1, k2, k3, ?_⟩
  rw [LV_R (fn := f69) rfl rfl rfl]
  simp only [f69, RB, pickV, eqbV, notV, negV, convV, faddrV, fldV, idxV, eqaggV, iaddrV, isnilV, nilckV, cloV, extrV, slenV, minV, sidxV, abin, cmpInt, params, growLists, fillCells, newAt, rdPtr, wrPtr, AV.cells, asVal, lenOf, boundOf, rowsOf, argIds, freshIn, scalar1, setAll, AV.isData, AV.isYld, Nat.reduceAdd, Nat.reduceMul, Nat.reduceSub, Nat.reduceEqDiff, Nat.reduceLeDiff, Nat.reduceLT, Int.reduceNeg, ↓reduceIte, reduceCtorEq, Int.reduceEq, Int.reduceLT, Int.reduceLE, Int.reduceBEq, Int.reduceBNe, Int.reduceToNat, IntKind.bits, Int.reduceAdd, Int.reduceSub, Int.reduceMul, Int.reduceTDiv, Int.reduceTMod, DB, DB2, R7B, take_add, List.append_assoc, List.length_append, Nat.add_assoc, shrink_lit, ball_app, RG, LPB, k4]
  done
end Go.Proofs.YtihbammfchnjgaaDoor.F

/- table.Set and table.Drop. No condition. -/
set_option linter.unusedSimpArgs false
namespace Go.Proofs.YtihbammfchnjgaaDoor.D
open Go Go.Proofs.YtihbammfchnjgaaDoor.A
def There (x : List Rw) (p : Pfx) : Prop := ∃ r ∈ x, r.p = p
instance {x : List Rw} {p : Pfx} : Decidable (There x p) := by unfold There; infer_instance
def putR (x : List Rw) (r : Rw) : List Rw := ahead x r.p ++ [r] ++ past x r.p
def setS (x : List Rw) (p : Pfx) (h : Int) : List Rw × Int :=
  if TabOk x then if PfxOk p ∧ hopOk h then if There x p then (putR x ⟨p, h⟩, 0) else if x.length = 40 then ([], 6) else (putR x ⟨p, h⟩, 0) else ([], 2) else ([], 190)
def dropS (x : List Rw) (p : Pfx) : List Rw × Int :=
  if TabOk x then if There x p then (ahead x p ++ past x p, 0) else ([], 4) else ([], 190)
def tupT (s : List Rw × Int) : AV := .tup [.agg [.ro (rrows s.1)], .int .i64 s.2]
theorem there_iff {x : List Rw} {p : Pfx} {i : Nat} (hlo : Lo x p i) (hhi : Hi x p i) (hr : RiseR x) : There x p ↔ i < x.length ∧ (row x i).p = p := by
  constructor
  · rintro ⟨r, hr1, rfl⟩
    obtain ⟨j, hj, rfl⟩ := List.mem_iff_getElem.1 hr1
    have e : row x j = x[j] := row_el hj
    rw [← e] at hlo hhi ⊢
    have h1 : ¬ j < i := fun h => by have := hlo j h; rw [cmp_self] at this; omega
    rcases Nat.lt_or_eq_of_le (Nat.not_lt.1 h1) with h2 | rfl
    · have h3 := hr i j h2 hj
      have := hhi i (Nat.le_refl _) (by omega)
      omega
    · exact ⟨hj, rfl⟩
  · rintro ⟨h1, h2⟩
    exact ⟨row x i, by rw [row_el h1]; exact List.getElem_mem h1, h2⟩
theorem LR_prim {E : Env} {ys : List Hd} {hp : Hp} {f : FuncId} {args : List AV} {p : List AV → List Blk → Option (AV × List Blk)} (h1 : E.prim f = some p) (ha : args.any AV.isYld = false) : LR E ys f args hp = (p args hp.bs).map fun r => (r.1, { hp with bs := r.2 }) := by
  rw [LR_eq, h1]; simp [ha]
theorem expIn_tab (bs : List Blk) (a b c d : Nat) : expIn false bs (.agg [.lis a b c d]) = (expCell false bs (.lis a b c d)).map fun x => .agg [x] := by
  show ([AV.lis a b c d].mapM (expCell false bs)).map AV.agg = _
  rw [List.mapM_cons]
  cases expCell false bs (.lis a b c d) <;> rfl
theorem rrows_set (l : List Rw) {i : Nat} (h : Int) (hi : i < l.length) : (rrows l).set i (rav ⟨(row l i).p, h⟩) = rrows (l.take i ++ [⟨(row l i).p, h⟩] ++ l.drop (i + 1)) := by
  unfold rrows
  rw [← List.map_set, List.set_eq_take_append_cons_drop, if_pos hi]; simp
theorem rrows_ins (l : List Rw) (i : Nat) (r : Rw) : (rrows l).take i ++ [rav r] ++ (rrows l).drop i = rrows (l.take i ++ [r] ++ l.drop i) := by
  unfold rrows; simp [List.map_take, List.map_drop]
end Go.Proofs.YtihbammfchnjgaaDoor.D
namespace Go.Proofs.YtihbammfchnjgaaDoor.F
open Go Go.Proofs.YtihbammfchnjgaaDoor.A Go.Proofs.YtihbammfchnjgaaDoor.D
theorem e70 (l : List Rw) (hl : l.length ≤ 1000000) : LV E 70 [.ro (rrows l)] = some (.fresh 59 19 (rrows l)) := by
  rw [LV_prim (p := pClone 59 19 40) rfl]
  have h : ((rrows l).all fun r => r.length == 19) = true := by
    rw [List.all_eq_true]; intro r hr
    obtain ⟨p, _, rfl⟩ := List.mem_map.1 hr
    simp [rav_len]
  have h2 : (rrows l).length * 40 ≤ 140737488355328 := by rw [rrows_len]; omega
  simp only [pClone, rowsOf, h, h2, true_and, show 0 < 19 by omega, and_self, if_true, Option.bind_some, expRes_lis, expCell, List.getElem?_cons_zero, Nat.zero_add, Nat.le_refl, List.drop_zero, List.take_length]
theorem r71 {ys : List Hd} {bs : List Blk} {pend : List (Option AExit)} {id g id2 g2 lk2 : Nat} {l : List Rw} {n i : Nat} (r : Rw) (hb : bs[id]? = some (.lst 0 g 59 19 (rrows l))) (hb2 : bs[id2]? = some (.lst lk2 g2 59 19 [rav r])) (hn : l.length = n) (hi : i ≤ n) (hne : id ≠ id2) (hl : n ≤ 1000000) :
    LR E ys 71 [.lis id g 0 n, .int .i64 (i : Nat), .lis id2 g2 0 1] ⟨bs, pend⟩ = some (.lis id (g + 1) 0 (n + 1), ⟨bs.set id (.lst 0 (g + 1) 59 19 (rrows (l.take i ++ [r] ++ l.drop i))), pend⟩) := by
  rw [LR_prim (p := pInsert 59 19 40) rfl rfl]
  subst hn
  unfold pInsert
  simp only [hb, hb2, rrows_len, true_and, and_true, and_self, List.length_singleton, hne, ne_eq, not_false_eq_true, show (0 : Int) ≤ (i : Nat) by omega, show ((i : Nat) : Int) ≤ (l.length : Nat) by omega, show (l.length + 1) * 40 ≤ 140737488355328 by omega, show l.length + 1 ≤ 4611686018427387904 by omega, if_true, Int.toNat_natCast, rrows_ins, Option.map_some]
theorem e38 (x : List Rw) (p : Pfx) (h : Int) (hx : x.length ≤ 1000000) : LV E 38 [.agg [.ro (rrows x)], .agg (pav p), .int .i64 h] = some (tupT (setS x p h)) := by
  rw [LV_R (fn := f38) rfl rfl rfl]
  have h60 := e60 x (by omega)
  unfold setS tupT
  by_cases k1 : TabOk x
  · by_cases k2 : PfxOk p
    · by_cases k3 : hopOk h
      · obtain ⟨i, i1, i2, i3, h69⟩ := e69 x p hx k1.rise.rows
        have ht := there_iff i2 i3 k1.rise.rows
        by_cases k4 : There x p
        · have k5 := ht.1 k4
          have g2 : (i : Int) < (x.length : Int) := by omega
          have g3 : (0 : Int) ≤ (i : Int) := by omega
          have hq : putR x ⟨p, h⟩ = x.take i ++ [⟨(row x i).p, h⟩] ++ x.drop (i + 1) := by
            unfold putR; rw [k5.2, lo_ahead i2 i3, hi_past k1.rise.rows i2 i3 (if_pos k5).symm]
          have hR : (rrows x).set i (rav ⟨p, h⟩) = rrows (putR x ⟨p, h⟩) := by
            have := rrows_set x h k5.1
            rw [hq, ← this, k5.2]
          have hl : (putR x ⟨p, h⟩).length = x.length := by rw [hq]; simp; omega
          have hT : (rrows (putR x ⟨p, h⟩)).take x.length = rrows (putR x ⟨p, h⟩) := List.take_of_length_le (by rw [rrows_len, hl]; exact Nat.le_refl _)
          have k7 : (row x i).p = p := k5.2
          simp only [f38, ← rav_zer, RB, pickV, eqbV, notV, negV, convV, faddrV, fldV, idxV, eqaggV, iaddrV, isnilV, nilckV, cloV, extrV, slenV, minV, sidxV, abin, cmpInt, params, growLists, fillCells, newAt, rdPtr, wrPtr, AV.cells, asVal, lenOf, boundOf, rowsOf, argIds, freshIn, scalar1, setAll, AV.isData, AV.isYld, Nat.reduceAdd, Nat.reduceMul, Nat.reduceSub, Nat.reduceEqDiff, Nat.reduceLeDiff, Nat.reduceLT, Int.reduceNeg, ↓reduceIte, reduceCtorEq, Int.reduceEq, Int.reduceLT, Int.reduceLE, Int.reduceBEq, Int.reduceBNe, Int.reduceToNat, IntKind.bits, Int.reduceAdd, Int.reduceSub, Int.reduceMul, Int.reduceTDiv, Int.reduceTMod, DB, DB2, R7B, take_add, List.append_assoc, List.length_append, Nat.add_assoc, shrink_lit, ball_app, RG, LPB, h60, k1, e67, k2, e68, k3, h69, e70 x hx, k4, k5.1, k7, g2, g3, rrows_get x k5.1, D.rav_oh, hR, hl, hT, expIn_tab, expCell, List.nodup_cons, List.nodup_nil, List.not_mem_nil, not_false_eq_true, not_true_eq_false, and_true, and_false, if_false, List.mem_cons, mutIds, lisFits, rrows_len, Nat.le_refl]
        · have k5 : decide (i < x.length ∧ (row x i).p = p) = false := decide_eq_false fun h => k4 (ht.2 h)
          have hq : putR x ⟨p, h⟩ = x.take i ++ [⟨p, h⟩] ++ x.drop i := by
            unfold putR; rw [lo_ahead i2 i3, hi_past k1.rise.rows i2 i3 (if_neg fun h => k4 (ht.2 h)).symm]
          have hl : (putR x ⟨p, h⟩).length = x.length + 1 := by rw [hq]; simp; omega
          have hT : (rrows (putR x ⟨p, h⟩)).take (x.length + 1) = rrows (putR x ⟨p, h⟩) := List.take_of_length_le (by rw [rrows_len, hl]; exact Nat.le_refl _)
          by_cases k6 : x.length = 40
          · have k7 : ((x.length : Int) == 40) = true := by rw [beq_iff_eq]; omega
            simp only [f38, ← rav_zer, RB, pickV, eqbV, notV, negV, convV, faddrV, fldV, idxV, eqaggV, iaddrV, isnilV, nilckV, cloV, extrV, slenV, minV, sidxV, abin, cmpInt, params, growLists, fillCells, newAt, rdPtr, wrPtr, AV.cells, asVal, lenOf, boundOf, rowsOf, argIds, freshIn, scalar1, setAll, AV.isData, AV.isYld, Nat.reduceAdd, Nat.reduceMul, Nat.reduceSub, Nat.reduceEqDiff, Nat.reduceLeDiff, Nat.reduceLT, Int.reduceNeg, ↓reduceIte, reduceCtorEq, Int.reduceEq, Int.reduceLT, Int.reduceLE, Int.reduceBEq, Int.reduceBNe, Int.reduceToNat, IntKind.bits, Int.reduceAdd, Int.reduceSub, Int.reduceMul, Int.reduceTDiv, Int.reduceTMod, DB, DB2, R7B, take_add, List.append_assoc, List.length_append, Nat.add_assoc, shrink_lit, ball_app, RG, LPB, h60, k1, e67, k2, e68, k3, h69, e70 x hx, k4, k5, k7, expIn_tab, expCell, List.nodup_cons, List.nodup_nil, List.not_mem_nil, not_false_eq_true, not_true_eq_false, and_true, and_false, if_false, List.mem_cons, mutIds, rrows_nil, if_pos k6]
          · have k7 : ((x.length : Int) == 40) = false := by rw [beq_eq_false_iff_ne]; omega
            have h71 := r71 (ys := []) (pend := []) (bs := [.box 0 24 [.ro (rrows x)], .dead, .box 0 32 (pav p), .box 0 24 [.lis 4 0 0 0], .lst 0 0 59 19 [], .lst 0 0 59 19 (rrows x), .box 0 24 [.lis 5 0 0 x.length], .lst 0 0 59 19 [], .lst 0 0 59 19 [rav ⟨p, h⟩]]) (id := 5) (g := 0) (id2 := 8) (g2 := 0) (lk2 := 0) (l := x) (n := x.length) (i := i) ⟨p, h⟩ rfl rfl rfl i1 (by decide) hx
            rw [← hq] at h71
            simp only [List.set_cons_succ, List.set_cons_zero] at h71
            simp only [f38, ← rav_zer, RB, pickV, eqbV, notV, negV, convV, faddrV, fldV, idxV, eqaggV, iaddrV, isnilV, nilckV, cloV, extrV, slenV, minV, sidxV, abin, cmpInt, params, growLists, fillCells, newAt, rdPtr, wrPtr, AV.cells, asVal, lenOf, boundOf, rowsOf, argIds, freshIn, scalar1, setAll, AV.isData, AV.isYld, Nat.reduceAdd, Nat.reduceMul, Nat.reduceSub, Nat.reduceEqDiff, Nat.reduceLeDiff, Nat.reduceLT, Int.reduceNeg, ↓reduceIte, reduceCtorEq, Int.reduceEq, Int.reduceLT, Int.reduceLE, Int.reduceBEq, Int.reduceBNe, Int.reduceToNat, IntKind.bits, Int.reduceAdd, Int.reduceSub, Int.reduceMul, Int.reduceTDiv, Int.reduceTMod, DB, DB2, R7B, take_add, List.append_assoc, List.length_append, Nat.add_assoc, shrink_lit, ball_app, RG, LPB, h60, k1, e67, k2, e68, k3, h69, e70 x hx, k4, k5, k7, expIn_tab, expCell, List.nodup_cons, List.nodup_nil, List.not_mem_nil, not_false_eq_true, not_true_eq_false, and_true, and_false, if_false, List.mem_cons, mutIds, if_neg k6, D.rav_op, D.rav_oh, O_buildSlq, quietOk, aop_buildSl, fillRows, asData, aappend, h71, hl, hT, rrows_len, Nat.le_refl]
            done
      · simp only [f38, RB, pickV, eqbV, notV, negV, convV, faddrV, fldV, idxV, eqaggV, iaddrV, isnilV, nilckV, cloV, extrV, slenV, minV, sidxV, abin, cmpInt, params, growLists, fillCells, newAt, rdPtr, wrPtr, AV.cells, asVal, lenOf, boundOf, rowsOf, argIds, freshIn, scalar1, setAll, AV.isData, AV.isYld, Nat.reduceAdd, Nat.reduceMul, Nat.reduceSub, Nat.reduceEqDiff, Nat.reduceLeDiff, Nat.reduceLT, Int.reduceNeg, ↓reduceIte, reduceCtorEq, Int.reduceEq, Int.reduceLT, Int.reduceLE, Int.reduceBEq, Int.reduceBNe, Int.reduceToNat, IntKind.bits, Int.reduceAdd, Int.reduceSub, Int.reduceMul, Int.reduceTDiv, Int.reduceTMod, DB, DB2, R7B, take_add, List.append_assoc, List.length_append, Nat.add_assoc, shrink_lit, ball_app, RG, LPB, h60, k1, e67, k2, e68, k3, expIn_tab, expCell, List.nodup_cons, List.nodup_nil, List.not_mem_nil, not_false_eq_true, not_true_eq_false, and_true, and_false, if_false, List.mem_cons, mutIds, rrows_nil]
        done
    · simp only [f38, RB, pickV, eqbV, notV, negV, convV, faddrV, fldV, idxV, eqaggV, iaddrV, isnilV, nilckV, cloV, extrV, slenV, minV, sidxV, abin, cmpInt, params, growLists, fillCells, newAt, rdPtr, wrPtr, AV.cells, asVal, lenOf, boundOf, rowsOf, argIds, freshIn, scalar1, setAll, AV.isData, AV.isYld, Nat.reduceAdd, Nat.reduceMul, Nat.reduceSub, Nat.reduceEqDiff, Nat.reduceLeDiff, Nat.reduceLT, Int.reduceNeg, ↓reduceIte, reduceCtorEq, Int.reduceEq, Int.reduceLT, Int.reduceLE, Int.reduceBEq, Int.reduceBNe, Int.reduceToNat, IntKind.bits, Int.reduceAdd, Int.reduceSub, Int.reduceMul, Int.reduceTDiv, Int.reduceTMod, DB, DB2, R7B, take_add, List.append_assoc, List.length_append, Nat.add_assoc, shrink_lit, ball_app, RG, LPB, h60, k1, e67, k2, expIn_tab, expCell, List.nodup_cons, List.nodup_nil, List.not_mem_nil, not_false_eq_true, not_true_eq_false, and_true, and_false, if_false, List.mem_cons, mutIds, rrows_nil]
      done
  · simp only [f38, RB, pickV, eqbV, notV, negV, convV, faddrV, fldV, idxV, eqaggV, iaddrV, isnilV, nilckV, cloV, extrV, slenV, minV, sidxV, abin, cmpInt, params, growLists, fillCells, newAt, rdPtr, wrPtr, AV.cells, asVal, lenOf, boundOf, rowsOf, argIds, freshIn, scalar1, setAll, AV.isData, AV.isYld, Nat.reduceAdd, Nat.reduceMul, Nat.reduceSub, Nat.reduceEqDiff, Nat.reduceLeDiff, Nat.reduceLT, Int.reduceNeg, ↓reduceIte, reduceCtorEq, Int.reduceEq, Int.reduceLT, Int.reduceLE, Int.reduceBEq, Int.reduceBNe, Int.reduceToNat, IntKind.bits, Int.reduceAdd, Int.reduceSub, Int.reduceMul, Int.reduceTDiv, Int.reduceTMod, DB, DB2, R7B, take_add, List.append_assoc, List.length_append, Nat.add_assoc, shrink_lit, ball_app, RG, LPB, h60, k1, expIn_tab, expCell, List.nodup_cons, List.nodup_nil, List.not_mem_nil, not_false_eq_true, not_true_eq_false, and_true, and_false, if_false, List.mem_cons, mutIds, rrows_nil]
    done
theorem r75 {ys : List Hd} {bs : List Blk} {pend : List (Option AExit)} {id g : Nat} {l : List Rw} {n i : Nat} (hb : bs[id]? = some (.lst 0 g 59 19 (rrows l))) (hn : l.length = n) (hi : i < n) (hl : n ≤ 1000000) (hlow : belowAll bs.length bs = true) :
    ∃ z e, LR E ys 75 [.lis id g 0 n, .int .i64 (i : Nat), .int .i64 ((i + 1 : Nat) : Int)] ⟨bs, pend⟩ = some (.lis id g 0 (n - 1), ⟨bs.set id (.lst 0 g 59 19 (rrows (l.take i ++ l.drop (i + 1)) ++ z)) ++ e, pend⟩) := by
  subst hn
  have hA : ∀ r, (bs ++ r)[id]? = some (.lst 0 g 59 19 (rrows l)) := fun r => get_lt hb
  have ia := (List.getElem?_eq_some_iff.1 hb).1
  have sA : ∀ r x, (bs ++ r).set id x = bs.set id x ++ r := fun r x => by rw [List.set_append_left _ _ ia]
  have f1 : (i : Int) < (l.length : Int) := by omega
  have f2 : (0 : Int) ≤ (i : Int) := by omega
  have f3 : ((i : Int) == ((i + 1 : Nat) : Int)) = false := by rw [beq_eq_false_iff_ne]; omega
  have g1 : i ≤ i + 1 := by omega
  have g2 : i + 1 ≤ l.length := by omega
  have g3 : l.length ≤ l.length := Nat.le_refl _
  have g4 : i ≤ l.length := by omega
  have g5 : ¬ (l.length < i) := by omega
  have h1 : (l.drop (i + 1)).take (l.length - (i + 1)) = l.drop (i + 1) := List.take_of_length_le (by simp)
  have h2 : headFits 19 (rrows (l.drop (i + 1))) = true := by
    cases l.drop (i + 1) with
    | nil => rfl
    | cons r t => simp [rrows, headFits, rav_len]
  have h3 : i + (1 + (l.length - (i + 1))) ≤ l.length := by omega
  have h4 : i + (l.length - (i + 1)) = l.length - 1 := by omega
  have h5 : l.length - 1 ≤ l.length := by omega
  have h6 : (rrows (l.drop (l.length - 1))).length = 1 := by rw [rrows_len, List.length_drop]; omega
  have hB : ∀ X r, (bs.set id X ++ r)[id]? = some X := fun X r => by rw [List.getElem?_append_left (by rw [List.length_set]; exact ia), List.getElem?_set_self ia]
  have sB : ∀ X r Y, (bs.set id X ++ r).set id Y = bs.set id Y ++ r := fun X r Y => by rw [List.set_append_left _ _ (by rw [List.length_set]; exact ia), List.set_set]
  have h7 : min i l.length + (l.length - (i + 1) + 1) = l.length := by omega
  have h8 : (0 : Int) ≤ ((l.length - 1 : Nat) : Int) := by omega
  have h9 : ((l.length - 1 : Nat) : Int).toNat = l.length - 1 := by omega
  have h10 : l.length - (l.length - 1) = 1 := by omega
  have h11 : l.length - 1 + 1 ≤ l.length := by omega
  have h12 : (l.take i ++ (l.drop (i + 1) ++ l.drop (l.length - 1))).take (l.length - 1) = l.take i ++ l.drop (i + 1) := by
    rw [← List.append_assoc]; exact List.take_left' (by simp only [List.length_append, List.length_take, List.length_drop]; omega)
  rw [LR_R (fn := f75) rfl rfl rfl]
  simp only [f75, ← rav_zer, RB, pickV, eqbV, notV, negV, convV, faddrV, fldV, idxV, eqaggV, iaddrV, isnilV, nilckV, cloV, extrV, slenV, minV, sidxV, abin, cmpInt, params, growLists, fillCells, newAt, rdPtr, wrPtr, AV.cells, asVal, lenOf, boundOf, rowsOf, argIds, freshIn, scalar1, setAll, AV.isData, AV.isYld, Nat.reduceAdd, Nat.reduceMul, Nat.reduceSub, Nat.reduceEqDiff, Nat.reduceLeDiff, Nat.reduceLT, Int.reduceNeg, ↓reduceIte, reduceCtorEq, Int.reduceEq, Int.reduceLT, Int.reduceLE, Int.reduceBEq, Int.reduceBNe, Int.reduceToNat, IntKind.bits, Int.reduceAdd, Int.reduceSub, Int.reduceMul, Int.reduceTDiv, Int.reduceTMod, DB, DB2, R7B, take_add, List.append_assoc, List.length_append, Nat.add_assoc, shrink_lit, ball_app, RG, LPB, hA, sA, f1, f2, f3, asliceL, boundOf, lisFits, rrows_len, Int.toNat_natCast, Option.isSome_some, Option.isSome_none, g1, g2, g3, aslice, g4, g5, aappIn, h1, h2, h3, h4, h5, List.length_drop, List.length_take, hB, sB, List.length_set, h7, h8, h9, List.length_append, h10, aop, h11, h12]
  refine ⟨rrows (zerR :: (l.take i ++ (l.drop (i + 1) ++ l.drop (l.length - 1))).drop (l.length - 1 + 1)), [.lst 0 0 59 19 []], ?_⟩
  simp only [rrows, List.map_append, List.append_assoc]
end Go.Proofs.YtihbammfchnjgaaDoor.F
