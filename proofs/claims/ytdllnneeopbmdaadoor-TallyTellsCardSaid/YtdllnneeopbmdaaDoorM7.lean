/- Part 7 of the proofs of these statements. No condition. -/
import Derived.Test.YtdllnneeopbmdaaDoorM6
set_option linter.unusedVariables false
set_option linter.unusedSimpArgs false
/- Tables: rows as data; which tables may be, by the program and by the document. No condition. -/
set_option linter.unusedSimpArgs false
namespace Go.Proofs.YtdllnneeopbmdaaDoor.D
open Go Go.Proofs.YtdllnneeopbmdaaDoor.A
def rrows (l : List Rw) : List (List AV) := l.map rav
def row (l : List Rw) (i : Nat) : Rw := l.getD i zerR
theorem rrows_len (l : List Rw) : (rrows l).length = l.length := by simp [rrows]
theorem row_some (l : List Rw) {i : Nat} (h : i < l.length) : l[i]? = some (row l i) := by simp [row, List.getD_eq_getElem?_getD, h]
theorem rrows_get (l : List Rw) {i : Nat} (h : i < l.length) : (rrows l)[i]? = some (rav (row l i)) := by
  rw [rrows, List.getElem?_map, row_some l h]; rfl
def RowOk (l : List Rw) (i : Nat) : Prop := i ≠ 40 ∧ PfxOk (row l i).p ∧ 1 ≤ (row l i).hop ∧ (row l i).hop ≤ 255 ∧ (0 < i → cmpP (row l (i - 1)).p (row l i).p < 0)
def TabFrom (l : List Rw) (k : Nat) : Prop := ∀ i, k ≤ i → i < l.length → RowOk l i
instance {l : List Rw} {i : Nat} : Decidable (RowOk l i) := by unfold RowOk; infer_instance
instance {l : List Rw} {k : Nat} : Decidable (TabFrom l k) := decidable_of_iff (∀ i, i < l.length → k ≤ i → RowOk l i) ⟨fun h i h1 h2 => h i h2 h1, fun h i h1 h2 => h i h2 h1⟩
def TabOk (l : List Rw) : Prop := TabFrom l 0
instance {l : List Rw} : Decidable (TabOk l) := by unfold TabOk; infer_instance
theorem TabFrom.next {l : List Rw} {k : Nat} (h : RowOk l k) : TabFrom l k ↔ TabFrom l (k + 1) := by
  constructor
  · exact fun H i h1 h2 => H i (by omega) h2
  · intro H i h1 h2
    rcases Nat.lt_or_eq_of_le h1 with h3 | rfl
    · exact H i h3 h2
    · exact h
theorem TabFrom.not {l : List Rw} {k : Nat} (hk : k < l.length) (h : ¬ RowOk l k) : ¬ TabFrom l k := fun H => h (H k (Nat.le_refl _) hk)
theorem TabFrom.done {l : List Rw} {k : Nat} (h : l.length ≤ k) : TabFrom l k := fun i h1 h2 => by omega
theorem TabOk.len {l : List Rw} (h : TabOk l) : l.length ≤ 40 := by
  by_cases hl : l.length ≤ 40
  · exact hl
  · exact absurd rfl (h 40 (by omega) (by omega)).1
def hopOk (n : Int) : Prop := 1 ≤ n ∧ n ≤ 255
instance {n : Int} : Decidable (hopOk n) := by unfold hopOk; infer_instance
end Go.Proofs.YtdllnneeopbmdaaDoor.D
namespace Go.Proofs.YtdllnneeopbmdaaDoor.F
open Go Go.Proofs.YtdllnneeopbmdaaDoor.A Go.Proofs.YtdllnneeopbmdaaDoor.D
theorem e_table_hop (n : Int) : LV E 58 [.int .i64 n] = some (.bool (decide (hopOk n))) := by
  rw [LV_R (fn := f58) rfl rfl rfl]
  simp only [f58, RB, pickV, eqbV, notV, negV, convV, faddrV, fldV, idxV, eqaggV, iaddrV, isnilV, nilckV, cloV, extrV, slenV, minV, sidxV, abin, cmpInt, params, growLists, fillCells, newAt, rdPtr, wrPtr, AV.cells, asVal, lenOf, boundOf, rowsOf, argIds, freshIn, scalar1, setAll, AV.isData, AV.isYld, Nat.reduceAdd, Nat.reduceMul, Nat.reduceSub, Nat.reduceEqDiff, Nat.reduceLeDiff, Nat.reduceLT, Int.reduceNeg, ↓reduceIte, reduceCtorEq, Int.reduceEq, Int.reduceLT, Int.reduceLE, Int.reduceBEq, Int.reduceBNe, Int.reduceToNat, IntKind.bits, Int.reduceAdd, Int.reduceSub, Int.reduceMul, Int.reduceTDiv, Int.reduceTMod]
  by_cases h1 : 1 ≤ n
  · simp only [RB, pickV, eqbV, notV, negV, convV, faddrV, fldV, idxV, eqaggV, iaddrV, isnilV, nilckV, cloV, extrV, slenV, minV, sidxV, abin, cmpInt, params, growLists, fillCells, newAt, rdPtr, wrPtr, AV.cells, asVal, lenOf, boundOf, rowsOf, argIds, freshIn, scalar1, setAll, AV.isData, AV.isYld, Nat.reduceAdd, Nat.reduceMul, Nat.reduceSub, Nat.reduceEqDiff, Nat.reduceLeDiff, Nat.reduceLT, Int.reduceNeg, ↓reduceIte, reduceCtorEq, Int.reduceEq, Int.reduceLT, Int.reduceLE, Int.reduceBEq, Int.reduceBNe, Int.reduceToNat, IntKind.bits, Int.reduceAdd, Int.reduceSub, Int.reduceMul, Int.reduceTDiv, Int.reduceTMod, h1]; simp [hopOk, h1]
  · simp only [RB, pickV, eqbV, notV, negV, convV, faddrV, fldV, idxV, eqaggV, iaddrV, isnilV, nilckV, cloV, extrV, slenV, minV, sidxV, abin, cmpInt, params, growLists, fillCells, newAt, rdPtr, wrPtr, AV.cells, asVal, lenOf, boundOf, rowsOf, argIds, freshIn, scalar1, setAll, AV.isData, AV.isYld, Nat.reduceAdd, Nat.reduceMul, Nat.reduceSub, Nat.reduceEqDiff, Nat.reduceLeDiff, Nat.reduceLT, Int.reduceNeg, ↓reduceIte, reduceCtorEq, Int.reduceEq, Int.reduceLT, Int.reduceLE, Int.reduceBEq, Int.reduceBNe, Int.reduceToNat, IntKind.bits, Int.reduceAdd, Int.reduceSub, Int.reduceMul, Int.reduceTDiv, Int.reduceTMod, h1]; simp [hopOk, h1]
theorem e_table_row_against (r : Rw) (p : Pfx) : LV E 59 [.agg (rav r), .agg (pav p)] = some (.int .i64 (cmpP r.p p)) := by
  rw [LV_R (fn := f59) rfl rfl rfl]
  simp only [f59, RB, pickV, eqbV, notV, negV, convV, faddrV, fldV, idxV, eqaggV, iaddrV, isnilV, nilckV, cloV, extrV, slenV, minV, sidxV, abin, cmpInt, params, growLists, fillCells, newAt, rdPtr, wrPtr, AV.cells, asVal, lenOf, boundOf, rowsOf, argIds, freshIn, scalar1, setAll, AV.isData, AV.isYld, Nat.reduceAdd, Nat.reduceMul, Nat.reduceSub, Nat.reduceEqDiff, Nat.reduceLeDiff, Nat.reduceLT, Int.reduceNeg, ↓reduceIte, reduceCtorEq, Int.reduceEq, Int.reduceLT, Int.reduceLE, Int.reduceBEq, Int.reduceBNe, Int.reduceToNat, IntKind.bits, Int.reduceAdd, Int.reduceSub, Int.reduceMul, Int.reduceTDiv, Int.reduceTMod, DB, e_prefix_Compare]
theorem e_table_Check (l : List Rw) (hl : l.length ≤ 4611686018427387904) : LV E 26 [.agg [.ro (rrows l)]] = some (.int .i64 (if TabOk l then 0 else 190)) := by
  rw [LV_R (fn := f26) rfl rfl rfl]
  simp only [f26, RB, pickV, eqbV, notV, negV, convV, faddrV, fldV, idxV, eqaggV, iaddrV, isnilV, nilckV, cloV, extrV, slenV, minV, sidxV, abin, cmpInt, params, growLists, fillCells, newAt, rdPtr, wrPtr, AV.cells, asVal, lenOf, boundOf, rowsOf, argIds, freshIn, scalar1, setAll, AV.isData, AV.isYld, Nat.reduceAdd, Nat.reduceMul, Nat.reduceSub, Nat.reduceEqDiff, Nat.reduceLeDiff, Nat.reduceLT, Int.reduceNeg, ↓reduceIte, reduceCtorEq, Int.reduceEq, Int.reduceLT, Int.reduceLE, Int.reduceBEq, Int.reduceBNe, Int.reduceToNat, IntKind.bits, Int.reduceAdd, Int.reduceSub, Int.reduceMul, Int.reduceTDiv, Int.reduceTMod, DB, rrows_len]
  refine (W_rec (β := AV) (ι := Nat) (M := fun k => [(1, .ptr 0 0 0 0), (6, .ro (rrows l)), (7, .int .i64 (l.length : Int)), (8, .int .i64 (k : Int))]) (H := fun _ => ⟨[.box 0 30 [.ro (rrows l)]], []⟩) (r := fun k => some (AV.int .i64 (if TabFrom l k then 0 else 190))) (μ := fun k => l.length - k) (fun i => ?_) (fun k ih => ?_) 0).trans ?_
  · simp [LPB]
  · by_cases hk : k < l.length
    · have f1 : (k : Int) < (l.length : Int) := by omega
      have f2 : (0 : Int) ≤ (k : Int) := by omega
      have f6 : IntKind.i64.wrap ((k : Int) + 1) = ((k + 1 : Nat) : Int) := by rw [IntWalk.i64_in _ (by omega)] <;> omega
      have g := rrows_get l hk
      by_cases h1 : k = 40
      · have h1' : ((k : Int) == 40) = true := by rw [beq_iff_eq]; omega
        simp only [RB, pickV, eqbV, notV, negV, convV, faddrV, fldV, idxV, eqaggV, iaddrV, isnilV, nilckV, cloV, extrV, slenV, minV, sidxV, abin, cmpInt, params, growLists, fillCells, newAt, rdPtr, wrPtr, AV.cells, asVal, lenOf, boundOf, rowsOf, argIds, freshIn, scalar1, setAll, AV.isData, AV.isYld, Nat.reduceAdd, Nat.reduceMul, Nat.reduceSub, Nat.reduceEqDiff, Nat.reduceLeDiff, Nat.reduceLT, Int.reduceNeg, ↓reduceIte, reduceCtorEq, Int.reduceEq, Int.reduceLT, Int.reduceLE, Int.reduceBEq, Int.reduceBNe, Int.reduceToNat, IntKind.bits, Int.reduceAdd, Int.reduceSub, Int.reduceMul, Int.reduceTDiv, Int.reduceTMod, DB, f1, f2, g, h1', rrows_len]
        rw [if_neg (TabFrom.not hk fun h => h.1 h1)]
      · have h1' : ((k : Int) == 40) = false := by rw [beq_eq_false_iff_ne]; omega
        by_cases h2 : PfxOk (row l k).p
        · by_cases h3 : hopOk (row l k).hop
          · by_cases h4 : 0 < k
            · have g' := rrows_get l (show k - 1 < l.length by omega)
              have f3 : IntKind.i64.wrap ((k : Int) - 1) = ((k - 1 : Nat) : Int) := by rw [IntWalk.i64_in _ (by omega)] <;> omega
              have f4 : (0 : Int) < (k : Int) := by omega
              have f5 : (0 : Int) ≤ ((k - 1 : Nat) : Int) := by omega
              by_cases h5 : 0 ≤ cmpP (row l (k - 1)).p (row l k).p
              · simp only [RB, pickV, eqbV, notV, negV, convV, faddrV, fldV, idxV, eqaggV, iaddrV, isnilV, nilckV, cloV, extrV, slenV, minV, sidxV, abin, cmpInt, params, growLists, fillCells, newAt, rdPtr, wrPtr, AV.cells, asVal, lenOf, boundOf, rowsOf, argIds, freshIn, scalar1, setAll, AV.isData, AV.isYld, Nat.reduceAdd, Nat.reduceMul, Nat.reduceSub, Nat.reduceEqDiff, Nat.reduceLeDiff, Nat.reduceLT, Int.reduceNeg, ↓reduceIte, reduceCtorEq, Int.reduceEq, Int.reduceLT, Int.reduceLE, Int.reduceBEq, Int.reduceBNe, Int.reduceToNat, IntKind.bits, Int.reduceAdd, Int.reduceSub, Int.reduceMul, Int.reduceTDiv, Int.reduceTMod, DB, f1, f2, f3, f4, f5, g, g', h1', e_prefix_Check, h2, e_table_hop, h3, e_table_row_against, h5]
                rw [if_neg (TabFrom.not hk fun h => by have := h.2.2.2.2 h4; omega)]
              · simp only [RB, pickV, eqbV, notV, negV, convV, faddrV, fldV, idxV, eqaggV, iaddrV, isnilV, nilckV, cloV, extrV, slenV, minV, sidxV, abin, cmpInt, params, growLists, fillCells, newAt, rdPtr, wrPtr, AV.cells, asVal, lenOf, boundOf, rowsOf, argIds, freshIn, scalar1, setAll, AV.isData, AV.isYld, Nat.reduceAdd, Nat.reduceMul, Nat.reduceSub, Nat.reduceEqDiff, Nat.reduceLeDiff, Nat.reduceLT, Int.reduceNeg, ↓reduceIte, reduceCtorEq, Int.reduceEq, Int.reduceLT, Int.reduceLE, Int.reduceBEq, Int.reduceBNe, Int.reduceToNat, IntKind.bits, Int.reduceAdd, Int.reduceSub, Int.reduceMul, Int.reduceTDiv, Int.reduceTMod, DB, f1, f2, f3, f4, f5, f6, g, g', h1', e_prefix_Check, h2, e_table_hop, h3, e_table_row_against, h5]
                rw [ih (k + 1) (by omega)]
                simp only [TabFrom.next (show RowOk l k from ⟨h1, h2, h3.1, h3.2, fun _ => by omega⟩)]
            · have f4 : ¬ (0 : Int) < (k : Int) := by omega
              simp only [RB, pickV, eqbV, notV, negV, convV, faddrV, fldV, idxV, eqaggV, iaddrV, isnilV, nilckV, cloV, extrV, slenV, minV, sidxV, abin, cmpInt, params, growLists, fillCells, newAt, rdPtr, wrPtr, AV.cells, asVal, lenOf, boundOf, rowsOf, argIds, freshIn, scalar1, setAll, AV.isData, AV.isYld, Nat.reduceAdd, Nat.reduceMul, Nat.reduceSub, Nat.reduceEqDiff, Nat.reduceLeDiff, Nat.reduceLT, Int.reduceNeg, ↓reduceIte, reduceCtorEq, Int.reduceEq, Int.reduceLT, Int.reduceLE, Int.reduceBEq, Int.reduceBNe, Int.reduceToNat, IntKind.bits, Int.reduceAdd, Int.reduceSub, Int.reduceMul, Int.reduceTDiv, Int.reduceTMod, DB, f1, f2, f4, f6, g, h1', e_prefix_Check, h2, e_table_hop, h3]
              rw [ih (k + 1) (by omega)]
              simp only [TabFrom.next (show RowOk l k from ⟨h1, h2, h3.1, h3.2, fun h => absurd h h4⟩)]
          · simp only [RB, pickV, eqbV, notV, negV, convV, faddrV, fldV, idxV, eqaggV, iaddrV, isnilV, nilckV, cloV, extrV, slenV, minV, sidxV, abin, cmpInt, params, growLists, fillCells, newAt, rdPtr, wrPtr, AV.cells, asVal, lenOf, boundOf, rowsOf, argIds, freshIn, scalar1, setAll, AV.isData, AV.isYld, Nat.reduceAdd, Nat.reduceMul, Nat.reduceSub, Nat.reduceEqDiff, Nat.reduceLeDiff, Nat.reduceLT, Int.reduceNeg, ↓reduceIte, reduceCtorEq, Int.reduceEq, Int.reduceLT, Int.reduceLE, Int.reduceBEq, Int.reduceBNe, Int.reduceToNat, IntKind.bits, Int.reduceAdd, Int.reduceSub, Int.reduceMul, Int.reduceTDiv, Int.reduceTMod, DB, f1, f2, g, h1', e_prefix_Check, h2, e_table_hop, h3]
            rw [if_neg (TabFrom.not hk fun h => h3 ⟨h.2.2.1, h.2.2.2.1⟩)]
        · simp only [RB, pickV, eqbV, notV, negV, convV, faddrV, fldV, idxV, eqaggV, iaddrV, isnilV, nilckV, cloV, extrV, slenV, minV, sidxV, abin, cmpInt, params, growLists, fillCells, newAt, rdPtr, wrPtr, AV.cells, asVal, lenOf, boundOf, rowsOf, argIds, freshIn, scalar1, setAll, AV.isData, AV.isYld, Nat.reduceAdd, Nat.reduceMul, Nat.reduceSub, Nat.reduceEqDiff, Nat.reduceLeDiff, Nat.reduceLT, Int.reduceNeg, ↓reduceIte, reduceCtorEq, Int.reduceEq, Int.reduceLT, Int.reduceLE, Int.reduceBEq, Int.reduceBNe, Int.reduceToNat, IntKind.bits, Int.reduceAdd, Int.reduceSub, Int.reduceMul, Int.reduceTDiv, Int.reduceTMod, DB, f1, f2, g, h1', e_prefix_Check, h2]
          rw [if_neg (TabFrom.not hk fun h => h2 h.2.1)]
    · simp only [RB, pickV, eqbV, notV, negV, convV, faddrV, fldV, idxV, eqaggV, iaddrV, isnilV, nilckV, cloV, extrV, slenV, minV, sidxV, abin, cmpInt, params, growLists, fillCells, newAt, rdPtr, wrPtr, AV.cells, asVal, lenOf, boundOf, rowsOf, argIds, freshIn, scalar1, setAll, AV.isData, AV.isYld, Nat.reduceAdd, Nat.reduceMul, Nat.reduceSub, Nat.reduceEqDiff, Nat.reduceLeDiff, Nat.reduceLT, Int.reduceNeg, ↓reduceIte, reduceCtorEq, Int.reduceEq, Int.reduceLT, Int.reduceLE, Int.reduceBEq, Int.reduceBNe, Int.reduceToNat, IntKind.bits, Int.reduceAdd, Int.reduceSub, Int.reduceMul, Int.reduceTDiv, Int.reduceTMod, DB, show ¬ (k : Int) < (l.length : Int) by omega]
      rw [if_pos (TabFrom.done (by omega))]
  · congr 2
theorem e_ref09_Right (l : List Rw) (hl : l.length ≤ 4611686018427387904) : LV E 15 [.agg [.ro (rrows l)]] = some (.bool (decide (TabOk l))) := by
  rw [LV_R (fn := f15) rfl rfl rfl]
  simp only [f15, RB, pickV, eqbV, notV, negV, convV, faddrV, fldV, idxV, eqaggV, iaddrV, isnilV, nilckV, cloV, extrV, slenV, minV, sidxV, abin, cmpInt, params, growLists, fillCells, newAt, rdPtr, wrPtr, AV.cells, asVal, lenOf, boundOf, rowsOf, argIds, freshIn, scalar1, setAll, AV.isData, AV.isYld, Nat.reduceAdd, Nat.reduceMul, Nat.reduceSub, Nat.reduceEqDiff, Nat.reduceLeDiff, Nat.reduceLT, Int.reduceNeg, ↓reduceIte, reduceCtorEq, Int.reduceEq, Int.reduceLT, Int.reduceLE, Int.reduceBEq, Int.reduceBNe, Int.reduceToNat, IntKind.bits, Int.reduceAdd, Int.reduceSub, Int.reduceMul, Int.reduceTDiv, Int.reduceTMod, DB, rrows_len]
  by_cases h40 : (40 : Int) < (l.length : Int)
  · simp only [RB, pickV, eqbV, notV, negV, convV, faddrV, fldV, idxV, eqaggV, iaddrV, isnilV, nilckV, cloV, extrV, slenV, minV, sidxV, abin, cmpInt, params, growLists, fillCells, newAt, rdPtr, wrPtr, AV.cells, asVal, lenOf, boundOf, rowsOf, argIds, freshIn, scalar1, setAll, AV.isData, AV.isYld, Nat.reduceAdd, Nat.reduceMul, Nat.reduceSub, Nat.reduceEqDiff, Nat.reduceLeDiff, Nat.reduceLT, Int.reduceNeg, ↓reduceIte, reduceCtorEq, Int.reduceEq, Int.reduceLT, Int.reduceLE, Int.reduceBEq, Int.reduceBNe, Int.reduceToNat, IntKind.bits, Int.reduceAdd, Int.reduceSub, Int.reduceMul, Int.reduceTDiv, Int.reduceTMod, h40]
    rw [decide_eq_false fun h => by have := TabOk.len h; omega]
  · simp only [RB, pickV, eqbV, notV, negV, convV, faddrV, fldV, idxV, eqaggV, iaddrV, isnilV, nilckV, cloV, extrV, slenV, minV, sidxV, abin, cmpInt, params, growLists, fillCells, newAt, rdPtr, wrPtr, AV.cells, asVal, lenOf, boundOf, rowsOf, argIds, freshIn, scalar1, setAll, AV.isData, AV.isYld, Nat.reduceAdd, Nat.reduceMul, Nat.reduceSub, Nat.reduceEqDiff, Nat.reduceLeDiff, Nat.reduceLT, Int.reduceNeg, ↓reduceIte, reduceCtorEq, Int.reduceEq, Int.reduceLT, Int.reduceLE, Int.reduceBEq, Int.reduceBNe, Int.reduceToNat, IntKind.bits, Int.reduceAdd, Int.reduceSub, Int.reduceMul, Int.reduceTDiv, Int.reduceTMod, h40]
    refine (W_rec (β := AV) (ι := Nat) (M := fun k => [(1, .ptr 0 0 0 0), (3, .int .i64 (k : Int))]) (H := fun _ => ⟨[.box 0 30 [.ro (rrows l)]], []⟩) (r := fun k => some (AV.bool (decide (TabFrom l k)))) (μ := fun k => l.length - k) (fun i => ?_) (fun k ih => ?_) 0).trans ?_
    · simp [LPB]
    · by_cases hk : k < l.length
      · have f1 : (k : Int) < (l.length : Int) := by omega
        have f2 : (0 : Int) ≤ (k : Int) := by omega
        have f6 : IntKind.i64.wrap ((k : Int) + 1) = ((k + 1 : Nat) : Int) := by rw [IntWalk.i64_in _ (by omega)] <;> omega
        have g := rrows_get l hk
        have h1 : k ≠ 40 := by omega
        by_cases h2 : PfxOk (row l k).p
        · by_cases h3 : (row l k).hop < 1
          · simp only [RB, pickV, eqbV, notV, negV, convV, faddrV, fldV, idxV, eqaggV, iaddrV, isnilV, nilckV, cloV, extrV, slenV, minV, sidxV, abin, cmpInt, params, growLists, fillCells, newAt, rdPtr, wrPtr, AV.cells, asVal, lenOf, boundOf, rowsOf, argIds, freshIn, scalar1, setAll, AV.isData, AV.isYld, Nat.reduceAdd, Nat.reduceMul, Nat.reduceSub, Nat.reduceEqDiff, Nat.reduceLeDiff, Nat.reduceLT, Int.reduceNeg, ↓reduceIte, reduceCtorEq, Int.reduceEq, Int.reduceLT, Int.reduceLE, Int.reduceBEq, Int.reduceBNe, Int.reduceToNat, IntKind.bits, Int.reduceAdd, Int.reduceSub, Int.reduceMul, Int.reduceTDiv, Int.reduceTMod, DB, rrows_len, f1, f2, g, e_ref05_Right, h2, h3]
            rw [decide_eq_false (TabFrom.not hk fun h => by have := h.2.2.1; omega)]
          · by_cases h3' : 255 < (row l k).hop
            · simp only [RB, pickV, eqbV, notV, negV, convV, faddrV, fldV, idxV, eqaggV, iaddrV, isnilV, nilckV, cloV, extrV, slenV, minV, sidxV, abin, cmpInt, params, growLists, fillCells, newAt, rdPtr, wrPtr, AV.cells, asVal, lenOf, boundOf, rowsOf, argIds, freshIn, scalar1, setAll, AV.isData, AV.isYld, Nat.reduceAdd, Nat.reduceMul, Nat.reduceSub, Nat.reduceEqDiff, Nat.reduceLeDiff, Nat.reduceLT, Int.reduceNeg, ↓reduceIte, reduceCtorEq, Int.reduceEq, Int.reduceLT, Int.reduceLE, Int.reduceBEq, Int.reduceBNe, Int.reduceToNat, IntKind.bits, Int.reduceAdd, Int.reduceSub, Int.reduceMul, Int.reduceTDiv, Int.reduceTMod, DB, rrows_len, f1, f2, g, e_ref05_Right, h2, h3, h3']
              rw [decide_eq_false (TabFrom.not hk fun h => by have := h.2.2.2.1; omega)]
            · by_cases h4 : 0 < k
              · have g' := rrows_get l (show k - 1 < l.length by omega)
                have f3 : IntKind.i64.wrap ((k : Int) - 1) = ((k - 1 : Nat) : Int) := by rw [IntWalk.i64_in _ (by omega)] <;> omega
                have f4 : (0 : Int) < (k : Int) := by omega
                have f5 : (0 : Int) ≤ ((k - 1 : Nat) : Int) := by omega
                by_cases h5 : 0 ≤ cmpP (row l (k - 1)).p (row l k).p
                · simp only [RB, pickV, eqbV, notV, negV, convV, faddrV, fldV, idxV, eqaggV, iaddrV, isnilV, nilckV, cloV, extrV, slenV, minV, sidxV, abin, cmpInt, params, growLists, fillCells, newAt, rdPtr, wrPtr, AV.cells, asVal, lenOf, boundOf, rowsOf, argIds, freshIn, scalar1, setAll, AV.isData, AV.isYld, Nat.reduceAdd, Nat.reduceMul, Nat.reduceSub, Nat.reduceEqDiff, Nat.reduceLeDiff, Nat.reduceLT, Int.reduceNeg, ↓reduceIte, reduceCtorEq, Int.reduceEq, Int.reduceLT, Int.reduceLE, Int.reduceBEq, Int.reduceBNe, Int.reduceToNat, IntKind.bits, Int.reduceAdd, Int.reduceSub, Int.reduceMul, Int.reduceTDiv, Int.reduceTMod, DB, rrows_len, f1, f2, f3, f4, f5, g, g', e_ref05_Right, h2, e_ref05_Compare, h3, h3', h5]
                  rw [decide_eq_false (TabFrom.not hk fun h => by have := h.2.2.2.2 h4; omega)]
                · simp only [RB, pickV, eqbV, notV, negV, convV, faddrV, fldV, idxV, eqaggV, iaddrV, isnilV, nilckV, cloV, extrV, slenV, minV, sidxV, abin, cmpInt, params, growLists, fillCells, newAt, rdPtr, wrPtr, AV.cells, asVal, lenOf, boundOf, rowsOf, argIds, freshIn, scalar1, setAll, AV.isData, AV.isYld, Nat.reduceAdd, Nat.reduceMul, Nat.reduceSub, Nat.reduceEqDiff, Nat.reduceLeDiff, Nat.reduceLT, Int.reduceNeg, ↓reduceIte, reduceCtorEq, Int.reduceEq, Int.reduceLT, Int.reduceLE, Int.reduceBEq, Int.reduceBNe, Int.reduceToNat, IntKind.bits, Int.reduceAdd, Int.reduceSub, Int.reduceMul, Int.reduceTDiv, Int.reduceTMod, DB, rrows_len, f1, f2, f3, f4, f5, f6, g, g', e_ref05_Right, h2, e_ref05_Compare, h3, h3', h5]
                  rw [ih (k + 1) (by omega)]
                  simp only [TabFrom.next (show RowOk l k from ⟨h1, h2, by omega, by omega, fun _ => by omega⟩)]
              · have f4 : ¬ (0 : Int) < (k : Int) := by omega
                simp only [RB, pickV, eqbV, notV, negV, convV, faddrV, fldV, idxV, eqaggV, iaddrV, isnilV, nilckV, cloV, extrV, slenV, minV, sidxV, abin, cmpInt, params, growLists, fillCells, newAt, rdPtr, wrPtr, AV.cells, asVal, lenOf, boundOf, rowsOf, argIds, freshIn, scalar1, setAll, AV.isData, AV.isYld, Nat.reduceAdd, Nat.reduceMul, Nat.reduceSub, Nat.reduceEqDiff, Nat.reduceLeDiff, Nat.reduceLT, Int.reduceNeg, ↓reduceIte, reduceCtorEq, Int.reduceEq, Int.reduceLT, Int.reduceLE, Int.reduceBEq, Int.reduceBNe, Int.reduceToNat, IntKind.bits, Int.reduceAdd, Int.reduceSub, Int.reduceMul, Int.reduceTDiv, Int.reduceTMod, DB, rrows_len, f1, f2, f4, f6, g, e_ref05_Right, h2, h3, h3']
                rw [ih (k + 1) (by omega)]
                simp only [TabFrom.next (show RowOk l k from ⟨h1, h2, by omega, by omega, fun h => absurd h h4⟩)]
        · simp only [RB, pickV, eqbV, notV, negV, convV, faddrV, fldV, idxV, eqaggV, iaddrV, isnilV, nilckV, cloV, extrV, slenV, minV, sidxV, abin, cmpInt, params, growLists, fillCells, newAt, rdPtr, wrPtr, AV.cells, asVal, lenOf, boundOf, rowsOf, argIds, freshIn, scalar1, setAll, AV.isData, AV.isYld, Nat.reduceAdd, Nat.reduceMul, Nat.reduceSub, Nat.reduceEqDiff, Nat.reduceLeDiff, Nat.reduceLT, Int.reduceNeg, ↓reduceIte, reduceCtorEq, Int.reduceEq, Int.reduceLT, Int.reduceLE, Int.reduceBEq, Int.reduceBNe, Int.reduceToNat, IntKind.bits, Int.reduceAdd, Int.reduceSub, Int.reduceMul, Int.reduceTDiv, Int.reduceTMod, DB, rrows_len, f1, f2, g, e_ref05_Right, h2]
          rw [decide_eq_false (TabFrom.not hk fun h => h2 h.2.1)]
      · simp only [RB, pickV, eqbV, notV, negV, convV, faddrV, fldV, idxV, eqaggV, iaddrV, isnilV, nilckV, cloV, extrV, slenV, minV, sidxV, abin, cmpInt, params, growLists, fillCells, newAt, rdPtr, wrPtr, AV.cells, asVal, lenOf, boundOf, rowsOf, argIds, freshIn, scalar1, setAll, AV.isData, AV.isYld, Nat.reduceAdd, Nat.reduceMul, Nat.reduceSub, Nat.reduceEqDiff, Nat.reduceLeDiff, Nat.reduceLT, Int.reduceNeg, ↓reduceIte, reduceCtorEq, Int.reduceEq, Int.reduceLT, Int.reduceLE, Int.reduceBEq, Int.reduceBNe, Int.reduceToNat, IntKind.bits, Int.reduceAdd, Int.reduceSub, Int.reduceMul, Int.reduceTDiv, Int.reduceTMod, DB, rrows_len, show ¬ (k : Int) < (l.length : Int) by omega]
        rw [decide_eq_true (TabFrom.done (by omega))]
    · congr 2
end Go.Proofs.YtdllnneeopbmdaaDoor.F

/- Tables: which are the same; copies; cursors. No condition. -/
set_option linter.unusedSimpArgs false
namespace Go.Proofs.YtdllnneeopbmdaaDoor.D
open Go Go.Proofs.YtdllnneeopbmdaaDoor.A
structure Cur where
  begun : Bool
  done : Bool
  after : Pfx
  deriving DecidableEq
def zerC : Cur := ⟨false, false, zerP⟩
def cav (c : Cur) : List AV := .bool c.begun :: .bool c.done :: pav c.after
theorem cav_zer : cav zerC = [.bool false, .bool false, .int .i64 0, .int .u8 0, .int .u8 0, .int .u8 0, .int .u8 0, .int .u8 0, .int .u8 0, .int .u8 0, .int .u8 0, .int .u8 0, .int .u8 0, .int .u8 0, .int .u8 0, .int .u8 0, .int .u8 0, .int .u8 0, .int .u8 0, .int .i64 0] := rfl
theorem cav_len (c : Cur) : (cav c).length = 20 := by simp [cav, pav_len]
theorem cav_data (c : Cur) : dataL (cav c) = true := by simp only [cav, data_cons, pav_data, AV.isData]; rfl
theorem cav_below (m : Nat) (c : Cur) : belowL m (cav c) = true := below_data m (cav_data c)
theorem cav_p (c : Cur) : piece (cav c) 0 20 = some (cav c) := pc_all _ _ (cav_len c)
theorem cav_0 (c : Cur) : piece (cav c) 0 1 = some [.bool c.begun] := piece_hd
theorem cav_1 (c : Cur) : piece (cav c) 1 1 = some [.bool c.done] := by
  unfold piece; rw [if_pos (by rw [cav_len]; omega)]; rfl
theorem cav_2 (c : Cur) : piece (cav c) 2 18 = some (pav c.after) := by
  unfold piece; rw [if_pos (by rw [cav_len]; omega)]
  simp only [cav, List.drop_succ_cons, List.drop_zero]
  rw [← pav_len c.after, List.take_length]
theorem cav_o (l : List AV) (c : Cur) (h : l.length = 20) : ovr l 0 (cav c) = some (cav c) := ovr_all _ _ (by rw [h, cav_len])
theorem cav_o0 (c : Cur) (b : Bool) : ovr (cav c) 0 [.bool b] = some (cav ⟨b, c.done, c.after⟩) := by
  unfold ovr; rw [if_pos (by rw [cav_len]; simp)]; rfl
theorem cav_o1 (c : Cur) (b : Bool) : ovr (cav c) 1 [.bool b] = some (cav ⟨c.begun, b, c.after⟩) := by
  unfold ovr; rw [if_pos (by rw [cav_len]; simp)]; rfl
theorem cav_o2 (c : Cur) (p : Pfx) : ovr (cav c) 2 (pav p) = some (cav ⟨c.begun, c.done, p⟩) := by
  unfold ovr; rw [if_pos (by rw [cav_len, pav_len]; omega)]
  simp only [cav, pav_len, List.take_succ_cons, List.take_zero, List.cons_append, List.nil_append, List.drop_succ_cons]
  rw [List.drop_eq_nil_of_le (by rw [pav_len]; omega)]; simp
theorem eqb2 (x y z w : Bool) : eqCells [0, 0] [.bool x, .bool z] [.bool y, .bool w] = some (decide (x = y) && decide (z = w)) := by
  cases x <;> cases y <;> cases z <;> cases w <;> rfl
theorem eq_cav (a b : Cur) : eqCells [0, 0, 1, 1, 1, 1, 1, 1, 1, 1, 1, 1, 1, 1, 1, 1, 1, 1, 1, 1] (cav a) (cav b) = some (decide (a = b)) := by
  have := eqCells_append [0, 0] [1, 1, 1, 1, 1, 1, 1, 1, 1, 1, 1, 1, 1, 1, 1, 1, 1, 1] [.bool a.begun, .bool a.done] (pav a.after) [.bool b.begun, .bool b.done] (pav b.after) rfl rfl
  rw [eqb2, eq_pav] at this
  refine this.trans (congrArg some ?_)
  obtain ⟨v, x, u⟩ := a; obtain ⟨w, y, z⟩ := b
  by_cases h1 : v = w <;> by_cases h2 : x = y <;> by_cases h3 : u = z <;> simp [h1, h2, h3]
theorem rrows_take (l : List Rw) (n : Nat) : (rrows l).take n = rrows (l.take n) := by simp [rrows, List.map_take]
theorem rrows_drop (l : List Rw) (n : Nat) : (rrows l).drop n = rrows (l.drop n) := by simp [rrows, List.map_drop]
theorem rrows_fit (l : List Rw) : headFits 19 (rrows l) = true := by
  cases l with
  | nil => rfl
  | cons a l => simp [headFits, rrows, rav_len]
theorem rrows_fits (l : List Rw) {i n : Nat} (h : i ≤ n) (hn : n ≤ l.length) : rowFits 19 i n (rrows l) = true := by
  unfold rowFits
  by_cases h2 : i = n
  · simp [h2]
  · rw [rrows_get l (show i < l.length by omega)]; simp [rav_len]
theorem rrows_nil : rrows [] = [] := rfl
theorem rrows_snoc (l : List Rw) (r : Rw) : rrows l ++ [rav r] = rrows (l ++ [r]) := by simp [rrows]
theorem rrows_append (l r : List Rw) : rrows l ++ rrows r = rrows (l ++ r) := by simp [rrows]
def DiffAt (a b : List Rw) (k : Nat) : Prop := ∀ i, k ≤ i → i < a.length → row a i = row b i
noncomputable instance {a b : List Rw} {k : Nat} : Decidable (DiffAt a b k) := Classical.propDecidable _
theorem DiffAt.next {a b : List Rw} {k : Nat} (h : row a k = row b k) : DiffAt a b k ↔ DiffAt a b (k + 1) := by
  constructor
  · exact fun H i h1 h2 => H i (by omega) h2
  · intro H i h1 h2
    rcases Nat.lt_or_eq_of_le h1 with h3 | rfl
    · exact H i h3 h2
    · exact h
theorem same_iff {a b : List Rw} (h : a.length = b.length) : a = b ↔ DiffAt a b 0 := by
  constructor
  · rintro rfl i _ _; rfl
  · intro H
    refine List.ext_getElem? fun i => ?_
    by_cases hi : i < a.length
    · rw [row_some a hi, row_some b (by omega), H i (Nat.zero_le _) hi]
    · rw [List.getElem?_eq_none (by omega), List.getElem?_eq_none (by omega)]
theorem DB2 : ((((type_of% (@rrows_len) ∧ type_of% (@cav_len)) ∧ (type_of% (@cav_data) ∧ type_of% (@cav_p))) ∧ ((type_of% (@cav_0) ∧ type_of% (@cav_1)) ∧ (type_of% (@cav_2) ∧ (type_of% (@cav_o) ∧ type_of% (@cav_o0))))) ∧ (((type_of% (@cav_o1) ∧ type_of% (@cav_o2)) ∧ (type_of% (@eq_cav) ∧ type_of% (@rrows_take))) ∧ ((type_of% (@rrows_drop) ∧ type_of% (@rrows_fit)) ∧ (type_of% (@rrows_snoc) ∧ (type_of% (@rrows_append) ∧ type_of% (@head_nil)))))) := ⟨⟨⟨⟨@rrows_len, @cav_len⟩, ⟨@cav_data, @cav_p⟩⟩, ⟨⟨@cav_0, @cav_1⟩, ⟨@cav_2, ⟨@cav_o, @cav_o0⟩⟩⟩⟩, ⟨⟨⟨@cav_o1, @cav_o2⟩, ⟨@eq_cav, @rrows_take⟩⟩, ⟨⟨@rrows_drop, @rrows_fit⟩, ⟨@rrows_snoc, ⟨@rrows_append, @head_nil⟩⟩⟩⟩⟩
end Go.Proofs.YtdllnneeopbmdaaDoor.D
namespace Go.Proofs.YtdllnneeopbmdaaDoor.F
open Go Go.Proofs.YtdllnneeopbmdaaDoor.A Go.Proofs.YtdllnneeopbmdaaDoor.D
def GoOn (c : Cur) : Prop := c.done = false ∧ if c.begun then PfxOk c.after else c.after = zerP
instance {c : Cur} : Decidable (GoOn c) := by unfold GoOn; infer_instance
end Go.Proofs.YtdllnneeopbmdaaDoor.F

/- The order of prefixes is an order; the rows of a table rise. No condition. -/
set_option linter.unusedSimpArgs false
namespace Go.Proofs.YtdllnneeopbmdaaDoor.D
open Go Go.Proofs.YtdllnneeopbmdaaDoor.A
/-- The rows of a table rise. -/
def Rise (l : List Rw) : Prop := l.Pairwise fun a b => cmpP a.p b.p < 0
theorem rise_of : ∀ {l : List Rw}, (∀ i, i + 1 < l.length → cmpP (row l i).p (row l (i + 1)).p < 0) → Rise l
  | [], _ => List.Pairwise.nil
  | [a], _ => List.pairwise_singleton _ _
  | a :: b :: l, h => by
    have h1 : Rise (b :: l) := rise_of fun i hi => by
      have := h (i + 1) (by simp at hi ⊢; omega)
      simpa [row] using this
    have h0 : cmpP a.p b.p < 0 := by simpa [row] using h 0 (by simp)
    refine List.pairwise_cons.2 ⟨fun x hx => ?_, h1⟩
    rcases List.mem_cons.1 hx with rfl | hx
    · exact h0
    · exact cmp_trans h0 ((List.pairwise_cons.1 h1).1 x hx)
theorem TabOk.rise {l : List Rw} (h : TabOk l) : Rise l := rise_of fun i hi => by
  have := (h (i + 1) (Nat.zero_le _) hi).2.2.2.2 (by omega)
  simpa using this
theorem TabOk.mem {l : List Rw} (h : TabOk l) {r : Rw} (hr : r ∈ l) : PfxOk r.p ∧ 1 ≤ r.hop ∧ r.hop ≤ 255 := by
  obtain ⟨i, hi, rfl⟩ := List.mem_iff_getElem.1 hr
  have := h i (Nat.zero_le _) hi
  unfold RowOk at this
  have e : row l i = l[i] := by
    have h1 := row_some l hi
    rw [List.getElem?_eq_getElem hi] at h1
    exact (Option.some.inj h1).symm
  rw [e] at this
  exact ⟨this.2.1, this.2.2.1, this.2.2.2.1⟩
theorem tab_of {l : List Rw} (h0 : l.length ≤ 40) (h1 : Rise l) (h2 : ∀ r ∈ l, PfxOk r.p ∧ 1 ≤ r.hop ∧ r.hop ≤ 255) : TabOk l := fun i _ hi => by
  have e : ∀ j, j < l.length → row l j ∈ l := fun j hj => List.mem_of_getElem? (row_some l hj)
  obtain ⟨a, b, c⟩ := h2 _ (e i hi)
  refine ⟨by omega, a, b, c, fun h => ?_⟩
  have k1 := row_some l (show i - 1 < l.length by omega)
  have k2 := row_some l hi
  rw [List.getElem?_eq_getElem (show i - 1 < l.length by omega)] at k1
  rw [List.getElem?_eq_getElem hi] at k2
  have := List.pairwise_iff_getElem.1 h1 (i - 1) i (by omega) hi (by omega)
  rw [Option.some.inj k1, Option.some.inj k2] at this
  exact this
theorem Rise.filter {l : List Rw} (h : Rise l) (P : Rw → Bool) : Rise (l.filter P) := List.Pairwise.sublist List.filter_sublist h
/-- What stands behind so many rows is what is greater than the last one of them. -/
theorem Rise.behind {l : List Rw} (h : Rise l) {n : Nat} {r : Rw} (hr : (l.take n).getLast? = some r) : l.filter (fun x => decide (0 < cmpP x.p r.p)) = l.drop n := by
  have e : l = l.take n ++ l.drop n := (List.take_append_drop n l).symm
  have hp := h
  rw [Rise, e, List.pairwise_append] at hp
  have hm : r ∈ l.take n := List.mem_of_getLast? hr
  have h1 : (l.take n).filter (fun x => decide (0 < cmpP x.p r.p)) = [] := by
    rw [List.filter_eq_nil_iff]
    intro x hx
    obtain ⟨pre, hpre⟩ := List.getLast?_eq_some_iff.1 hr
    rw [hpre] at hx hp
    have hq := (List.pairwise_append.1 hp.1).2.2
    rcases List.mem_append.1 hx with h' | h'
    · have := hq x h' r (by simp)
      simp; omega
    · simp at h'; subst h'; simp [cmp_self]
  have h2 : (l.drop n).filter (fun x => decide (0 < cmpP x.p r.p)) = l.drop n := List.filter_eq_self.2 fun x hx => by
    have := hp.2.2 r hm x hx
    rw [cmp_anti] at this
    simp; omega
  conv => lhs; rw [e]
  rw [List.filter_append, h1, h2, List.nil_append]
end Go.Proofs.YtdllnneeopbmdaaDoor.D

/- Who contains an address, or a prefix; the longest match. No condition. -/
set_option linter.unusedSimpArgs false
namespace Go.Proofs.YtdllnneeopbmdaaDoor.D
open Go Go.Proofs.YtdllnneeopbmdaaDoor.A
/-- The longest match: the first one of the greatest length. -/
def better (a : Adr) (best : Option Rw) (r : Rw) : Option Rw := if Has r.p a then match best with
  | none => some r
  | some b => if b.p.bits < r.p.bits then some r else some b
  else best
def longS (a : Adr) (l : List Rw) (best : Option Rw) : Option Rw := l.foldl (better a) best
theorem lex_ge : ∀ {l r : List Int}, (∀ (i : Nat) x y, l[i]? = some x → r[i]? = some y → y ≤ x) → 0 ≤ lexL l r
  | a :: l, b :: r, h => by
    have h0 := h 0 a b rfl rfl
    simp only [lexL, show ¬ a < b by omega, if_false]
    split
    · decide
    · exact lex_ge fun i x y hx hy => h (i + 1) x y (by simpa using hx) (by simpa using hy)
  | [], _, _ => by simp [lexL]
  | _ :: _, [], _ => by simp [lexL]
theorem cutN_mono (x m n : Nat) (h : n ≤ m) : cutN x n ≤ cutN x m := by
  apply Nat.le_of_not_lt
  intro hlt
  have e : cutN (cutN x m) n = cutN x n := by
    apply Nat.eq_of_testBit_eq
    intro j
    rw [cutN_bit, cutN_bit, cutN_bit]
    by_cases h1 : 8 - n ≤ j
    · simp [h1, show 8 - m ≤ j by omega]
    · simp [h1]
  have := cutN_le (cutN x m) n
  omega
theorem cut_cut (b : B16) {m n : Nat} (h : m ≤ n) : cut (cut b n) m = cut b m := bits_ext fun k hk => by
  rw [cut_bit _ _ hk, cut_bit _ _ hk, cut_bit _ _ hk]
  by_cases h1 : k < m
  · simp [h1, show k < n by omega]
  · simp [h1]
theorem ints_at (b : B16) {i : Nat} {x : Int} (h : (ints b)[i]? = some x) : x = (b.get i : Int) ∧ i < 16 := by
  have hi : i < 16 := by
    have := (List.getElem?_eq_some_iff.1 h).1
    rwa [ints_len] at this
  simp only [ints, List.getElem?_map, b.get_some hi, Option.map_some, Option.some.injEq] at h
  exact ⟨h.symm, hi⟩
theorem cut_ge (b : B16) {m n : Nat} (h : n ≤ m) : 0 ≤ lexL (ints (cut b m)) (ints (cut b n)) := lex_ge fun i x y hx hy => by
  obtain ⟨rfl, hi⟩ := ints_at _ hx
  obtain ⟨rfl, _⟩ := ints_at _ hy
  rw [cut_get _ _ hi, cut_get _ _ hi]
  have := cutN_mono (b.get i) (m - 8 * i) (n - 8 * i) (by omega)
  omega
end Go.Proofs.YtdllnneeopbmdaaDoor.D
namespace Go.Proofs.YtdllnneeopbmdaaDoor.F
open Go Go.Proofs.YtdllnneeopbmdaaDoor.A Go.Proofs.YtdllnneeopbmdaaDoor.D
/-- Of two that contain an address the one that stands ahead is the shorter one, and contains the other one. -/
theorem has_lt {p q : Pfx} {a : Adr} (hp : Has p a) (hq : Has q a) (h : cmpP p q < 0) : p.bits < q.bits ∧ Holds p q := by
  obtain ⟨p1, p2, p3, p4⟩ := hp
  obtain ⟨q1, q2, q3, q4⟩ := hq
  have hb : p.bits < q.bits := by
    apply Int.lt_of_not_ge
    intro hge
    have h0 := q1.2.1
    have hl := cut_ge a.b (m := p.bits.toNat) (n := q.bits.toNat) (by omega)
    rw [p4, q4] at hl
    rw [cmp_key, show cmpI p.adr.ver q.adr.ver = 0 by rw [p3, q3]; simp [cmpI]] at h
    simp only [ne_eq, not_true_eq_false, if_false] at h
    by_cases hz : lexL (ints p.adr.b) (ints q.adr.b) = 0
    · simp only [hz, not_true_eq_false, if_false] at h
      unfold cmpI at h
      rw [if_neg (by omega)] at h
      split at h <;> omega
    · rw [if_pos hz] at h; omega
  refine ⟨hb, q1, by omega, p1, q1.1, by rw [p3, q3], ?_⟩
  have := p1.2.1
  rw [← q4, cut_cut a.b (by omega)]; exact p4
theorem long_last {a : Adr} : ∀ (l : List Rw) (best : Option Rw), Rise l → (∀ b, best = some b → ∀ r ∈ l, Has r.p a → b.p.bits < r.p.bits) → longS a l best = match (l.filter fun r => decide (Has r.p a)).getLast? with
    | some r => some r
    | none => best
  | [], best, _, _ => rfl
  | r :: l, best, h, hb => by
    have h1 := List.pairwise_cons.1 h
    by_cases hr : Has r.p a
    · have e : better a best r = some r := by
        unfold better
        rw [if_pos hr]
        cases best with
        | none => rfl
        | some b => simp only; rw [if_pos (hb b rfl r (by simp) hr)]
      have ih := long_last l (some r) h1.2 fun b hb' x hx hx' => by
        cases hb'
        exact (has_lt hr hx' (h1.1 x hx)).1
      show longS a l (better a best r) = _
      rw [e, ih]
      rw [List.filter_cons, if_pos (by simpa using hr)]
      cases hl : (l.filter fun r => decide (Has r.p a)).getLast? with
      | none =>
        have : (l.filter fun r => decide (Has r.p a)) = [] := by simpa using hl
        rw [this]; rfl
      | some x =>
        rw [List.getLast?_cons, hl]; rfl
    · have e : better a best r = best := by unfold better; rw [if_neg hr]
      show longS a l (better a best r) = _
      rw [e, long_last l best h1.2 fun b hb' x hx hx' => hb b hb' x (by simp [hx]) hx', List.filter_cons, if_neg (by simpa using hr)]
theorem e_table_Longest (l : List Rw) (hl : l.length ≤ 1000000) (a : Adr) : LV E 39 [.agg [.ro (rrows l)], .agg (aav a)] = some (if TabOk l then if AddrOk a then .tup [.agg (rav ((longS a l none).getD zerR)), .bool (longS a l none).isSome, .int .i64 0] else .tup [.agg (rav zerR), .bool false, .int .i64 150] else .tup [.agg (rav zerR), .bool false, .int .i64 190]) := by
  rw [LV_R (fn := f39) rfl rfl rfl]
  simp only [f39, ← rav_zer, RB, pickV, eqbV, notV, negV, convV, faddrV, fldV, idxV, eqaggV, iaddrV, isnilV, nilckV, cloV, extrV, slenV, minV, sidxV, abin, cmpInt, params, growLists, fillCells, newAt, rdPtr, wrPtr, AV.cells, asVal, lenOf, boundOf, rowsOf, argIds, freshIn, scalar1, setAll, AV.isData, AV.isYld, Nat.reduceAdd, Nat.reduceMul, Nat.reduceSub, Nat.reduceEqDiff, Nat.reduceLeDiff, Nat.reduceLT, Int.reduceNeg, ↓reduceIte, reduceCtorEq, Int.reduceEq, Int.reduceLT, Int.reduceLE, Int.reduceBEq, Int.reduceBNe, Int.reduceToNat, IntKind.bits, Int.reduceAdd, Int.reduceSub, Int.reduceMul, Int.reduceTDiv, Int.reduceTMod, DB, DB2, e_table_Check l (show l.length ≤ 4611686018427387904 by omega)]
  by_cases h1 : TabOk l
  · by_cases h2 : AddrOk a
    · simp only [RB, pickV, eqbV, notV, negV, convV, faddrV, fldV, idxV, eqaggV, iaddrV, isnilV, nilckV, cloV, extrV, slenV, minV, sidxV, abin, cmpInt, params, growLists, fillCells, newAt, rdPtr, wrPtr, AV.cells, asVal, lenOf, boundOf, rowsOf, argIds, freshIn, scalar1, setAll, AV.isData, AV.isYld, Nat.reduceAdd, Nat.reduceMul, Nat.reduceSub, Nat.reduceEqDiff, Nat.reduceLeDiff, Nat.reduceLT, Int.reduceNeg, ↓reduceIte, reduceCtorEq, Int.reduceEq, Int.reduceLT, Int.reduceLE, Int.reduceBEq, Int.reduceBNe, Int.reduceToNat, IntKind.bits, Int.reduceAdd, Int.reduceSub, Int.reduceMul, Int.reduceTDiv, Int.reduceTMod, DB, DB2, h1, h2, e_prefix_CheckAddr, bne_self_eq_false]
      refine (W_rec2 (β := AV) (ι := Nat × Option Rw) (M := fun s => [(3, .ptr 1 0 0 0), (4, .ptr 2 0 0 0), (7, .ptr 3 0 0 0), (8, .bool s.2.isSome), (22, .ro (rrows l)), (23, .int .i64 (l.length : Int)), (24, .int .i64 (s.1 : Int))])
        (H := fun s => ⟨[.box 0 30 [.ro (rrows l)], .box 0 33 (aav a), .box 0 85 (rav zerR), .box 0 85 (rav (s.2.getD zerR))], []⟩)
        (r := fun s => some (AV.tup [.agg (rav ((longS a (l.drop s.1) s.2).getD zerR)), .bool (longS a (l.drop s.1) s.2).isSome, .int .i64 0])) (μ := fun s => l.length - s.1) (fun s => ?_) (fun s ih => ?_) (0, none) rfl rfl)
      · simp [LPB]
      · obtain ⟨k, best⟩ := s
        simp only at ih ⊢
        by_cases hk : k < l.length
        · have f1 : (k : Int) < (l.length : Int) := by omega
          have f2 : (0 : Int) ≤ (k : Int) := by omega
          have f6 : IntKind.i64.wrap ((k : Int) + 1) = ((k + 1 : Nat) : Int) := by rw [IntWalk.i64_in _ (by omega)] <;> omega
          have g1 := rrows_get l hk
          have ed : l.drop k = row l k :: l.drop (k + 1) := by
            have h1 := row_some l hk
            rw [List.getElem?_eq_getElem hk] at h1
            rw [List.drop_eq_getElem_cons hk, Option.some.inj h1]
          have el : longS a (l.drop k) best = longS a (l.drop (k + 1)) (better a best (row l k)) := by rw [ed]; rfl
          rw [el]
          have ih := ih (k + 1, better a best (row l k)) (by simp only; omega)
          simp only at ih
          rw [← ih]
          unfold better
          by_cases hh : Has (row l k).p a
          · cases best with
            | none => simp only [RB, pickV, eqbV, notV, negV, convV, faddrV, fldV, idxV, eqaggV, iaddrV, isnilV, nilckV, cloV, extrV, slenV, minV, sidxV, abin, cmpInt, params, growLists, fillCells, newAt, rdPtr, wrPtr, AV.cells, asVal, lenOf, boundOf, rowsOf, argIds, freshIn, scalar1, setAll, AV.isData, AV.isYld, Nat.reduceAdd, Nat.reduceMul, Nat.reduceSub, Nat.reduceEqDiff, Nat.reduceLeDiff, Nat.reduceLT, Int.reduceNeg, ↓reduceIte, reduceCtorEq, Int.reduceEq, Int.reduceLT, Int.reduceLE, Int.reduceBEq, Int.reduceBNe, Int.reduceToNat, IntKind.bits, Int.reduceAdd, Int.reduceSub, Int.reduceMul, Int.reduceTDiv, Int.reduceTMod, DB, DB2, R7B, f1, f2, f6, g1, e_prefix_Has, hh, Option.isSome_none, Option.isSome_some, Option.getD_some, Option.getD_none]
            | some b =>
              by_cases hb : b.p.bits < (row l k).p.bits
              · simp only [RB, pickV, eqbV, notV, negV, convV, faddrV, fldV, idxV, eqaggV, iaddrV, isnilV, nilckV, cloV, extrV, slenV, minV, sidxV, abin, cmpInt, params, growLists, fillCells, newAt, rdPtr, wrPtr, AV.cells, asVal, lenOf, boundOf, rowsOf, argIds, freshIn, scalar1, setAll, AV.isData, AV.isYld, Nat.reduceAdd, Nat.reduceMul, Nat.reduceSub, Nat.reduceEqDiff, Nat.reduceLeDiff, Nat.reduceLT, Int.reduceNeg, ↓reduceIte, reduceCtorEq, Int.reduceEq, Int.reduceLT, Int.reduceLE, Int.reduceBEq, Int.reduceBNe, Int.reduceToNat, IntKind.bits, Int.reduceAdd, Int.reduceSub, Int.reduceMul, Int.reduceTDiv, Int.reduceTMod, DB, DB2, R7B, f1, f2, f6, g1, e_prefix_Has, hh, hb, Option.isSome_none, Option.isSome_some, Option.getD_some, Option.getD_none]
              · simp only [RB, pickV, eqbV, notV, negV, convV, faddrV, fldV, idxV, eqaggV, iaddrV, isnilV, nilckV, cloV, extrV, slenV, minV, sidxV, abin, cmpInt, params, growLists, fillCells, newAt, rdPtr, wrPtr, AV.cells, asVal, lenOf, boundOf, rowsOf, argIds, freshIn, scalar1, setAll, AV.isData, AV.isYld, Nat.reduceAdd, Nat.reduceMul, Nat.reduceSub, Nat.reduceEqDiff, Nat.reduceLeDiff, Nat.reduceLT, Int.reduceNeg, ↓reduceIte, reduceCtorEq, Int.reduceEq, Int.reduceLT, Int.reduceLE, Int.reduceBEq, Int.reduceBNe, Int.reduceToNat, IntKind.bits, Int.reduceAdd, Int.reduceSub, Int.reduceMul, Int.reduceTDiv, Int.reduceTMod, DB, DB2, R7B, f1, f2, f6, g1, e_prefix_Has, hh, hb, Option.isSome_none, Option.isSome_some, Option.getD_some, Option.getD_none]
          · simp only [RB, pickV, eqbV, notV, negV, convV, faddrV, fldV, idxV, eqaggV, iaddrV, isnilV, nilckV, cloV, extrV, slenV, minV, sidxV, abin, cmpInt, params, growLists, fillCells, newAt, rdPtr, wrPtr, AV.cells, asVal, lenOf, boundOf, rowsOf, argIds, freshIn, scalar1, setAll, AV.isData, AV.isYld, Nat.reduceAdd, Nat.reduceMul, Nat.reduceSub, Nat.reduceEqDiff, Nat.reduceLeDiff, Nat.reduceLT, Int.reduceNeg, ↓reduceIte, reduceCtorEq, Int.reduceEq, Int.reduceLT, Int.reduceLE, Int.reduceBEq, Int.reduceBNe, Int.reduceToNat, IntKind.bits, Int.reduceAdd, Int.reduceSub, Int.reduceMul, Int.reduceTDiv, Int.reduceTMod, DB, DB2, R7B, f1, f2, f6, g1, e_prefix_Has, hh]
        · simp only [RB, pickV, eqbV, notV, negV, convV, faddrV, fldV, idxV, eqaggV, iaddrV, isnilV, nilckV, cloV, extrV, slenV, minV, sidxV, abin, cmpInt, params, growLists, fillCells, newAt, rdPtr, wrPtr, AV.cells, asVal, lenOf, boundOf, rowsOf, argIds, freshIn, scalar1, setAll, AV.isData, AV.isYld, Nat.reduceAdd, Nat.reduceMul, Nat.reduceSub, Nat.reduceEqDiff, Nat.reduceLeDiff, Nat.reduceLT, Int.reduceNeg, ↓reduceIte, reduceCtorEq, Int.reduceEq, Int.reduceLT, Int.reduceLE, Int.reduceBEq, Int.reduceBNe, Int.reduceToNat, IntKind.bits, Int.reduceAdd, Int.reduceSub, Int.reduceMul, Int.reduceTDiv, Int.reduceTMod, DB, DB2, R7B, show ¬ (k : Int) < (l.length : Int) by omega, List.drop_eq_nil_of_le (show l.length ≤ k by omega), expCell, List.nodup_cons, List.nodup_nil, List.not_mem_nil, not_false_eq_true, not_true_eq_false, and_true, and_false, if_false, List.mem_cons, mutIds]
          rfl
    · simp only [RB, pickV, eqbV, notV, negV, convV, faddrV, fldV, idxV, eqaggV, iaddrV, isnilV, nilckV, cloV, extrV, slenV, minV, sidxV, abin, cmpInt, params, growLists, fillCells, newAt, rdPtr, wrPtr, AV.cells, asVal, lenOf, boundOf, rowsOf, argIds, freshIn, scalar1, setAll, AV.isData, AV.isYld, Nat.reduceAdd, Nat.reduceMul, Nat.reduceSub, Nat.reduceEqDiff, Nat.reduceLeDiff, Nat.reduceLT, Int.reduceNeg, ↓reduceIte, reduceCtorEq, Int.reduceEq, Int.reduceLT, Int.reduceLE, Int.reduceBEq, Int.reduceBNe, Int.reduceToNat, IntKind.bits, Int.reduceAdd, Int.reduceSub, Int.reduceMul, Int.reduceTDiv, Int.reduceTMod, DB, DB2, h1, h2, e_prefix_CheckAddr, bne_self_eq_false, expCell, List.nodup_cons, List.nodup_nil, List.not_mem_nil, not_false_eq_true, not_true_eq_false, and_true, and_false, if_false, List.mem_cons, mutIds]
  · simp only [RB, pickV, eqbV, notV, negV, convV, faddrV, fldV, idxV, eqaggV, iaddrV, isnilV, nilckV, cloV, extrV, slenV, minV, sidxV, abin, cmpInt, params, growLists, fillCells, newAt, rdPtr, wrPtr, AV.cells, asVal, lenOf, boundOf, rowsOf, argIds, freshIn, scalar1, setAll, AV.isData, AV.isYld, Nat.reduceAdd, Nat.reduceMul, Nat.reduceSub, Nat.reduceEqDiff, Nat.reduceLeDiff, Nat.reduceLT, Int.reduceNeg, ↓reduceIte, reduceCtorEq, Int.reduceEq, Int.reduceLT, Int.reduceLE, Int.reduceBEq, Int.reduceBNe, Int.reduceToNat, IntKind.bits, Int.reduceAdd, Int.reduceSub, Int.reduceMul, Int.reduceTDiv, Int.reduceTMod, DB, DB2, h1, expCell, List.nodup_cons, List.nodup_nil, List.not_mem_nil, not_false_eq_true, not_true_eq_false, and_true, and_false, if_false, List.mem_cons, mutIds]
end Go.Proofs.YtdllnneeopbmdaaDoor.F

/- Who contains whom is an order. No condition. -/
set_option linter.unusedSimpArgs false
namespace Go.Proofs.YtdllnneeopbmdaaDoor.D
open Go Go.Proofs.YtdllnneeopbmdaaDoor.A
theorem cut_cut' (b : B16) {m n : Nat} (h : m ≤ n) : cut (cut b n) m = cut b m := bits_ext fun k hk => by
  rw [cut_bit _ _ hk, cut_bit _ _ hk, cut_bit _ _ hk]
  by_cases h1 : k < m
  · simp [h1, show k < n by omega]
  · simp [h1]
theorem cut_clr {b : B16} {n : Nat} (h : Clr b n) : cut b n = b := bits_ext fun k hk => by
  rw [cut_bit _ _ hk]
  by_cases h1 : k < n
  · simp [h1]
  · simp [h1, h k (by omega) hk]
theorem Holds.ok {p q : Pfx} (h : Holds p q) : PfxOk p ∧ PfxOk q ∧ p.bits ≤ q.bits ∧ p.adr.ver = q.adr.ver ∧ cut q.adr.b p.bits.toNat = p.adr.b := ⟨h.2.2.1, h.1, h.2.1, h.2.2.2.2.1, h.2.2.2.2.2⟩
theorem holds_of {p q : Pfx} (h1 : PfxOk p) (h2 : PfxOk q) (h3 : p.bits ≤ q.bits) (h4 : p.adr.ver = q.adr.ver) (h5 : cut q.adr.b p.bits.toNat = p.adr.b) : Holds p q := ⟨h2, h3, h1, h2.1, h4, h5⟩
theorem holds_refl {p : Pfx} (h : PfxOk p) : Holds p p := holds_of h h (Int.le_refl _) rfl (cut_clr h.2.2.2)
theorem holds_trans {p q r : Pfx} (h : Holds p q) (k : Holds q r) : Holds p r := by
  obtain ⟨a1, a2, a3, a4, a5⟩ := h.ok
  obtain ⟨b1, b2, b3, b4, b5⟩ := k.ok
  refine holds_of a1 b2 (by omega) (a4.trans b4) ?_
  rw [← a5, ← b5, cut_cut' _ (by have := a1.2.1; omega)]
theorem holds_anti {p q : Pfx} (h : Holds p q) (k : Holds q p) : p = q := by
  obtain ⟨a1, a2, a3, a4, a5⟩ := h.ok
  obtain ⟨b1, b2, b3, b4, b5⟩ := k.ok
  have hb : p.bits = q.bits := by omega
  have hc := cut_clr a2.2.2.2
  rw [← hb, a5] at hc
  obtain ⟨⟨v, b⟩, n⟩ := p
  obtain ⟨⟨w, c⟩, m⟩ := q
  simp only at hb hc a4
  subst hb; subst hc; subst a4; rfl
theorem holds_comp {x y q : Pfx} (h : Holds x q) (k : Holds y q) : Holds x y ∨ Holds y x := by
  obtain ⟨a1, a2, a3, a4, a5⟩ := h.ok
  obtain ⟨b1, b2, b3, b4, b5⟩ := k.ok
  have p1 := a1.2.1
  have p2 := b1.2.1
  rcases Int.le_total x.bits y.bits with hl | hl
  · exact .inl (holds_of a1 b1 hl (a4.trans b4.symm) (by rw [← a5, ← b5, cut_cut' _ (by omega)]))
  · exact .inr (holds_of b1 a1 hl (b4.trans a4.symm) (by rw [← a5, ← b5, cut_cut' _ (by omega)]))
end Go.Proofs.YtdllnneeopbmdaaDoor.D

/- Arguments that are read: prefixes, addresses, rows, tables, rows of numbers. No condition. -/
set_option linter.unusedSimpArgs false
set_option maxRecDepth 20000
namespace Go.Proofs.YtdllnneeopbmdaaDoor.D
open Go Go.RowKit Go.Proofs.YtdllnneeopbmdaaDoor.A Go.Proofs.YtdllnneeopbmdaaDoor.J
variable {w : World} {P : Program} {t : TypeId} {v : Value}
def I64 (n : Int) : Prop := -9223372036854775808 ≤ n ∧ n ≤ 9223372036854775807
def k8 : List CK := List.replicate 16 (.i .u8)
theorem fits_u8 : ∀ (n : Nat) (cs : List Value), Fits (List.replicate n (.i .u8)) cs → ∃ l : List Nat, l.length = n ∧ (∀ x ∈ l, x < 256) ∧ cs.map avOf = l.map u8c
  | 0, [], _ => ⟨[], rfl, by simp, rfl⟩
  | n + 1, c :: cs, h => by
    rw [List.replicate_succ] at h
    obtain ⟨⟨m, rfl, hm⟩, h2⟩ := h
    obtain ⟨l, h3, h4, h5⟩ := fits_u8 n cs h2
    have hm' : 0 ≤ m ∧ m ≤ 255 := by simp [Lit.wf] at hm; exact hm
    refine ⟨m.toNat :: l, by simp [h3], ?_, ?_⟩
    · intro x hx
      rcases List.mem_cons.1 hx with rfl | hx
      · omega
      · exact h4 x hx
    · simp only [List.map_cons, h5, avOf, u8c]
      rw [show ((m.toNat : Nat) : Int) = m by omega]
  | 0, _ :: _, h => h.elim
  | n + 1, [], h => by rw [List.replicate_succ] at h; exact h.elim
theorem fits_split : ∀ (k1 k2 : List CK) (cs : List Value), Fits (k1 ++ k2) cs → ∃ a b, cs = a ++ b ∧ Fits k1 a ∧ Fits k2 b
  | [], k2, cs, h => ⟨[], cs, rfl, trivial, h⟩
  | k :: k1, k2, c :: cs, h => by
    obtain ⟨a, b, rfl, h1, h2⟩ := fits_split k1 k2 cs h.2
    exact ⟨c :: a, b, rfl, ⟨h.1, h1⟩, h2⟩
  | _ :: _, _, [], h => h.elim
theorem fits_b16 {cs : List Value} (h : Fits k8 cs) : ∃ b : B16, cs.map avOf = bav b := by
  obtain ⟨l, h1, h2, h3⟩ := fits_u8 16 cs h
  exact ⟨⟨l, h1, h2⟩, h3⟩
theorem fits_adr {cs : List Value} (h : Fits (.i .i64 :: k8) cs) : ∃ a : Adr, cs.map avOf = aav a ∧ I64 a.ver := by
  match cs, h with
  | c :: cs, ⟨⟨n, hc, hn⟩, h2⟩ =>
    subst hc
    obtain ⟨b, hb⟩ := fits_b16 h2
    exact ⟨⟨n, b⟩, by simp only [List.map_cons, hb, avOf, aav], wf_i64 hn⟩
theorem fits_pfx {cs : List Value} (h : Fits (.i .i64 :: (k8 ++ [.i .i64])) cs) : ∃ p : Pfx, cs.map avOf = pav p ∧ I64 p.adr.ver ∧ I64 p.bits := by
  match cs, h with
  | c :: cs, ⟨⟨n, hc, hn⟩, h2⟩ =>
    subst hc
    obtain ⟨a, b, rfl, h3, h4⟩ := fits_split k8 [.i .i64] cs h2
    clear h2
    obtain ⟨b16, hb⟩ := fits_b16 h3
    obtain ⟨d, rfl⟩ := List.length_eq_one_iff.1 h4.length.symm
    obtain ⟨⟨m, hd, hm⟩, _⟩ := h4
    subst hd
    exact ⟨⟨⟨n, b16⟩, m⟩, by simp only [List.map_cons, List.map_append, hb, avOf, pav, List.map_nil], wf_i64 hn, wf_i64 hm⟩
theorem fits_rw {cs : List Value} (h : Fits (.i .i64 :: (k8 ++ [.i .i64, .i .i64])) cs) : ∃ r : Rw, cs.map avOf = rav r ∧ I64 r.p.adr.ver ∧ I64 r.p.bits ∧ I64 r.hop := by
  match cs, h with
  | c :: cs, ⟨⟨n, hc, hn⟩, h2⟩ =>
    subst hc
    obtain ⟨a, b, rfl, h3, h4⟩ := fits_split k8 [.i .i64, .i .i64] cs h2
    clear h2
    obtain ⟨b16, hb⟩ := fits_b16 h3
    obtain ⟨d, e, rfl⟩ : ∃ d e, b = [d, e] := by
      have h5 := h4.length
      match b, h5 with
      | [d, e], _ => exact ⟨d, e, rfl⟩
    obtain ⟨⟨m, hd, hm⟩, ⟨o, he, ho⟩, _⟩ := h4
    subst hd; subst he
    exact ⟨⟨⟨⟨n, b16⟩, m⟩, o⟩, by simp only [List.map_cons, List.map_append, hb, avOf, rav, List.map_nil], wf_i64 hn, wf_i64 hm, wf_i64 ho⟩
theorem plain_one {u : Value} (h : plainV u = true) : u.oneCell' = true := by cases u <;> first | rfl | cases h
theorem rep_flat {ks : List CK} {cs : List Value} (h : Fits ks cs) : Rep w (Old w) [] [] [] (.agg (cs.map avOf)) (.agg cs.toArray) :=
  .agg _ _ (by simp) (fun u hu => plain_one (fits_plain h u hu)) (avOf_repL (fits_plain h)).2
/-- A flat struct. -/
theorem reads_flat {fs : Array Field} {n : Nat} {ks : List CK} (h : Reads P w t v) (ht : P.underlying t = some (.struct fs)) (hf : flat P n t = some ks) : ∃ cs, Fits ks cs ∧ Rep w (Old w) [] [] [] (.agg (cs.map avOf)) v := by
  obtain ⟨cs, rfl, hr⟩ := h.agg ht
  exact ⟨cs, hr.flat hf, rep_flat (hr.flat hf)⟩
theorem reads_pfx {fs : Array Field} {n : Nat} (h : Reads P w t v) (ht : P.underlying t = some (.struct fs)) (hf : flat P n t = some (.i .i64 :: (k8 ++ [.i .i64]))) : ∃ p : Pfx, Rep w (Old w) [] [] [] (.agg (pav p)) v ∧ I64 p.adr.ver ∧ I64 p.bits := by
  obtain ⟨cs, h1, h2⟩ := reads_flat h ht hf
  obtain ⟨p, h3, h4⟩ := fits_pfx h1
  exact ⟨p, h3 ▸ h2, h4⟩
theorem rdc_slice {e : TypeId} {k : Nat} {α : Type} {enc : α → List AV} {ok : α → Prop} {n : Nat} {ks : List CK} {a : Option Addr} {css : List (List Value)} {cap : Nat} (hk : 0 < k) (hc : css.length ≤ cap) (hs : SlC w k a css) (hcs : ∀ c ∈ css, RdC P w e c) (hf : flat P n e = some ks) (hfit : ∀ cs, Fits ks cs → ∃ x : α, cs.map avOf = enc x ∧ ok x) :
    ∃ l : List α, l.length = css.length ∧ (∀ x ∈ l, ok x) ∧ Rep w (Old w) [] [] [] (.ro (l.map enc)) (.slice a css.length cap) := by
  have key : ∀ css : List (List Value), (∀ c ∈ css, RdC P w e c) → ∃ l : List α, l.length = css.length ∧ (∀ x ∈ l, ok x) ∧ css.map (·.map avOf) = l.map enc := by
    intro css
    induction css with
    | nil => exact fun _ => ⟨[], rfl, by simp, rfl⟩
    | cons c css ih =>
      intro h
      obtain ⟨l, h1, h2, h3⟩ := ih fun x hx => h x (List.mem_cons_of_mem _ hx)
      obtain ⟨x, h4, h5⟩ := hfit c ((h c List.mem_cons_self).flat hf)
      exact ⟨x :: l, by simp [h1], fun y hy => by
        rcases List.mem_cons.1 hy with rfl | hy
        · exact h5
        · exact h2 y hy, by simp only [List.map_cons, h4, h3]⟩
  obtain ⟨l, h1, h2, h3⟩ := key css hcs
  exact ⟨l, h1, h2, h3 ▸ slice_rep hk hs hc fun c hc u hu => fits_plain ((hcs c hc).flat hf) u hu⟩
theorem maxLen_le : maxLen ≤ 9223372036854775807 := by decide
/-- A slice of flat things. -/
theorem reads_slice {e : TypeId} {k : Nat} {α : Type} {enc : α → List AV} {ok : α → Prop} {n : Nat} {ks : List CK} (h : Reads P w t v) (ht : P.underlying t = some (.slice e)) (hk : k = P.cellsOf e) (hpos : 0 < k) (hf : flat P n e = some ks) (hfit : ∀ cs, Fits ks cs → ∃ x : α, cs.map avOf = enc x ∧ ok x) :
    ∃ l : List α, l.length ≤ 9223372036854775807 ∧ (∀ x ∈ l, ok x) ∧ Rep w (Old w) [] [] [] (.ro (l.map enc)) v := by
  obtain ⟨a, cap, css, rfl, h1, h2, h3, h4⟩ := h.slice ht hk hpos
  obtain ⟨l, h5, h6, h7⟩ := rdc_slice hpos h1 h3 h4 hf hfit
  exact ⟨l, by have := maxLen_le; omega, h6, h7⟩
theorem fits_int {cs : List Value} (h : Fits [.i .i64] cs) : ∃ n : Int, cs.map avOf = [.int .i64 n] ∧ I64 n := by
  obtain ⟨c, rfl⟩ := List.length_eq_one_iff.1 h.length.symm
  obtain ⟨⟨n, hc, hn⟩, _⟩ := h
  subst hc; exact ⟨n, rfl, wf_i64 hn⟩
/-- A struct of one slice of flat things. -/
theorem reads_one {e ts : TypeId} {k : Nat} {α : Type} {enc : α → List AV} {ok : α → Prop} {n : Nat} {ks : List CK} {f : Field} (h : Reads P w t v) (ht : P.underlying t = some (.struct #[f])) (hoff : f.offset = 0) (hty : f.type = ts) (hc1 : P.cellsOf t = 1) (hc2 : P.cellsOf ts = 1) (hts : P.underlying ts = some (.slice e)) (hk : k = P.cellsOf e) (hpos : 0 < k) (hf : flat P n e = some ks) (hfit : ∀ cs, Fits ks cs → ∃ x : α, cs.map avOf = enc x ∧ ok x) :
    ∃ l : List α, l.length ≤ 9223372036854775807 ∧ (∀ x ∈ l, ok x) ∧ Rep w (Old w) [] [] [] (.agg [.ro (l.map enc)]) v := by
  obtain ⟨cs, rfl, hr⟩ := h.agg ht
  obtain ⟨h1, h2⟩ := hr.struct ht
  rw [hc1] at h1
  obtain ⟨c, rfl⟩ := List.length_eq_one_iff.1 h1
  have h3 := h2 f (by simp)
  rw [hoff, hty, hc2] at h3
  obtain ⟨a, cap, css, h4, h5, h6, h7, h8⟩ := h3.slice hts hk hpos
  simp at h4
  subst h4
  obtain ⟨l, h9, h10, h11⟩ := rdc_slice hpos h5 h7 h8 hf hfit
  refine ⟨l, by have := maxLen_le; omega, h10, .agg _ _ rfl (by simp [Value.oneCell']) fun i x u hx hu => ?_⟩
  cases i with
  | zero =>
    simp at hx hu
    subst hx; subst hu
    exact h11
  | succ i => simp at hx
end Go.Proofs.YtdllnneeopbmdaaDoor.D

/- Counts: which may be, two together. No condition. -/
set_option linter.unusedSimpArgs false
namespace Go.Proofs.YtdllnneeopbmdaaDoor.D
open Go Go.Proofs.YtdllnneeopbmdaaDoor.A
def NOk (c : Cnt) : Prop := c.pk ≤ 4611686018427387904 ∧ c.by' ≤ 4611686018427387904
instance {c : Cnt} : Decidable (NOk c) := by unfold NOk; infer_instance
def sumN (a b : Int) : Int := if 4611686018427387904 < IntKind.u64.wrap (a + b) then 4611686018427387904 else IntKind.u64.wrap (a + b)
theorem min_sum (a b : Int) : aminmax false .u64 (IntKind.u64.wrap (a + b)) [.int .u64 4611686018427387904] = some (.int .u64 (sumN a b)) := by
  unfold sumN
  by_cases h : 4611686018427387904 < IntKind.u64.wrap (a + b)
  · simp [aminmax, h]
  · simp [aminmax, h]
def plusN (c d : Cnt) : Cnt := ⟨sumN c.pk d.pk, sumN c.by' d.by'⟩
end Go.Proofs.YtdllnneeopbmdaaDoor.D
namespace Go.Proofs.YtdllnneeopbmdaaDoor.F
open Go Go.Proofs.YtdllnneeopbmdaaDoor.A Go.Proofs.YtdllnneeopbmdaaDoor.D
theorem e50 (c : Cnt) : LV E 50 [.agg (nav c)] = some (.bool (decide (NOk c))) := by
  rw [LV_R (fn := f50) rfl rfl rfl]
  simp only [f50, RB, pickV, eqbV, notV, negV, convV, faddrV, fldV, idxV, eqaggV, iaddrV, isnilV, nilckV, cloV, extrV, slenV, minV, sidxV, abin, cmpInt, params, growLists, fillCells, newAt, rdPtr, wrPtr, AV.cells, asVal, lenOf, boundOf, rowsOf, argIds, freshIn, scalar1, setAll, AV.isData, AV.isYld, Nat.reduceAdd, Nat.reduceMul, Nat.reduceSub, Nat.reduceEqDiff, Nat.reduceLeDiff, Nat.reduceLT, Int.reduceNeg, ↓reduceIte, reduceCtorEq, Int.reduceEq, Int.reduceLT, Int.reduceLE, Int.reduceBEq, Int.reduceBNe, Int.reduceToNat, IntKind.bits, Int.reduceAdd, Int.reduceSub, Int.reduceMul, Int.reduceTDiv, Int.reduceTMod, DB, DB2, DB3]
  by_cases h1 : c.pk ≤ 4611686018427387904
  · simp only [RB, pickV, eqbV, notV, negV, convV, faddrV, fldV, idxV, eqaggV, iaddrV, isnilV, nilckV, cloV, extrV, slenV, minV, sidxV, abin, cmpInt, params, growLists, fillCells, newAt, rdPtr, wrPtr, AV.cells, asVal, lenOf, boundOf, rowsOf, argIds, freshIn, scalar1, setAll, AV.isData, AV.isYld, Nat.reduceAdd, Nat.reduceMul, Nat.reduceSub, Nat.reduceEqDiff, Nat.reduceLeDiff, Nat.reduceLT, Int.reduceNeg, ↓reduceIte, reduceCtorEq, Int.reduceEq, Int.reduceLT, Int.reduceLE, Int.reduceBEq, Int.reduceBNe, Int.reduceToNat, IntKind.bits, Int.reduceAdd, Int.reduceSub, Int.reduceMul, Int.reduceTDiv, Int.reduceTMod, DB, DB2, DB3, h1]; simp [NOk, h1]
  · simp only [RB, pickV, eqbV, notV, negV, convV, faddrV, fldV, idxV, eqaggV, iaddrV, isnilV, nilckV, cloV, extrV, slenV, minV, sidxV, abin, cmpInt, params, growLists, fillCells, newAt, rdPtr, wrPtr, AV.cells, asVal, lenOf, boundOf, rowsOf, argIds, freshIn, scalar1, setAll, AV.isData, AV.isYld, Nat.reduceAdd, Nat.reduceMul, Nat.reduceSub, Nat.reduceEqDiff, Nat.reduceLeDiff, Nat.reduceLT, Int.reduceNeg, ↓reduceIte, reduceCtorEq, Int.reduceEq, Int.reduceLT, Int.reduceLE, Int.reduceBEq, Int.reduceBNe, Int.reduceToNat, IntKind.bits, Int.reduceAdd, Int.reduceSub, Int.reduceMul, Int.reduceTDiv, Int.reduceTMod, DB, DB2, DB3, h1]; simp [NOk, h1]
theorem e21 (c : Cnt) : LV E 21 [.agg (nav c)] = some (.bool (decide (NOk c))) := by
  rw [LV_R (fn := f21) rfl rfl rfl]
  simp only [f21, RB, pickV, eqbV, notV, negV, convV, faddrV, fldV, idxV, eqaggV, iaddrV, isnilV, nilckV, cloV, extrV, slenV, minV, sidxV, abin, cmpInt, params, growLists, fillCells, newAt, rdPtr, wrPtr, AV.cells, asVal, lenOf, boundOf, rowsOf, argIds, freshIn, scalar1, setAll, AV.isData, AV.isYld, Nat.reduceAdd, Nat.reduceMul, Nat.reduceSub, Nat.reduceEqDiff, Nat.reduceLeDiff, Nat.reduceLT, Int.reduceNeg, ↓reduceIte, reduceCtorEq, Int.reduceEq, Int.reduceLT, Int.reduceLE, Int.reduceBEq, Int.reduceBNe, Int.reduceToNat, IntKind.bits, Int.reduceAdd, Int.reduceSub, Int.reduceMul, Int.reduceTDiv, Int.reduceTMod, DB, DB2, DB3]
  by_cases h1 : c.pk ≤ 4611686018427387904
  · simp only [RB, pickV, eqbV, notV, negV, convV, faddrV, fldV, idxV, eqaggV, iaddrV, isnilV, nilckV, cloV, extrV, slenV, minV, sidxV, abin, cmpInt, params, growLists, fillCells, newAt, rdPtr, wrPtr, AV.cells, asVal, lenOf, boundOf, rowsOf, argIds, freshIn, scalar1, setAll, AV.isData, AV.isYld, Nat.reduceAdd, Nat.reduceMul, Nat.reduceSub, Nat.reduceEqDiff, Nat.reduceLeDiff, Nat.reduceLT, Int.reduceNeg, ↓reduceIte, reduceCtorEq, Int.reduceEq, Int.reduceLT, Int.reduceLE, Int.reduceBEq, Int.reduceBNe, Int.reduceToNat, IntKind.bits, Int.reduceAdd, Int.reduceSub, Int.reduceMul, Int.reduceTDiv, Int.reduceTMod, DB, DB2, DB3, h1]; simp [NOk, h1]
  · simp only [RB, pickV, eqbV, notV, negV, convV, faddrV, fldV, idxV, eqaggV, iaddrV, isnilV, nilckV, cloV, extrV, slenV, minV, sidxV, abin, cmpInt, params, growLists, fillCells, newAt, rdPtr, wrPtr, AV.cells, asVal, lenOf, boundOf, rowsOf, argIds, freshIn, scalar1, setAll, AV.isData, AV.isYld, Nat.reduceAdd, Nat.reduceMul, Nat.reduceSub, Nat.reduceEqDiff, Nat.reduceLeDiff, Nat.reduceLT, Int.reduceNeg, ↓reduceIte, reduceCtorEq, Int.reduceEq, Int.reduceLT, Int.reduceLE, Int.reduceBEq, Int.reduceBNe, Int.reduceToNat, IntKind.bits, Int.reduceAdd, Int.reduceSub, Int.reduceMul, Int.reduceTDiv, Int.reduceTMod, DB, DB2, DB3, h1]; simp [NOk, h1]
theorem e52 (a b : Int) : LV E 52 [.int .u64 a, .int .u64 b] = some (.int .u64 (sumN a b)) := by
  rw [LV_R (fn := f52) rfl rfl rfl]
  simp only [f52, RB, pickV, eqbV, notV, negV, convV, faddrV, fldV, idxV, eqaggV, iaddrV, isnilV, nilckV, cloV, extrV, slenV, minV, sidxV, abin, cmpInt, params, growLists, fillCells, newAt, rdPtr, wrPtr, AV.cells, asVal, lenOf, boundOf, rowsOf, argIds, freshIn, scalar1, setAll, AV.isData, AV.isYld, Nat.reduceAdd, Nat.reduceMul, Nat.reduceSub, Nat.reduceEqDiff, Nat.reduceLeDiff, Nat.reduceLT, Int.reduceNeg, ↓reduceIte, reduceCtorEq, Int.reduceEq, Int.reduceLT, Int.reduceLE, Int.reduceBEq, Int.reduceBNe, Int.reduceToNat, IntKind.bits, Int.reduceAdd, Int.reduceSub, Int.reduceMul, Int.reduceTDiv, Int.reduceTMod, DB, DB2, DB3]
  by_cases h1 : 4611686018427387904 < IntKind.u64.wrap (a + b)
  · simp only [RB, pickV, eqbV, notV, negV, convV, faddrV, fldV, idxV, eqaggV, iaddrV, isnilV, nilckV, cloV, extrV, slenV, minV, sidxV, abin, cmpInt, params, growLists, fillCells, newAt, rdPtr, wrPtr, AV.cells, asVal, lenOf, boundOf, rowsOf, argIds, freshIn, scalar1, setAll, AV.isData, AV.isYld, Nat.reduceAdd, Nat.reduceMul, Nat.reduceSub, Nat.reduceEqDiff, Nat.reduceLeDiff, Nat.reduceLT, Int.reduceNeg, ↓reduceIte, reduceCtorEq, Int.reduceEq, Int.reduceLT, Int.reduceLE, Int.reduceBEq, Int.reduceBNe, Int.reduceToNat, IntKind.bits, Int.reduceAdd, Int.reduceSub, Int.reduceMul, Int.reduceTDiv, Int.reduceTMod, DB, DB2, DB3, h1]; simp [sumN, h1]
  · simp only [RB, pickV, eqbV, notV, negV, convV, faddrV, fldV, idxV, eqaggV, iaddrV, isnilV, nilckV, cloV, extrV, slenV, minV, sidxV, abin, cmpInt, params, growLists, fillCells, newAt, rdPtr, wrPtr, AV.cells, asVal, lenOf, boundOf, rowsOf, argIds, freshIn, scalar1, setAll, AV.isData, AV.isYld, Nat.reduceAdd, Nat.reduceMul, Nat.reduceSub, Nat.reduceEqDiff, Nat.reduceLeDiff, Nat.reduceLT, Int.reduceNeg, ↓reduceIte, reduceCtorEq, Int.reduceEq, Int.reduceLT, Int.reduceLE, Int.reduceBEq, Int.reduceBNe, Int.reduceToNat, IntKind.bits, Int.reduceAdd, Int.reduceSub, Int.reduceMul, Int.reduceTDiv, Int.reduceTMod, DB, DB2, DB3, h1]; simp [sumN, h1]
theorem e22 (c d : Cnt) : LV E 22 [.agg (nav c), .agg (nav d)] = some (.agg (nav (plusN c d))) := by
  rw [LV_R (fn := f22) rfl rfl rfl]
  simp only [f22, ← nav_zer, RB, pickV, eqbV, notV, negV, convV, faddrV, fldV, idxV, eqaggV, iaddrV, isnilV, nilckV, cloV, extrV, slenV, minV, sidxV, abin, cmpInt, params, growLists, fillCells, newAt, rdPtr, wrPtr, AV.cells, asVal, lenOf, boundOf, rowsOf, argIds, freshIn, scalar1, setAll, AV.isData, AV.isYld, Nat.reduceAdd, Nat.reduceMul, Nat.reduceSub, Nat.reduceEqDiff, Nat.reduceLeDiff, Nat.reduceLT, Int.reduceNeg, ↓reduceIte, reduceCtorEq, Int.reduceEq, Int.reduceLT, Int.reduceLE, Int.reduceBEq, Int.reduceBNe, Int.reduceToNat, IntKind.bits, Int.reduceAdd, Int.reduceSub, Int.reduceMul, Int.reduceTDiv, Int.reduceTMod, DB, DB2, DB3, e52, plusN, expCell, List.nodup_cons, List.nodup_nil, List.not_mem_nil, not_false_eq_true, not_true_eq_false, and_true, and_false, if_false, List.mem_cons, mutIds]
theorem e51 (c d : Cnt) : LV E 51 [.agg (nav c), .agg (nav d)] = some (.agg (nav (plusN c d))) := by
  rw [LV_R (fn := f51) rfl rfl rfl]
  simp only [f51, ← nav_zer, RB, pickV, eqbV, notV, negV, convV, faddrV, fldV, idxV, eqaggV, iaddrV, isnilV, nilckV, cloV, extrV, slenV, minV, sidxV, abin, cmpInt, params, growLists, fillCells, newAt, rdPtr, wrPtr, AV.cells, asVal, lenOf, boundOf, rowsOf, argIds, freshIn, scalar1, setAll, AV.isData, AV.isYld, Nat.reduceAdd, Nat.reduceMul, Nat.reduceSub, Nat.reduceEqDiff, Nat.reduceLeDiff, Nat.reduceLT, Int.reduceNeg, ↓reduceIte, reduceCtorEq, Int.reduceEq, Int.reduceLT, Int.reduceLE, Int.reduceBEq, Int.reduceBNe, Int.reduceToNat, IntKind.bits, Int.reduceAdd, Int.reduceSub, Int.reduceMul, Int.reduceTDiv, Int.reduceTMod, DB, DB2, DB3, plusN, min_sum, expCell, List.nodup_cons, List.nodup_nil, List.not_mem_nil, not_false_eq_true, not_true_eq_false, and_true, and_false, if_false, List.mem_cons, mutIds]
end Go.Proofs.YtdllnneeopbmdaaDoor.F

/- Tallies: which may be; which are the same; which are a table's. No condition. -/
set_option linter.unusedSimpArgs false
namespace Go.Proofs.YtdllnneeopbmdaaDoor.D
open Go Go.Proofs.YtdllnneeopbmdaaDoor.A
theorem lexL_tri : ∀ (l r : List Int), lexL l r = -1 ∨ lexL l r = 0 ∨ lexL l r = 1
  | [], [] => .inr (.inl rfl)
  | [], _ :: _ => .inr (.inl rfl)
  | _ :: _, [] => .inr (.inl rfl)
  | a :: l, b :: r => by
    simp only [lexL]
    repeat' split
    all_goals first | exact lexL_tri l r | simp
theorem cmpP_tri (p q : Pfx) : cmpP p q = -1 ∨ cmpP p q = 0 ∨ cmpP p q = 1 := lexL_tri _ _
def DOk (l : List Cd) (i : Nat) : Prop := PfxOk (dow l i).p ∧ NOk (dow l i).c ∧ (0 < i → cmpP (dow l (i - 1)).p (dow l i).p < 0)
def DFrom (l : List Cd) (k : Nat) : Prop := ∀ i, k ≤ i → i < l.length → DOk l i
instance {l : List Cd} {i : Nat} : Decidable (DOk l i) := by unfold DOk; infer_instance
instance {l : List Cd} {k : Nat} : Decidable (DFrom l k) := decidable_of_iff (∀ i, i < l.length → k ≤ i → DOk l i) ⟨fun h i h1 h2 => h i h2 h1, fun h i h1 h2 => h i h2 h1⟩
def TalOk (l : List Cd) (c : Cnt) : Prop := (l.length ≤ 40 ∧ NOk c) ∧ DFrom l 0
instance {l : List Cd} {c : Cnt} : Decidable (TalOk l c) := by unfold TalOk; infer_instance
theorem DFrom.next {l : List Cd} {k : Nat} (h : DOk l k) : DFrom l k ↔ DFrom l (k + 1) := by
  constructor
  · exact fun H i h1 h2 => H i (by omega) h2
  · intro H i h1 h2
    rcases Nat.lt_or_eq_of_le h1 with h3 | rfl
    · exact H i h3 h2
    · exact h
theorem DFrom.not {l : List Cd} {k : Nat} (hk : k < l.length) (h : ¬ DOk l k) : ¬ DFrom l k := fun H => h (H k (Nat.le_refl _) hk)
theorem DFrom.done {l : List Cd} {k : Nat} (h : l.length ≤ k) : DFrom l k := fun i h1 h2 => by omega
end Go.Proofs.YtdllnneeopbmdaaDoor.D
namespace Go.Proofs.YtdllnneeopbmdaaDoor.F
open Go Go.Proofs.YtdllnneeopbmdaaDoor.A Go.Proofs.YtdllnneeopbmdaaDoor.D
theorem e31 (l : List Cd) (c : Cnt) (hl : l.length ≤ 4611686018427387904) : LV E 31 [.agg (.ro (drows l) :: nav c)] = some (.int .i64 (if TalOk l c then 0 else 410)) := by
  rw [LV_R (fn := f31) rfl rfl rfl]
  simp only [f31, ← nav_zer, ← dav_zer, RB, pickV, eqbV, notV, negV, convV, faddrV, fldV, idxV, eqaggV, iaddrV, isnilV, nilckV, cloV, extrV, slenV, minV, sidxV, abin, cmpInt, params, growLists, fillCells, newAt, rdPtr, wrPtr, AV.cells, asVal, lenOf, boundOf, rowsOf, argIds, freshIn, scalar1, setAll, AV.isData, AV.isYld, Nat.reduceAdd, Nat.reduceMul, Nat.reduceSub, Nat.reduceEqDiff, Nat.reduceLeDiff, Nat.reduceLT, Int.reduceNeg, ↓reduceIte, reduceCtorEq, Int.reduceEq, Int.reduceLT, Int.reduceLE, Int.reduceBEq, Int.reduceBNe, Int.reduceToNat, IntKind.bits, Int.reduceAdd, Int.reduceSub, Int.reduceMul, Int.reduceTDiv, Int.reduceTMod, DB, DB2, DB3, e50]
  by_cases h40 : (40 : Int) < (l.length : Int)
  · simp only [RB, pickV, eqbV, notV, negV, convV, faddrV, fldV, idxV, eqaggV, iaddrV, isnilV, nilckV, cloV, extrV, slenV, minV, sidxV, abin, cmpInt, params, growLists, fillCells, newAt, rdPtr, wrPtr, AV.cells, asVal, lenOf, boundOf, rowsOf, argIds, freshIn, scalar1, setAll, AV.isData, AV.isYld, Nat.reduceAdd, Nat.reduceMul, Nat.reduceSub, Nat.reduceEqDiff, Nat.reduceLeDiff, Nat.reduceLT, Int.reduceNeg, ↓reduceIte, reduceCtorEq, Int.reduceEq, Int.reduceLT, Int.reduceLE, Int.reduceBEq, Int.reduceBNe, Int.reduceToNat, IntKind.bits, Int.reduceAdd, Int.reduceSub, Int.reduceMul, Int.reduceTDiv, Int.reduceTMod, DB, DB2, DB3, h40]
    rw [if_neg fun h => by have := h.1.1; omega]
  · by_cases hn : NOk c
    · simp only [RB, pickV, eqbV, notV, negV, convV, faddrV, fldV, idxV, eqaggV, iaddrV, isnilV, nilckV, cloV, extrV, slenV, minV, sidxV, abin, cmpInt, params, growLists, fillCells, newAt, rdPtr, wrPtr, AV.cells, asVal, lenOf, boundOf, rowsOf, argIds, freshIn, scalar1, setAll, AV.isData, AV.isYld, Nat.reduceAdd, Nat.reduceMul, Nat.reduceSub, Nat.reduceEqDiff, Nat.reduceLeDiff, Nat.reduceLT, Int.reduceNeg, ↓reduceIte, reduceCtorEq, Int.reduceEq, Int.reduceLT, Int.reduceLE, Int.reduceBEq, Int.reduceBNe, Int.reduceToNat, IntKind.bits, Int.reduceAdd, Int.reduceSub, Int.reduceMul, Int.reduceTDiv, Int.reduceTMod, DB, DB2, DB3, h40, e50, hn]
      have ht : TalOk l c ↔ DFrom l 0 := ⟨fun h => h.2, fun h => ⟨⟨by omega, hn⟩, h⟩⟩
      simp only [ht]
      refine (W_rec (β := AV) (ι := Nat) (M := fun k => [(1, .ptr 0 0 0 0), (16, .ro (drows l)), (17, .int .i64 (l.length : Int)), (18, .int .i64 (k : Int))]) (H := fun _ => ⟨[.box 0 27 (.ro (drows l) :: nav c)], []⟩) (r := fun k => some (AV.int .i64 (if DFrom l k then 0 else 410))) (μ := fun k => l.length - k) (fun i => ?_) (fun k ih => ?_) 0).trans ?_
      · simp [LPB, nav_below]
      · by_cases hk : k < l.length
        · have f1 : (k : Int) < (l.length : Int) := by omega
          have f2 : (0 : Int) ≤ (k : Int) := by omega
          have f6 : IntKind.i64.wrap ((k : Int) + 1) = ((k + 1 : Nat) : Int) := by rw [IntWalk.i64_in _ (by omega)] <;> omega
          have g := drows_get l hk
          by_cases h2 : PfxOk (dow l k).p
          · by_cases h3 : NOk (dow l k).c
            · by_cases h4 : 0 < k
              · have g' := drows_get l (show k - 1 < l.length by omega)
                have f3 : IntKind.i64.wrap ((k : Int) - 1) = ((k - 1 : Nat) : Int) := by rw [IntWalk.i64_in _ (by omega)] <;> omega
                have f4 : (0 : Int) < (k : Int) := by omega
                have f5 : (0 : Int) ≤ ((k - 1 : Nat) : Int) := by omega
                by_cases h5 : 0 ≤ cmpP (dow l (k - 1)).p (dow l k).p
                · simp only [RB, pickV, eqbV, notV, negV, convV, faddrV, fldV, idxV, eqaggV, iaddrV, isnilV, nilckV, cloV, extrV, slenV, minV, sidxV, abin, cmpInt, params, growLists, fillCells, newAt, rdPtr, wrPtr, AV.cells, asVal, lenOf, boundOf, rowsOf, argIds, freshIn, scalar1, setAll, AV.isData, AV.isYld, Nat.reduceAdd, Nat.reduceMul, Nat.reduceSub, Nat.reduceEqDiff, Nat.reduceLeDiff, Nat.reduceLT, Int.reduceNeg, ↓reduceIte, reduceCtorEq, Int.reduceEq, Int.reduceLT, Int.reduceLE, Int.reduceBEq, Int.reduceBNe, Int.reduceToNat, IntKind.bits, Int.reduceAdd, Int.reduceSub, Int.reduceMul, Int.reduceTDiv, Int.reduceTMod, DB, DB2, DB3, f1, f2, f3, f4, f5, g, g', e_prefix_Check, h2, e50, h3, e_prefix_Compare, h5]
                  rw [if_neg (DFrom.not hk fun h => by have := h.2.2 h4; omega)]
                · simp only [RB, pickV, eqbV, notV, negV, convV, faddrV, fldV, idxV, eqaggV, iaddrV, isnilV, nilckV, cloV, extrV, slenV, minV, sidxV, abin, cmpInt, params, growLists, fillCells, newAt, rdPtr, wrPtr, AV.cells, asVal, lenOf, boundOf, rowsOf, argIds, freshIn, scalar1, setAll, AV.isData, AV.isYld, Nat.reduceAdd, Nat.reduceMul, Nat.reduceSub, Nat.reduceEqDiff, Nat.reduceLeDiff, Nat.reduceLT, Int.reduceNeg, ↓reduceIte, reduceCtorEq, Int.reduceEq, Int.reduceLT, Int.reduceLE, Int.reduceBEq, Int.reduceBNe, Int.reduceToNat, IntKind.bits, Int.reduceAdd, Int.reduceSub, Int.reduceMul, Int.reduceTDiv, Int.reduceTMod, DB, DB2, DB3, f1, f2, f3, f4, f5, f6, g, g', e_prefix_Check, h2, e50, h3, e_prefix_Compare, h5]
                  rw [ih (k + 1) (by omega)]
                  simp only [DFrom.next (show DOk l k from ⟨h2, h3, fun _ => by omega⟩)]
              · have f4 : ¬ (0 : Int) < (k : Int) := by omega
                simp only [RB, pickV, eqbV, notV, negV, convV, faddrV, fldV, idxV, eqaggV, iaddrV, isnilV, nilckV, cloV, extrV, slenV, minV, sidxV, abin, cmpInt, params, growLists, fillCells, newAt, rdPtr, wrPtr, AV.cells, asVal, lenOf, boundOf, rowsOf, argIds, freshIn, scalar1, setAll, AV.isData, AV.isYld, Nat.reduceAdd, Nat.reduceMul, Nat.reduceSub, Nat.reduceEqDiff, Nat.reduceLeDiff, Nat.reduceLT, Int.reduceNeg, ↓reduceIte, reduceCtorEq, Int.reduceEq, Int.reduceLT, Int.reduceLE, Int.reduceBEq, Int.reduceBNe, Int.reduceToNat, IntKind.bits, Int.reduceAdd, Int.reduceSub, Int.reduceMul, Int.reduceTDiv, Int.reduceTMod, DB, DB2, DB3, f1, f2, f4, f6, g, e_prefix_Check, h2, e50, h3]
                rw [ih (k + 1) (by omega)]
                simp only [DFrom.next (show DOk l k from ⟨h2, h3, fun h => absurd h h4⟩)]
            · simp only [RB, pickV, eqbV, notV, negV, convV, faddrV, fldV, idxV, eqaggV, iaddrV, isnilV, nilckV, cloV, extrV, slenV, minV, sidxV, abin, cmpInt, params, growLists, fillCells, newAt, rdPtr, wrPtr, AV.cells, asVal, lenOf, boundOf, rowsOf, argIds, freshIn, scalar1, setAll, AV.isData, AV.isYld, Nat.reduceAdd, Nat.reduceMul, Nat.reduceSub, Nat.reduceEqDiff, Nat.reduceLeDiff, Nat.reduceLT, Int.reduceNeg, ↓reduceIte, reduceCtorEq, Int.reduceEq, Int.reduceLT, Int.reduceLE, Int.reduceBEq, Int.reduceBNe, Int.reduceToNat, IntKind.bits, Int.reduceAdd, Int.reduceSub, Int.reduceMul, Int.reduceTDiv, Int.reduceTMod, DB, DB2, DB3, f1, f2, g, e_prefix_Check, h2, e50, h3]
              rw [if_neg (DFrom.not hk fun h => h3 h.2.1)]
          · simp only [RB, pickV, eqbV, notV, negV, convV, faddrV, fldV, idxV, eqaggV, iaddrV, isnilV, nilckV, cloV, extrV, slenV, minV, sidxV, abin, cmpInt, params, growLists, fillCells, newAt, rdPtr, wrPtr, AV.cells, asVal, lenOf, boundOf, rowsOf, argIds, freshIn, scalar1, setAll, AV.isData, AV.isYld, Nat.reduceAdd, Nat.reduceMul, Nat.reduceSub, Nat.reduceEqDiff, Nat.reduceLeDiff, Nat.reduceLT, Int.reduceNeg, ↓reduceIte, reduceCtorEq, Int.reduceEq, Int.reduceLT, Int.reduceLE, Int.reduceBEq, Int.reduceBNe, Int.reduceToNat, IntKind.bits, Int.reduceAdd, Int.reduceSub, Int.reduceMul, Int.reduceTDiv, Int.reduceTMod, DB, DB2, DB3, f1, f2, g, e_prefix_Check, h2]
            rw [if_neg (DFrom.not hk fun h => h2 h.1)]
        · simp only [RB, pickV, eqbV, notV, negV, convV, faddrV, fldV, idxV, eqaggV, iaddrV, isnilV, nilckV, cloV, extrV, slenV, minV, sidxV, abin, cmpInt, params, growLists, fillCells, newAt, rdPtr, wrPtr, AV.cells, asVal, lenOf, boundOf, rowsOf, argIds, freshIn, scalar1, setAll, AV.isData, AV.isYld, Nat.reduceAdd, Nat.reduceMul, Nat.reduceSub, Nat.reduceEqDiff, Nat.reduceLeDiff, Nat.reduceLT, Int.reduceNeg, ↓reduceIte, reduceCtorEq, Int.reduceEq, Int.reduceLT, Int.reduceLE, Int.reduceBEq, Int.reduceBNe, Int.reduceToNat, IntKind.bits, Int.reduceAdd, Int.reduceSub, Int.reduceMul, Int.reduceTDiv, Int.reduceTMod, DB, DB2, DB3, show ¬ (k : Int) < (l.length : Int) by omega]
          rw [if_pos (DFrom.done (by omega))]
      · congr 2
    · simp only [RB, pickV, eqbV, notV, negV, convV, faddrV, fldV, idxV, eqaggV, iaddrV, isnilV, nilckV, cloV, extrV, slenV, minV, sidxV, abin, cmpInt, params, growLists, fillCells, newAt, rdPtr, wrPtr, AV.cells, asVal, lenOf, boundOf, rowsOf, argIds, freshIn, scalar1, setAll, AV.isData, AV.isYld, Nat.reduceAdd, Nat.reduceMul, Nat.reduceSub, Nat.reduceEqDiff, Nat.reduceLeDiff, Nat.reduceLT, Int.reduceNeg, ↓reduceIte, reduceCtorEq, Int.reduceEq, Int.reduceLT, Int.reduceLE, Int.reduceBEq, Int.reduceBNe, Int.reduceToNat, IntKind.bits, Int.reduceAdd, Int.reduceSub, Int.reduceMul, Int.reduceTDiv, Int.reduceTMod, DB, DB2, DB3, h40, e50, hn]
      rw [if_neg fun h => hn h.1.2]
theorem e25 (l : List Cd) (c : Cnt) (hl : l.length ≤ 4611686018427387904) : LV E 25 [.agg (.ro (drows l) :: nav c)] = some (.bool (decide (TalOk l c))) := by
  rw [LV_R (fn := f25) rfl rfl rfl]
  simp only [f25, ← nav_zer, ← dav_zer, RB, pickV, eqbV, notV, negV, convV, faddrV, fldV, idxV, eqaggV, iaddrV, isnilV, nilckV, cloV, extrV, slenV, minV, sidxV, abin, cmpInt, params, growLists, fillCells, newAt, rdPtr, wrPtr, AV.cells, asVal, lenOf, boundOf, rowsOf, argIds, freshIn, scalar1, setAll, AV.isData, AV.isYld, Nat.reduceAdd, Nat.reduceMul, Nat.reduceSub, Nat.reduceEqDiff, Nat.reduceLeDiff, Nat.reduceLT, Int.reduceNeg, ↓reduceIte, reduceCtorEq, Int.reduceEq, Int.reduceLT, Int.reduceLE, Int.reduceBEq, Int.reduceBNe, Int.reduceToNat, IntKind.bits, Int.reduceAdd, Int.reduceSub, Int.reduceMul, Int.reduceTDiv, Int.reduceTMod, DB, DB2, DB3, e21]
  by_cases h40 : (40 : Int) < (l.length : Int)
  · simp only [RB, pickV, eqbV, notV, negV, convV, faddrV, fldV, idxV, eqaggV, iaddrV, isnilV, nilckV, cloV, extrV, slenV, minV, sidxV, abin, cmpInt, params, growLists, fillCells, newAt, rdPtr, wrPtr, AV.cells, asVal, lenOf, boundOf, rowsOf, argIds, freshIn, scalar1, setAll, AV.isData, AV.isYld, Nat.reduceAdd, Nat.reduceMul, Nat.reduceSub, Nat.reduceEqDiff, Nat.reduceLeDiff, Nat.reduceLT, Int.reduceNeg, ↓reduceIte, reduceCtorEq, Int.reduceEq, Int.reduceLT, Int.reduceLE, Int.reduceBEq, Int.reduceBNe, Int.reduceToNat, IntKind.bits, Int.reduceAdd, Int.reduceSub, Int.reduceMul, Int.reduceTDiv, Int.reduceTMod, DB, DB2, DB3, h40]
    rw [decide_eq_false fun h => by have := h.1.1; omega]
  · by_cases hn : NOk c
    · simp only [RB, pickV, eqbV, notV, negV, convV, faddrV, fldV, idxV, eqaggV, iaddrV, isnilV, nilckV, cloV, extrV, slenV, minV, sidxV, abin, cmpInt, params, growLists, fillCells, newAt, rdPtr, wrPtr, AV.cells, asVal, lenOf, boundOf, rowsOf, argIds, freshIn, scalar1, setAll, AV.isData, AV.isYld, Nat.reduceAdd, Nat.reduceMul, Nat.reduceSub, Nat.reduceEqDiff, Nat.reduceLeDiff, Nat.reduceLT, Int.reduceNeg, ↓reduceIte, reduceCtorEq, Int.reduceEq, Int.reduceLT, Int.reduceLE, Int.reduceBEq, Int.reduceBNe, Int.reduceToNat, IntKind.bits, Int.reduceAdd, Int.reduceSub, Int.reduceMul, Int.reduceTDiv, Int.reduceTMod, DB, DB2, DB3, h40, e21, hn]
      have ht : TalOk l c ↔ DFrom l 0 := ⟨fun h => h.2, fun h => ⟨⟨by omega, hn⟩, h⟩⟩
      simp only [ht]
      refine (W_rec (β := AV) (ι := Nat) (M := fun k => [(1, .ptr 0 0 0 0), (3, .int .i64 (k : Int))]) (H := fun _ => ⟨[.box 0 27 (.ro (drows l) :: nav c)], []⟩) (r := fun k => some (AV.bool (decide (DFrom l k)))) (μ := fun k => l.length - k) (fun i => ?_) (fun k ih => ?_) 0).trans ?_
      · simp [LPB, nav_below]
      · by_cases hk : k < l.length
        · have f1 : (k : Int) < (l.length : Int) := by omega
          have f2 : (0 : Int) ≤ (k : Int) := by omega
          have f6 : IntKind.i64.wrap ((k : Int) + 1) = ((k + 1 : Nat) : Int) := by rw [IntWalk.i64_in _ (by omega)] <;> omega
          have g := drows_get l hk
          by_cases h2 : PfxOk (dow l k).p
          · by_cases h3 : NOk (dow l k).c
            · by_cases h4 : 0 < k
              · have g' := drows_get l (show k - 1 < l.length by omega)
                have f3 : IntKind.i64.wrap ((k : Int) - 1) = ((k - 1 : Nat) : Int) := by rw [IntWalk.i64_in _ (by omega)] <;> omega
                have f4 : (0 : Int) < (k : Int) := by omega
                have f5 : (0 : Int) ≤ ((k - 1 : Nat) : Int) := by omega
                have h5' := cmpP_tri (dow l (k - 1)).p (dow l k).p
                by_cases h5 : cmpP (dow l (k - 1)).p (dow l k).p = -1
                · simp only [RB, pickV, eqbV, notV, negV, convV, faddrV, fldV, idxV, eqaggV, iaddrV, isnilV, nilckV, cloV, extrV, slenV, minV, sidxV, abin, cmpInt, params, growLists, fillCells, newAt, rdPtr, wrPtr, AV.cells, asVal, lenOf, boundOf, rowsOf, argIds, freshIn, scalar1, setAll, AV.isData, AV.isYld, Nat.reduceAdd, Nat.reduceMul, Nat.reduceSub, Nat.reduceEqDiff, Nat.reduceLeDiff, Nat.reduceLT, Int.reduceNeg, ↓reduceIte, reduceCtorEq, Int.reduceEq, Int.reduceLT, Int.reduceLE, Int.reduceBEq, Int.reduceBNe, Int.reduceToNat, IntKind.bits, Int.reduceAdd, Int.reduceSub, Int.reduceMul, Int.reduceTDiv, Int.reduceTMod, DB, DB2, DB3, f1, f2, f3, f4, f5, f6, g, g', e_ref05_Right, h2, e21, h3, e_ref05_Compare, h5, bne_self_eq_false]
                  rw [ih (k + 1) (by omega)]
                  simp only [DFrom.next (show DOk l k from ⟨h2, h3, fun _ => by omega⟩)]
                · simp only [RB, pickV, eqbV, notV, negV, convV, faddrV, fldV, idxV, eqaggV, iaddrV, isnilV, nilckV, cloV, extrV, slenV, minV, sidxV, abin, cmpInt, params, growLists, fillCells, newAt, rdPtr, wrPtr, AV.cells, asVal, lenOf, boundOf, rowsOf, argIds, freshIn, scalar1, setAll, AV.isData, AV.isYld, Nat.reduceAdd, Nat.reduceMul, Nat.reduceSub, Nat.reduceEqDiff, Nat.reduceLeDiff, Nat.reduceLT, Int.reduceNeg, ↓reduceIte, reduceCtorEq, Int.reduceEq, Int.reduceLT, Int.reduceLE, Int.reduceBEq, Int.reduceBNe, Int.reduceToNat, IntKind.bits, Int.reduceAdd, Int.reduceSub, Int.reduceMul, Int.reduceTDiv, Int.reduceTMod, DB, DB2, DB3, f1, f2, f3, f4, f5, g, g', e_ref05_Right, h2, e21, h3, e_ref05_Compare, bne_iff_ne.2 h5]
                  rw [decide_eq_false (DFrom.not hk fun h => by have := h.2.2 h4; omega)]
              · have f4 : ¬ (0 : Int) < (k : Int) := by omega
                simp only [RB, pickV, eqbV, notV, negV, convV, faddrV, fldV, idxV, eqaggV, iaddrV, isnilV, nilckV, cloV, extrV, slenV, minV, sidxV, abin, cmpInt, params, growLists, fillCells, newAt, rdPtr, wrPtr, AV.cells, asVal, lenOf, boundOf, rowsOf, argIds, freshIn, scalar1, setAll, AV.isData, AV.isYld, Nat.reduceAdd, Nat.reduceMul, Nat.reduceSub, Nat.reduceEqDiff, Nat.reduceLeDiff, Nat.reduceLT, Int.reduceNeg, ↓reduceIte, reduceCtorEq, Int.reduceEq, Int.reduceLT, Int.reduceLE, Int.reduceBEq, Int.reduceBNe, Int.reduceToNat, IntKind.bits, Int.reduceAdd, Int.reduceSub, Int.reduceMul, Int.reduceTDiv, Int.reduceTMod, DB, DB2, DB3, f1, f2, f4, f6, g, e_ref05_Right, h2, e21, h3]
                rw [ih (k + 1) (by omega)]
                simp only [DFrom.next (show DOk l k from ⟨h2, h3, fun h => absurd h h4⟩)]
            · simp only [RB, pickV, eqbV, notV, negV, convV, faddrV, fldV, idxV, eqaggV, iaddrV, isnilV, nilckV, cloV, extrV, slenV, minV, sidxV, abin, cmpInt, params, growLists, fillCells, newAt, rdPtr, wrPtr, AV.cells, asVal, lenOf, boundOf, rowsOf, argIds, freshIn, scalar1, setAll, AV.isData, AV.isYld, Nat.reduceAdd, Nat.reduceMul, Nat.reduceSub, Nat.reduceEqDiff, Nat.reduceLeDiff, Nat.reduceLT, Int.reduceNeg, ↓reduceIte, reduceCtorEq, Int.reduceEq, Int.reduceLT, Int.reduceLE, Int.reduceBEq, Int.reduceBNe, Int.reduceToNat, IntKind.bits, Int.reduceAdd, Int.reduceSub, Int.reduceMul, Int.reduceTDiv, Int.reduceTMod, DB, DB2, DB3, f1, f2, g, e_ref05_Right, h2, e21, h3]
              rw [decide_eq_false (DFrom.not hk fun h => h3 h.2.1)]
          · simp only [RB, pickV, eqbV, notV, negV, convV, faddrV, fldV, idxV, eqaggV, iaddrV, isnilV, nilckV, cloV, extrV, slenV, minV, sidxV, abin, cmpInt, params, growLists, fillCells, newAt, rdPtr, wrPtr, AV.cells, asVal, lenOf, boundOf, rowsOf, argIds, freshIn, scalar1, setAll, AV.isData, AV.isYld, Nat.reduceAdd, Nat.reduceMul, Nat.reduceSub, Nat.reduceEqDiff, Nat.reduceLeDiff, Nat.reduceLT, Int.reduceNeg, ↓reduceIte, reduceCtorEq, Int.reduceEq, Int.reduceLT, Int.reduceLE, Int.reduceBEq, Int.reduceBNe, Int.reduceToNat, IntKind.bits, Int.reduceAdd, Int.reduceSub, Int.reduceMul, Int.reduceTDiv, Int.reduceTMod, DB, DB2, DB3, f1, f2, g, e_ref05_Right, h2]
            rw [decide_eq_false (DFrom.not hk fun h => h2 h.1)]
        · simp only [RB, pickV, eqbV, notV, negV, convV, faddrV, fldV, idxV, eqaggV, iaddrV, isnilV, nilckV, cloV, extrV, slenV, minV, sidxV, abin, cmpInt, params, growLists, fillCells, newAt, rdPtr, wrPtr, AV.cells, asVal, lenOf, boundOf, rowsOf, argIds, freshIn, scalar1, setAll, AV.isData, AV.isYld, Nat.reduceAdd, Nat.reduceMul, Nat.reduceSub, Nat.reduceEqDiff, Nat.reduceLeDiff, Nat.reduceLT, Int.reduceNeg, ↓reduceIte, reduceCtorEq, Int.reduceEq, Int.reduceLT, Int.reduceLE, Int.reduceBEq, Int.reduceBNe, Int.reduceToNat, IntKind.bits, Int.reduceAdd, Int.reduceSub, Int.reduceMul, Int.reduceTDiv, Int.reduceTMod, DB, DB2, DB3, show ¬ (k : Int) < (l.length : Int) by omega]
          rw [decide_eq_true (DFrom.done (by omega))]
      · congr 2
    · simp only [RB, pickV, eqbV, notV, negV, convV, faddrV, fldV, idxV, eqaggV, iaddrV, isnilV, nilckV, cloV, extrV, slenV, minV, sidxV, abin, cmpInt, params, growLists, fillCells, newAt, rdPtr, wrPtr, AV.cells, asVal, lenOf, boundOf, rowsOf, argIds, freshIn, scalar1, setAll, AV.isData, AV.isYld, Nat.reduceAdd, Nat.reduceMul, Nat.reduceSub, Nat.reduceEqDiff, Nat.reduceLeDiff, Nat.reduceLT, Int.reduceNeg, ↓reduceIte, reduceCtorEq, Int.reduceEq, Int.reduceLT, Int.reduceLE, Int.reduceBEq, Int.reduceBNe, Int.reduceToNat, IntKind.bits, Int.reduceAdd, Int.reduceSub, Int.reduceMul, Int.reduceTDiv, Int.reduceTMod, DB, DB2, DB3, h40, e21, hn]
      rw [decide_eq_false fun h => hn h.1.2]
end Go.Proofs.YtdllnneeopbmdaaDoor.F

/- Tallies: which are the same; which are a table's. No condition. -/
set_option linter.unusedSimpArgs false
namespace Go.Proofs.YtdllnneeopbmdaaDoor.D
open Go Go.Proofs.YtdllnneeopbmdaaDoor.A
def AllF (Q : Nat → Prop) (n k : Nat) : Prop := ∀ i, k ≤ i → i < n → Q i
noncomputable instance {Q : Nat → Prop} {n k : Nat} : Decidable (AllF Q n k) := Classical.propDecidable _
theorem AllF.next {Q : Nat → Prop} {n k : Nat} (h : Q k) : AllF Q n k ↔ AllF Q n (k + 1) := by
  constructor
  · exact fun H i h1 h2 => H i (by omega) h2
  · intro H i h1 h2
    rcases Nat.lt_or_eq_of_le h1 with h3 | rfl
    · exact H i h3 h2
    · exact h
theorem AllF.not {Q : Nat → Prop} {n k : Nat} (hk : k < n) (h : ¬ Q k) : ¬ AllF Q n k := fun H => h (H k (Nat.le_refl _) hk)
theorem AllF.done {Q : Nat → Prop} {n k : Nat} (h : n ≤ k) : AllF Q n k := fun i h1 h2 => by omega
theorem dsame_iff {a b : List Cd} (h : a.length = b.length) : AllF (fun i => dow a i = dow b i) a.length 0 ↔ a = b := by
  constructor
  · intro H
    refine List.ext_getElem? fun i => ?_
    by_cases hi : i < a.length
    · rw [dow_some a hi, dow_some b (by omega), H i (Nat.zero_le _) hi]
    · rw [List.getElem?_eq_none (by omega), List.getElem?_eq_none (by omega)]
  · rintro rfl i _ _; rfl
theorem of_iff {a : List Cd} {b : List Rw} (h : a.length = b.length) : AllF (fun i => (dow a i).p = (row b i).p) a.length 0 ↔ a.map Cd.p = b.map Rw.p := by
  constructor
  · intro H
    refine List.ext_getElem? fun i => ?_
    rw [List.getElem?_map, List.getElem?_map]
    by_cases hi : i < a.length
    · rw [dow_some a hi, row_some b (by omega)]
      simp [H i (Nat.zero_le _) hi]
    · rw [List.getElem?_eq_none (by omega), List.getElem?_eq_none (by omega)]; rfl
  · intro H i _ hi
    have := congrArg (·[i]?) H
    simp only [List.getElem?_map, dow_some a hi, row_some b (show i < b.length by omega)] at this
    simpa using this
end Go.Proofs.YtdllnneeopbmdaaDoor.D
namespace Go.Proofs.YtdllnneeopbmdaaDoor.F
open Go Go.Proofs.YtdllnneeopbmdaaDoor.A Go.Proofs.YtdllnneeopbmdaaDoor.D
theorem e36 (a b : List Cd) (ha : a.length ≤ 4611686018427387904) : LV E 36 [.ro (drows a), .ro (drows b)] = some (.bool (decide (a = b))) := by
  rw [LV_R (fn := f36) rfl rfl rfl]
  simp only [f36, RB, pickV, eqbV, notV, negV, convV, faddrV, fldV, idxV, eqaggV, iaddrV, isnilV, nilckV, cloV, extrV, slenV, minV, sidxV, abin, cmpInt, params, growLists, fillCells, newAt, rdPtr, wrPtr, AV.cells, asVal, lenOf, boundOf, rowsOf, argIds, freshIn, scalar1, setAll, AV.isData, AV.isYld, Nat.reduceAdd, Nat.reduceMul, Nat.reduceSub, Nat.reduceEqDiff, Nat.reduceLeDiff, Nat.reduceLT, Int.reduceNeg, ↓reduceIte, reduceCtorEq, Int.reduceEq, Int.reduceLT, Int.reduceLE, Int.reduceBEq, Int.reduceBNe, Int.reduceToNat, IntKind.bits, Int.reduceAdd, Int.reduceSub, Int.reduceMul, Int.reduceTDiv, Int.reduceTMod, DB, DB2, DB3]
  by_cases hl : a.length = b.length
  · simp only [RB, pickV, eqbV, notV, negV, convV, faddrV, fldV, idxV, eqaggV, iaddrV, isnilV, nilckV, cloV, extrV, slenV, minV, sidxV, abin, cmpInt, params, growLists, fillCells, newAt, rdPtr, wrPtr, AV.cells, asVal, lenOf, boundOf, rowsOf, argIds, freshIn, scalar1, setAll, AV.isData, AV.isYld, Nat.reduceAdd, Nat.reduceMul, Nat.reduceSub, Nat.reduceEqDiff, Nat.reduceLeDiff, Nat.reduceLT, Int.reduceNeg, ↓reduceIte, reduceCtorEq, Int.reduceEq, Int.reduceLT, Int.reduceLE, Int.reduceBEq, Int.reduceBNe, Int.reduceToNat, IntKind.bits, Int.reduceAdd, Int.reduceSub, Int.reduceMul, Int.reduceTDiv, Int.reduceTMod, DB, DB2, DB3, hl, bne_self_eq_false]
    refine (W_rec (β := AV) (ι := Nat) (M := fun k => [(0, .ro (drows a)), (1, .ro (drows b)), (5, .int .i64 (k : Int))]) (H := fun _ => ⟨[], []⟩) (r := fun k => some (AV.bool (decide (AllF (fun i => dow a i = dow b i) a.length k)))) (μ := fun k => a.length - k) (fun i => ?_) (fun k ih => ?_) 0).trans ?_
    · simp [LPB]
    · by_cases hk : k < a.length
      · have f1 : (k : Int) < (a.length : Int) := by omega
        have f2 : (0 : Int) ≤ (k : Int) := by omega
        have f6 : IntKind.i64.wrap ((k : Int) + 1) = ((k + 1 : Nat) : Int) := by rw [IntWalk.i64_in _ (by omega)] <;> omega
        have g1 := drows_get a hk
        have g2 := drows_get b (show k < b.length by omega)
        by_cases h : dow a k = dow b k
        · simp only [RB, pickV, eqbV, notV, negV, convV, faddrV, fldV, idxV, eqaggV, iaddrV, isnilV, nilckV, cloV, extrV, slenV, minV, sidxV, abin, cmpInt, params, growLists, fillCells, newAt, rdPtr, wrPtr, AV.cells, asVal, lenOf, boundOf, rowsOf, argIds, freshIn, scalar1, setAll, AV.isData, AV.isYld, Nat.reduceAdd, Nat.reduceMul, Nat.reduceSub, Nat.reduceEqDiff, Nat.reduceLeDiff, Nat.reduceLT, Int.reduceNeg, ↓reduceIte, reduceCtorEq, Int.reduceEq, Int.reduceLT, Int.reduceLE, Int.reduceBEq, Int.reduceBNe, Int.reduceToNat, IntKind.bits, Int.reduceAdd, Int.reduceSub, Int.reduceMul, Int.reduceTDiv, Int.reduceTMod, DB, DB2, DB3, f1, f2, f6, g1, g2, h]
          rw [ih (k + 1) (by omega)]
          simp only [AllF.next (Q := fun i => dow a i = dow b i) h]
        · simp only [RB, pickV, eqbV, notV, negV, convV, faddrV, fldV, idxV, eqaggV, iaddrV, isnilV, nilckV, cloV, extrV, slenV, minV, sidxV, abin, cmpInt, params, growLists, fillCells, newAt, rdPtr, wrPtr, AV.cells, asVal, lenOf, boundOf, rowsOf, argIds, freshIn, scalar1, setAll, AV.isData, AV.isYld, Nat.reduceAdd, Nat.reduceMul, Nat.reduceSub, Nat.reduceEqDiff, Nat.reduceLeDiff, Nat.reduceLT, Int.reduceNeg, ↓reduceIte, reduceCtorEq, Int.reduceEq, Int.reduceLT, Int.reduceLE, Int.reduceBEq, Int.reduceBNe, Int.reduceToNat, IntKind.bits, Int.reduceAdd, Int.reduceSub, Int.reduceMul, Int.reduceTDiv, Int.reduceTMod, DB, DB2, DB3, f1, f2, f6, g1, g2, h]
          rw [decide_eq_false (AllF.not hk h)]
      · simp only [RB, pickV, eqbV, notV, negV, convV, faddrV, fldV, idxV, eqaggV, iaddrV, isnilV, nilckV, cloV, extrV, slenV, minV, sidxV, abin, cmpInt, params, growLists, fillCells, newAt, rdPtr, wrPtr, AV.cells, asVal, lenOf, boundOf, rowsOf, argIds, freshIn, scalar1, setAll, AV.isData, AV.isYld, Nat.reduceAdd, Nat.reduceMul, Nat.reduceSub, Nat.reduceEqDiff, Nat.reduceLeDiff, Nat.reduceLT, Int.reduceNeg, ↓reduceIte, reduceCtorEq, Int.reduceEq, Int.reduceLT, Int.reduceLE, Int.reduceBEq, Int.reduceBNe, Int.reduceToNat, IntKind.bits, Int.reduceAdd, Int.reduceSub, Int.reduceMul, Int.reduceTDiv, Int.reduceTMod, DB, DB2, DB3, show ¬ (k : Int) < (a.length : Int) by omega]
        rw [decide_eq_true (AllF.done (by omega))]
    · congr 2; exact decide_eq_decide.2 (dsame_iff hl)
  · simp only [RB, pickV, eqbV, notV, negV, convV, faddrV, fldV, idxV, eqaggV, iaddrV, isnilV, nilckV, cloV, extrV, slenV, minV, sidxV, abin, cmpInt, params, growLists, fillCells, newAt, rdPtr, wrPtr, AV.cells, asVal, lenOf, boundOf, rowsOf, argIds, freshIn, scalar1, setAll, AV.isData, AV.isYld, Nat.reduceAdd, Nat.reduceMul, Nat.reduceSub, Nat.reduceEqDiff, Nat.reduceLeDiff, Nat.reduceLT, Int.reduceNeg, ↓reduceIte, reduceCtorEq, Int.reduceEq, Int.reduceLT, Int.reduceLE, Int.reduceBEq, Int.reduceBNe, Int.reduceToNat, IntKind.bits, Int.reduceAdd, Int.reduceSub, Int.reduceMul, Int.reduceTDiv, Int.reduceTMod, DB, DB2, DB3, show ((a.length : Int) != (b.length : Int)) = true by rw [bne_iff_ne]; omega]
    rw [decide_eq_false fun h => hl (by rw [h])]
theorem e16 (a b : List Cd) (c d : Cnt) (ha : a.length ≤ 4611686018427387904) : LV E 16 [.agg (.ro (drows a) :: nav c), .agg (.ro (drows b) :: nav d)] = some (.bool (decide (c = d ∧ a = b))) := by
  rw [LV_R (fn := f16) rfl rfl rfl]
  simp only [f16, RB, pickV, eqbV, notV, negV, convV, faddrV, fldV, idxV, eqaggV, iaddrV, isnilV, nilckV, cloV, extrV, slenV, minV, sidxV, abin, cmpInt, params, growLists, fillCells, newAt, rdPtr, wrPtr, AV.cells, asVal, lenOf, boundOf, rowsOf, argIds, freshIn, scalar1, setAll, AV.isData, AV.isYld, Nat.reduceAdd, Nat.reduceMul, Nat.reduceSub, Nat.reduceEqDiff, Nat.reduceLeDiff, Nat.reduceLT, Int.reduceNeg, ↓reduceIte, reduceCtorEq, Int.reduceEq, Int.reduceLT, Int.reduceLE, Int.reduceBEq, Int.reduceBNe, Int.reduceToNat, IntKind.bits, Int.reduceAdd, Int.reduceSub, Int.reduceMul, Int.reduceTDiv, Int.reduceTMod, DB, DB2, DB3]
  by_cases h : c = d
  · simp only [RB, pickV, eqbV, notV, negV, convV, faddrV, fldV, idxV, eqaggV, iaddrV, isnilV, nilckV, cloV, extrV, slenV, minV, sidxV, abin, cmpInt, params, growLists, fillCells, newAt, rdPtr, wrPtr, AV.cells, asVal, lenOf, boundOf, rowsOf, argIds, freshIn, scalar1, setAll, AV.isData, AV.isYld, Nat.reduceAdd, Nat.reduceMul, Nat.reduceSub, Nat.reduceEqDiff, Nat.reduceLeDiff, Nat.reduceLT, Int.reduceNeg, ↓reduceIte, reduceCtorEq, Int.reduceEq, Int.reduceLT, Int.reduceLE, Int.reduceBEq, Int.reduceBNe, Int.reduceToNat, IntKind.bits, Int.reduceAdd, Int.reduceSub, Int.reduceMul, Int.reduceTDiv, Int.reduceTMod, DB, DB2, DB3, h, e36 a b ha]
  · simp only [RB, pickV, eqbV, notV, negV, convV, faddrV, fldV, idxV, eqaggV, iaddrV, isnilV, nilckV, cloV, extrV, slenV, minV, sidxV, abin, cmpInt, params, growLists, fillCells, newAt, rdPtr, wrPtr, AV.cells, asVal, lenOf, boundOf, rowsOf, argIds, freshIn, scalar1, setAll, AV.isData, AV.isYld, Nat.reduceAdd, Nat.reduceMul, Nat.reduceSub, Nat.reduceEqDiff, Nat.reduceLeDiff, Nat.reduceLT, Int.reduceNeg, ↓reduceIte, reduceCtorEq, Int.reduceEq, Int.reduceLT, Int.reduceLE, Int.reduceBEq, Int.reduceBNe, Int.reduceToNat, IntKind.bits, Int.reduceAdd, Int.reduceSub, Int.reduceMul, Int.reduceTDiv, Int.reduceTMod, DB, DB2, DB3, h]
theorem e80 (a : List Cd) (c : Cnt) (b : List Rw) (ha : a.length ≤ 4611686018427387904) : LV E 80 [.agg (.ro (drows a) :: nav c), .agg [.ro (rrows b)]] = some (.bool (decide (a.map Cd.p = b.map Rw.p))) := by
  rw [LV_R (fn := f80) rfl rfl rfl]
  simp only [f80, RB, pickV, eqbV, notV, negV, convV, faddrV, fldV, idxV, eqaggV, iaddrV, isnilV, nilckV, cloV, extrV, slenV, minV, sidxV, abin, cmpInt, params, growLists, fillCells, newAt, rdPtr, wrPtr, AV.cells, asVal, lenOf, boundOf, rowsOf, argIds, freshIn, scalar1, setAll, AV.isData, AV.isYld, Nat.reduceAdd, Nat.reduceMul, Nat.reduceSub, Nat.reduceEqDiff, Nat.reduceLeDiff, Nat.reduceLT, Int.reduceNeg, ↓reduceIte, reduceCtorEq, Int.reduceEq, Int.reduceLT, Int.reduceLE, Int.reduceBEq, Int.reduceBNe, Int.reduceToNat, IntKind.bits, Int.reduceAdd, Int.reduceSub, Int.reduceMul, Int.reduceTDiv, Int.reduceTMod, DB, DB2, DB3]
  by_cases hl : a.length = b.length
  · simp only [RB, pickV, eqbV, notV, negV, convV, faddrV, fldV, idxV, eqaggV, iaddrV, isnilV, nilckV, cloV, extrV, slenV, minV, sidxV, abin, cmpInt, params, growLists, fillCells, newAt, rdPtr, wrPtr, AV.cells, asVal, lenOf, boundOf, rowsOf, argIds, freshIn, scalar1, setAll, AV.isData, AV.isYld, Nat.reduceAdd, Nat.reduceMul, Nat.reduceSub, Nat.reduceEqDiff, Nat.reduceLeDiff, Nat.reduceLT, Int.reduceNeg, ↓reduceIte, reduceCtorEq, Int.reduceEq, Int.reduceLT, Int.reduceLE, Int.reduceBEq, Int.reduceBNe, Int.reduceToNat, IntKind.bits, Int.reduceAdd, Int.reduceSub, Int.reduceMul, Int.reduceTDiv, Int.reduceTMod, DB, DB2, DB3, hl, bne_self_eq_false]
    refine (W_rec (β := AV) (ι := Nat) (M := fun k => [(2, .ptr 0 0 0 0), (3, .ptr 1 0 0 0), (5, .int .i64 (k : Int))]) (H := fun _ => ⟨[.box 0 27 (.ro (drows a) :: nav c), .box 0 30 [.ro (rrows b)]], []⟩) (r := fun k => some (AV.bool (decide (AllF (fun i => (dow a i).p = (row b i).p) a.length k)))) (μ := fun k => a.length - k) (fun i => ?_) (fun k ih => ?_) 0).trans ?_
    · simp [LPB, nav_below]
    · by_cases hk : k < a.length
      · have f1 : (k : Int) < (a.length : Int) := by omega
        have f2 : (0 : Int) ≤ (k : Int) := by omega
        have f6 : IntKind.i64.wrap ((k : Int) + 1) = ((k + 1 : Nat) : Int) := by rw [IntWalk.i64_in _ (by omega)] <;> omega
        have g1 := drows_get a hk
        have g2 := rrows_get b (show k < b.length by omega)
        by_cases h : (dow a k).p = (row b k).p
        · simp only [RB, pickV, eqbV, notV, negV, convV, faddrV, fldV, idxV, eqaggV, iaddrV, isnilV, nilckV, cloV, extrV, slenV, minV, sidxV, abin, cmpInt, params, growLists, fillCells, newAt, rdPtr, wrPtr, AV.cells, asVal, lenOf, boundOf, rowsOf, argIds, freshIn, scalar1, setAll, AV.isData, AV.isYld, Nat.reduceAdd, Nat.reduceMul, Nat.reduceSub, Nat.reduceEqDiff, Nat.reduceLeDiff, Nat.reduceLT, Int.reduceNeg, ↓reduceIte, reduceCtorEq, Int.reduceEq, Int.reduceLT, Int.reduceLE, Int.reduceBEq, Int.reduceBNe, Int.reduceToNat, IntKind.bits, Int.reduceAdd, Int.reduceSub, Int.reduceMul, Int.reduceTDiv, Int.reduceTMod, DB, DB2, DB3, f1, f2, f6, g1, g2, h]
          rw [ih (k + 1) (by omega)]
          simp only [AllF.next (Q := fun i => (dow a i).p = (row b i).p) h]
        · simp only [RB, pickV, eqbV, notV, negV, convV, faddrV, fldV, idxV, eqaggV, iaddrV, isnilV, nilckV, cloV, extrV, slenV, minV, sidxV, abin, cmpInt, params, growLists, fillCells, newAt, rdPtr, wrPtr, AV.cells, asVal, lenOf, boundOf, rowsOf, argIds, freshIn, scalar1, setAll, AV.isData, AV.isYld, Nat.reduceAdd, Nat.reduceMul, Nat.reduceSub, Nat.reduceEqDiff, Nat.reduceLeDiff, Nat.reduceLT, Int.reduceNeg, ↓reduceIte, reduceCtorEq, Int.reduceEq, Int.reduceLT, Int.reduceLE, Int.reduceBEq, Int.reduceBNe, Int.reduceToNat, IntKind.bits, Int.reduceAdd, Int.reduceSub, Int.reduceMul, Int.reduceTDiv, Int.reduceTMod, DB, DB2, DB3, f1, f2, f6, g1, g2, h]
          rw [decide_eq_false (AllF.not hk h)]
      · simp only [RB, pickV, eqbV, notV, negV, convV, faddrV, fldV, idxV, eqaggV, iaddrV, isnilV, nilckV, cloV, extrV, slenV, minV, sidxV, abin, cmpInt, params, growLists, fillCells, newAt, rdPtr, wrPtr, AV.cells, asVal, lenOf, boundOf, rowsOf, argIds, freshIn, scalar1, setAll, AV.isData, AV.isYld, Nat.reduceAdd, Nat.reduceMul, Nat.reduceSub, Nat.reduceEqDiff, Nat.reduceLeDiff, Nat.reduceLT, Int.reduceNeg, ↓reduceIte, reduceCtorEq, Int.reduceEq, Int.reduceLT, Int.reduceLE, Int.reduceBEq, Int.reduceBNe, Int.reduceToNat, IntKind.bits, Int.reduceAdd, Int.reduceSub, Int.reduceMul, Int.reduceTDiv, Int.reduceTMod, DB, DB2, DB3, show ¬ (k : Int) < (a.length : Int) by omega]
        rw [decide_eq_true (AllF.done (by omega))]
    · congr 2; exact decide_eq_decide.2 (of_iff hl)
  · simp only [RB, pickV, eqbV, notV, negV, convV, faddrV, fldV, idxV, eqaggV, iaddrV, isnilV, nilckV, cloV, extrV, slenV, minV, sidxV, abin, cmpInt, params, growLists, fillCells, newAt, rdPtr, wrPtr, AV.cells, asVal, lenOf, boundOf, rowsOf, argIds, freshIn, scalar1, setAll, AV.isData, AV.isYld, Nat.reduceAdd, Nat.reduceMul, Nat.reduceSub, Nat.reduceEqDiff, Nat.reduceLeDiff, Nat.reduceLT, Int.reduceNeg, ↓reduceIte, reduceCtorEq, Int.reduceEq, Int.reduceLT, Int.reduceLE, Int.reduceBEq, Int.reduceBNe, Int.reduceToNat, IntKind.bits, Int.reduceAdd, Int.reduceSub, Int.reduceMul, Int.reduceTDiv, Int.reduceTMod, DB, DB2, DB3, show ((a.length : Int) != (b.length : Int)) = true by rw [bne_iff_ne]; omega]
    rw [decide_eq_false fun h => hl (by simpa using congrArg List.length h)]
end Go.Proofs.YtdllnneeopbmdaaDoor.F

/- Tallies: a table's; rows made of others. No condition. -/
set_option linter.unusedSimpArgs false
namespace Go.Proofs.YtdllnneeopbmdaaDoor.F
open Go Go.Proofs.YtdllnneeopbmdaaDoor.A Go.Proofs.YtdllnneeopbmdaaDoor.D
theorem r98 {ys : List Hd} {pend : List (Option AExit)} (bs : List Blk) (r : Cd) (x : Rw) : ∃ e, LR E ys 98 [.agg (dav r), .agg (rav x)] ⟨bs, pend⟩ = some (.bool (decide (r.p = x.p)), ⟨bs ++ e, pend⟩) := by
  refine ⟨[.box 0 60 (dav r), .box 0 85 (rav x)], ?_⟩
  rw [LR_R (fn := f98) rfl rfl rfl]
  simp only [f98, RB, pickV, eqbV, notV, negV, convV, faddrV, fldV, idxV, eqaggV, iaddrV, isnilV, nilckV, cloV, extrV, slenV, minV, sidxV, abin, cmpInt, params, growLists, fillCells, newAt, rdPtr, wrPtr, AV.cells, asVal, lenOf, boundOf, rowsOf, argIds, freshIn, scalar1, setAll, AV.isData, AV.isYld, Nat.reduceAdd, Nat.reduceMul, Nat.reduceSub, Nat.reduceEqDiff, Nat.reduceLeDiff, Nat.reduceLT, Int.reduceNeg, ↓reduceIte, reduceCtorEq, Int.reduceEq, Int.reduceLT, Int.reduceLE, Int.reduceBEq, Int.reduceBNe, Int.reduceToNat, IntKind.bits, Int.reduceAdd, Int.reduceSub, Int.reduceMul, Int.reduceTDiv, Int.reduceTMod, DB, DB2, DB3, R7B]
theorem r97 {ys : List Hd} {bs : List Blk} {pend : List (Option AExit)} {a : List Cd} {b : List Rw} (ha : a.length ≤ 4611686018427387904) (hlow : belowAll bs.length bs = true) :
    ∃ e, LR E ys 97 [.ro (drows a), .ro (rrows b), .clo 98 []] ⟨bs, pend⟩ = some (.bool (decide (a.map Cd.p = b.map Rw.p)), ⟨bs ++ e, pend⟩) := by
  rw [LR_R (fn := f97) rfl rfl rfl]
  simp only [f97, ← nav_zer, ← dav_zer, ← rav_zer, RB, pickV, eqbV, notV, negV, convV, faddrV, fldV, idxV, eqaggV, iaddrV, isnilV, nilckV, cloV, extrV, slenV, minV, sidxV, abin, cmpInt, params, growLists, fillCells, newAt, rdPtr, wrPtr, AV.cells, asVal, lenOf, boundOf, rowsOf, argIds, freshIn, scalar1, setAll, AV.isData, AV.isYld, Nat.reduceAdd, Nat.reduceMul, Nat.reduceSub, Nat.reduceEqDiff, Nat.reduceLeDiff, Nat.reduceLT, Int.reduceNeg, ↓reduceIte, reduceCtorEq, Int.reduceEq, Int.reduceLT, Int.reduceLE, Int.reduceBEq, Int.reduceBNe, Int.reduceToNat, IntKind.bits, Int.reduceAdd, Int.reduceSub, Int.reduceMul, Int.reduceTDiv, Int.reduceTMod, DB, DB2, DB3]
  by_cases hl : a.length = b.length
  · simp only [RB, pickV, eqbV, notV, negV, convV, faddrV, fldV, idxV, eqaggV, iaddrV, isnilV, nilckV, cloV, extrV, slenV, minV, sidxV, abin, cmpInt, params, growLists, fillCells, newAt, rdPtr, wrPtr, AV.cells, asVal, lenOf, boundOf, rowsOf, argIds, freshIn, scalar1, setAll, AV.isData, AV.isYld, Nat.reduceAdd, Nat.reduceMul, Nat.reduceSub, Nat.reduceEqDiff, Nat.reduceLeDiff, Nat.reduceLT, Int.reduceNeg, ↓reduceIte, reduceCtorEq, Int.reduceEq, Int.reduceLT, Int.reduceLE, Int.reduceBEq, Int.reduceBNe, Int.reduceToNat, IntKind.bits, Int.reduceAdd, Int.reduceSub, Int.reduceMul, Int.reduceTDiv, Int.reduceTMod, DB, DB2, DB3, hl, bne_self_eq_false]
    have hq : decide (a.map Cd.p = b.map Rw.p) = decide (AllF (fun i => (dow a i).p = (row b i).p) a.length 0) := decide_eq_decide.2 (of_iff hl).symm
    rw [hq]
    refine W_recP2 (ι := Nat) (M := fun k => [(1, .ro (rrows b)), (2, .clo 98 []), (15, .ro (drows a)), (16, .int .i64 (b.length : Int)), (17, .int .i64 (k : Int))]) (H := fun _ => ⟨bs, pend⟩) (Q := fun k x => ∃ e, x = some ((AV.bool (decide (AllF (fun i => (dow a i).p = (row b i).p) a.length k)), ⟨bs ++ e, pend⟩) : AV × Hp)) (μ := fun k => a.length - k) (fun i => ?_) (fun k ih => ?_) 0 rfl rfl
    · exact ⟨by simp only [List.map_cons, List.map_nil, LPB, Bool.and_self], hlow⟩
    · by_cases hk : k < a.length
      · have f1 : (k : Int) < (b.length : Int) := by omega
        have f2 : (0 : Int) ≤ (k : Int) := by omega
        have f6 : IntKind.i64.wrap ((k : Int) + 1) = ((k + 1 : Nat) : Int) := by rw [IntWalk.i64_in _ (by omega)] <;> omega
        have g1 := drows_get a hk
        have g2 := rrows_get b (show k < b.length by omega)
        obtain ⟨ext, hpr⟩ := r98 (ys := ys) (pend := pend) (bs ++ [.box 0 60 (dav (dow a k)), .box 0 85 (rav (row b k))]) (dow a k) (row b k)
        have hsh : shrink false (bs.length + 2) (.bool (decide ((dow a k).p = (row b k).p))) ⟨(bs ++ [.box 0 60 (dav (dow a k)), .box 0 85 (rav (row b k))]) ++ ext, pend⟩ = some ⟨bs ++ [.box 0 60 (dav (dow a k)), .box 0 85 (rav (row b k))], pend⟩ := shrink_app (by simp) rfl (by rw [ball_app, belowAll_mono (by omega) hlow]; simp [LPB, dav_below])
        simp only [List.append_assoc, List.cons_append, List.nil_append] at hpr hsh
        by_cases h : (dow a k).p = (row b k).p
        · simp only [h, decide_true] at hpr hsh
          simp only [RB, pickV, eqbV, notV, negV, convV, faddrV, fldV, idxV, eqaggV, iaddrV, isnilV, nilckV, cloV, extrV, slenV, minV, sidxV, abin, cmpInt, params, growLists, fillCells, newAt, rdPtr, wrPtr, AV.cells, asVal, lenOf, boundOf, rowsOf, argIds, freshIn, scalar1, setAll, AV.isData, AV.isYld, Nat.reduceAdd, Nat.reduceMul, Nat.reduceSub, Nat.reduceEqDiff, Nat.reduceLeDiff, Nat.reduceLT, Int.reduceNeg, ↓reduceIte, reduceCtorEq, Int.reduceEq, Int.reduceLT, Int.reduceLE, Int.reduceBEq, Int.reduceBNe, Int.reduceToNat, IntKind.bits, Int.reduceAdd, Int.reduceSub, Int.reduceMul, Int.reduceTDiv, Int.reduceTMod, DB, DB2, DB3, R7B, take_add, List.append_assoc, List.length_append, Nat.add_assoc, shrink_lit, ball_app, RG, LPB, f1, f2, f6, g1, g2, hpr, hsh, take_at, List.take_left]
          simp only [AllF.next (Q := fun i => (dow a i).p = (row b i).p) h]
          exact ih (k + 1) (by omega)
        · simp only [h, decide_false] at hpr hsh
          simp only [RB, pickV, eqbV, notV, negV, convV, faddrV, fldV, idxV, eqaggV, iaddrV, isnilV, nilckV, cloV, extrV, slenV, minV, sidxV, abin, cmpInt, params, growLists, fillCells, newAt, rdPtr, wrPtr, AV.cells, asVal, lenOf, boundOf, rowsOf, argIds, freshIn, scalar1, setAll, AV.isData, AV.isYld, Nat.reduceAdd, Nat.reduceMul, Nat.reduceSub, Nat.reduceEqDiff, Nat.reduceLeDiff, Nat.reduceLT, Int.reduceNeg, ↓reduceIte, reduceCtorEq, Int.reduceEq, Int.reduceLT, Int.reduceLE, Int.reduceBEq, Int.reduceBNe, Int.reduceToNat, IntKind.bits, Int.reduceAdd, Int.reduceSub, Int.reduceMul, Int.reduceTDiv, Int.reduceTMod, DB, DB2, DB3, R7B, take_add, List.append_assoc, List.length_append, Nat.add_assoc, shrink_lit, ball_app, RG, LPB, f1, f2, f6, g1, g2, hpr, hsh, List.take_left]
          rw [decide_eq_false (AllF.not hk h)]
          exact ⟨_, rfl⟩
      · simp only [RB, pickV, eqbV, notV, negV, convV, faddrV, fldV, idxV, eqaggV, iaddrV, isnilV, nilckV, cloV, extrV, slenV, minV, sidxV, abin, cmpInt, params, growLists, fillCells, newAt, rdPtr, wrPtr, AV.cells, asVal, lenOf, boundOf, rowsOf, argIds, freshIn, scalar1, setAll, AV.isData, AV.isYld, Nat.reduceAdd, Nat.reduceMul, Nat.reduceSub, Nat.reduceEqDiff, Nat.reduceLeDiff, Nat.reduceLT, Int.reduceNeg, ↓reduceIte, reduceCtorEq, Int.reduceEq, Int.reduceLT, Int.reduceLE, Int.reduceBEq, Int.reduceBNe, Int.reduceToNat, IntKind.bits, Int.reduceAdd, Int.reduceSub, Int.reduceMul, Int.reduceTDiv, Int.reduceTMod, DB, DB2, DB3, show ¬ (k : Int) < (b.length : Int) by omega, R7B]
        rw [decide_eq_true (AllF.done (by omega))]
        exact ⟨[], by rw [List.append_nil]⟩
  · simp only [RB, pickV, eqbV, notV, negV, convV, faddrV, fldV, idxV, eqaggV, iaddrV, isnilV, nilckV, cloV, extrV, slenV, minV, sidxV, abin, cmpInt, params, growLists, fillCells, newAt, rdPtr, wrPtr, AV.cells, asVal, lenOf, boundOf, rowsOf, argIds, freshIn, scalar1, setAll, AV.isData, AV.isYld, Nat.reduceAdd, Nat.reduceMul, Nat.reduceSub, Nat.reduceEqDiff, Nat.reduceLeDiff, Nat.reduceLT, Int.reduceNeg, ↓reduceIte, reduceCtorEq, Int.reduceEq, Int.reduceLT, Int.reduceLE, Int.reduceBEq, Int.reduceBNe, Int.reduceToNat, IntKind.bits, Int.reduceAdd, Int.reduceSub, Int.reduceMul, Int.reduceTDiv, Int.reduceTMod, DB, DB2, DB3, show ((a.length : Int) != (b.length : Int)) = true by rw [bne_iff_ne]; omega, R7B]
    rw [decide_eq_false fun h => hl (by simpa using congrArg List.length h)]
    exact ⟨[], by rw [List.append_nil]⟩
theorem e75 (a : List Cd) (c : Cnt) (b : List Rw) (ha : a.length ≤ 4611686018427387904) : LV E 75 [.agg (.ro (drows a) :: nav c), .agg [.ro (rrows b)]] = some (.bool (decide (a.map Cd.p = b.map Rw.p))) := by
  rw [LV_R (fn := f75) rfl rfl rfl]
  obtain ⟨e, h⟩ := r97 (ys := []) (pend := []) (bs := [.box 0 27 (.ro (drows a) :: nav c), .box 0 30 [.ro (rrows b)]]) (a := a) (b := b) ha (by simp [LPB, nav_below])
  simp only [List.cons_append, List.nil_append] at h
  simp only [f75, RB, pickV, eqbV, notV, negV, convV, faddrV, fldV, idxV, eqaggV, iaddrV, isnilV, nilckV, cloV, extrV, slenV, minV, sidxV, abin, cmpInt, params, growLists, fillCells, newAt, rdPtr, wrPtr, AV.cells, asVal, lenOf, boundOf, rowsOf, argIds, freshIn, scalar1, setAll, AV.isData, AV.isYld, Nat.reduceAdd, Nat.reduceMul, Nat.reduceSub, Nat.reduceEqDiff, Nat.reduceLeDiff, Nat.reduceLT, Int.reduceNeg, ↓reduceIte, reduceCtorEq, Int.reduceEq, Int.reduceLT, Int.reduceLE, Int.reduceBEq, Int.reduceBNe, Int.reduceToNat, IntKind.bits, Int.reduceAdd, Int.reduceSub, Int.reduceMul, Int.reduceTDiv, Int.reduceTMod, DB, DB2, DB3, R7B, take_add, List.append_assoc, List.length_append, Nat.add_assoc, shrink_lit, ball_app, RG, LPB, h, nav_below]
end Go.Proofs.YtdllnneeopbmdaaDoor.F

/- Tallies of nothing; a tally with a count more. No condition. -/
set_option linter.unusedSimpArgs false
namespace Go.Proofs.YtdllnneeopbmdaaDoor.D
open Go Go.Proofs.YtdllnneeopbmdaaDoor.A
theorem zerD_c : zerD.c = zerN := rfl
def zeroS (x : List Rw) : List Cd := x.map fun r => ⟨r.p, zerN⟩
theorem zeroS_len (x : List Rw) : (zeroS x).length = x.length := by simp [zeroS]
theorem zeroS_snoc (x : List Rw) {k : Nat} (h : k < x.length) : zeroS (x.take k) ++ [⟨(row x k).p, zerN⟩] = zeroS (x.take (k + 1)) := by
  rw [List.take_add_one, row_some x h]; simp [zeroS]
theorem zeroS_dow (x : List Rw) {k : Nat} (h : k < x.length) : dow (zeroS x) k = ⟨(row x k).p, zerN⟩ := by
  have := dow_some (zeroS x) (i := k) (by rw [zeroS_len]; exact h)
  rw [zeroS, List.getElem?_map, row_some x h] at this
  exact (Option.some.inj this).symm
end Go.Proofs.YtdllnneeopbmdaaDoor.D
namespace Go.Proofs.YtdllnneeopbmdaaDoor.F
open Go Go.Proofs.YtdllnneeopbmdaaDoor.A Go.Proofs.YtdllnneeopbmdaaDoor.D
theorem e17 (x : List Rw) (hx : x.length ≤ 1000000) : LV E 17 [.agg [.ro (rrows x)]] = some (.agg (.ro (drows (zeroS x)) :: nav zerN)) := by
  rw [LV_R (fn := f17) rfl rfl rfl]
  simp only [f17, ← nav_zer, ← dav_zer, RB, pickV, eqbV, notV, negV, convV, faddrV, fldV, idxV, eqaggV, iaddrV, isnilV, nilckV, cloV, extrV, slenV, minV, sidxV, abin, cmpInt, params, growLists, fillCells, newAt, rdPtr, wrPtr, AV.cells, asVal, lenOf, boundOf, rowsOf, argIds, freshIn, scalar1, setAll, AV.isData, AV.isYld, Nat.reduceAdd, Nat.reduceMul, Nat.reduceSub, Nat.reduceEqDiff, Nat.reduceLeDiff, Nat.reduceLT, Int.reduceNeg, ↓reduceIte, reduceCtorEq, Int.reduceEq, Int.reduceLT, Int.reduceLE, Int.reduceBEq, Int.reduceBNe, Int.reduceToNat, IntKind.bits, Int.reduceAdd, Int.reduceSub, Int.reduceMul, Int.reduceTDiv, Int.reduceTMod, DB, DB2, DB3]
  refine (W_rec2 (β := AV) (ι := Nat) (M := fun k => [(1, .ptr 0 0 0 0), (2, .ptr 1 0 0 0), (3, .ptr 3 0 0 0), (4, .int .i64 (k : Int))])
    (H := fun k => ⟨[.box 0 30 [.ro (rrows x)], .box 0 27 (.lis 2 0 0 0 :: nav zerN), .lst 0 0 60 20 [], .box 0 27 (.lis 4 (min k x.length) 0 (min k x.length) :: nav zerN), .lst 0 (min k x.length) 60 20 (drows (zeroS (x.take k)))], []⟩)
    (r := fun _ => some (AV.agg (.ro (drows (zeroS x)) :: nav zerN))) (μ := fun k => x.length - k) (fun k => ?_) (fun k ih => ?_) 0 (by simp) (by simp [zeroS, drows]))
  · simp [LPB, nav_below]
  · by_cases hk : k < x.length
    · have f1 : (k : Int) < (x.length : Int) := by omega
      have f2 : (0 : Int) ≤ (k : Int) := by omega
      have f6 : IntKind.i64.wrap ((k : Int) + 1) = ((k + 1 : Nat) : Int) := by rw [IntWalk.i64_in _ (by omega)] <;> omega
      have g1 := rrows_get x hk
      have ih := ih (k + 1) (by omega)
      rw [Nat.min_eq_left (show k + 1 ≤ x.length by omega), ← zeroS_snoc x hk] at ih
      rw [Nat.min_eq_left (Nat.le_of_lt hk)]
      have hl : (zeroS (x.take k)).length = k := by rw [zeroS_len, List.length_take]; omega
      generalize zeroS (x.take k) = Z at *
      subst hl
      have f7 : (Z.length + 1) * 48 ≤ 140737488355328 := by omega
      have f8 : Z.length ≤ 4611686018427387903 := by omega
      have f12 : ∀ r, headFits 20 [dav r] = true := fun r => drows_fit [r]
      simp only [RB, pickV, eqbV, notV, negV, convV, faddrV, fldV, idxV, eqaggV, iaddrV, isnilV, nilckV, cloV, extrV, slenV, minV, sidxV, abin, cmpInt, params, growLists, fillCells, newAt, rdPtr, wrPtr, AV.cells, asVal, lenOf, boundOf, rowsOf, argIds, freshIn, scalar1, setAll, AV.isData, AV.isYld, Nat.reduceAdd, Nat.reduceMul, Nat.reduceSub, Nat.reduceEqDiff, Nat.reduceLeDiff, Nat.reduceLT, Int.reduceNeg, ↓reduceIte, reduceCtorEq, Int.reduceEq, Int.reduceLT, Int.reduceLE, Int.reduceBEq, Int.reduceBNe, Int.reduceToNat, IntKind.bits, Int.reduceAdd, Int.reduceSub, Int.reduceMul, Int.reduceTDiv, Int.reduceTMod, DB, DB2, DB3, R7B, take_add, List.append_assoc, List.length_append, Nat.add_assoc, shrink_lit, ball_app, RG, LPB, f1, f2, f6, g1, zerD_c, O_buildSlq, quietOk, aop_buildSl, fillRows, asData, aappend, f7, f8, f12, List.take_length]
      exact ih
    · have e : min k x.length = x.length := Nat.min_eq_right (by omega)
      rw [e, List.take_of_length_le (by omega)]
      have f3 : (drows (zeroS x)).take x.length = drows (zeroS x) := by rw [← zeroS_len x, ← drows_len, List.take_length]
      simp only [RB, pickV, eqbV, notV, negV, convV, faddrV, fldV, idxV, eqaggV, iaddrV, isnilV, nilckV, cloV, extrV, slenV, minV, sidxV, abin, cmpInt, params, growLists, fillCells, newAt, rdPtr, wrPtr, AV.cells, asVal, lenOf, boundOf, rowsOf, argIds, freshIn, scalar1, setAll, AV.isData, AV.isYld, Nat.reduceAdd, Nat.reduceMul, Nat.reduceSub, Nat.reduceEqDiff, Nat.reduceLeDiff, Nat.reduceLT, Int.reduceNeg, ↓reduceIte, reduceCtorEq, Int.reduceEq, Int.reduceLT, Int.reduceLE, Int.reduceBEq, Int.reduceBNe, Int.reduceToNat, IntKind.bits, Int.reduceAdd, Int.reduceSub, Int.reduceMul, Int.reduceTDiv, Int.reduceTMod, DB, DB2, DB3, R7B, show ¬ (k : Int) < (x.length : Int) by omega, expRes_aggm, expCell, List.nodup_cons, List.nodup_nil, List.not_mem_nil, not_false_eq_true, not_true_eq_false, and_true, and_false, if_false, List.mem_cons, mutIds, zeroS_len, f3]
theorem r82 {ys : List Hd} {pend : List (Option AExit)} (bs : List Blk) (r : Rw) : ∃ e, LR E ys 82 [.agg (rav r)] ⟨bs, pend⟩ = some (.agg (dav ⟨r.p, zerN⟩), ⟨bs ++ e, pend⟩) := by
  refine ⟨[.box 0 85 (rav r), .box 0 60 (dav ⟨r.p, zerN⟩)], ?_⟩
  rw [LR_R (fn := f82) rfl rfl rfl]
  simp only [f82, ← nav_zer, ← dav_zer, RB, pickV, eqbV, notV, negV, convV, faddrV, fldV, idxV, eqaggV, iaddrV, isnilV, nilckV, cloV, extrV, slenV, minV, sidxV, abin, cmpInt, params, growLists, fillCells, newAt, rdPtr, wrPtr, AV.cells, asVal, lenOf, boundOf, rowsOf, argIds, freshIn, scalar1, setAll, AV.isData, AV.isYld, Nat.reduceAdd, Nat.reduceMul, Nat.reduceSub, Nat.reduceEqDiff, Nat.reduceLeDiff, Nat.reduceLT, Int.reduceNeg, ↓reduceIte, reduceCtorEq, Int.reduceEq, Int.reduceLT, Int.reduceLE, Int.reduceBEq, Int.reduceBNe, Int.reduceToNat, IntKind.bits, Int.reduceAdd, Int.reduceSub, Int.reduceMul, Int.reduceTDiv, Int.reduceTMod, DB, DB2, DB3, R7B, take_add, List.append_assoc, List.length_append, Nat.add_assoc, shrink_lit, ball_app, RG, LPB, zerD_c]
theorem r81 (x : List Rw) (hx : x.length ≤ 1000000) : LR E [] 81 [.ro (rrows x), .clo 82 []] ⟨[.box 0 30 [.ro (rrows x)], .box 0 27 (.lis 2 0 0 0 :: nav zerN), .lst 0 0 60 20 []], []⟩
    = some (.lis 4 x.length 0 x.length, ⟨[.box 0 30 [.ro (rrows x)], .box 0 27 (.lis 2 0 0 0 :: nav zerN), .lst 0 0 60 20 [], .lst 0 0 60 20 [], .lst 0 x.length 60 20 (drows (zeroS x))], []⟩) := by
  rw [LR_R (fn := f81) rfl rfl rfl]
  simp only [f81, ← nav_zer, ← dav_zer, ← rav_zer, RB, pickV, eqbV, notV, negV, convV, faddrV, fldV, idxV, eqaggV, iaddrV, isnilV, nilckV, cloV, extrV, slenV, minV, sidxV, abin, cmpInt, params, growLists, fillCells, newAt, rdPtr, wrPtr, AV.cells, asVal, lenOf, boundOf, rowsOf, argIds, freshIn, scalar1, setAll, AV.isData, AV.isYld, Nat.reduceAdd, Nat.reduceMul, Nat.reduceSub, Nat.reduceEqDiff, Nat.reduceLeDiff, Nat.reduceLT, Int.reduceNeg, ↓reduceIte, reduceCtorEq, Int.reduceEq, Int.reduceLT, Int.reduceLE, Int.reduceBEq, Int.reduceBNe, Int.reduceToNat, IntKind.bits, Int.reduceAdd, Int.reduceSub, Int.reduceMul, Int.reduceTDiv, Int.reduceTMod, DB, DB2, DB3, R7B]
  refine (W_rec2 (ι := Nat) (M := fun k => [(1, .clo 82 []), (5, .lis 4 (min k x.length) 0 (min k x.length)), (8, .ro (rrows x)), (9, .int .i64 (x.length : Int)), (10, .int .i64 (k : Int))])
    (H := fun k => ⟨[.box 0 30 [.ro (rrows x)], .box 0 27 (.lis 2 0 0 0 :: nav zerN), .lst 0 0 60 20 [], .lst 0 0 60 20 [], .lst 0 (min k x.length) 60 20 (drows (zeroS (x.take k)))], []⟩)
    (r := fun _ => some ((AV.lis 4 x.length 0 x.length, ⟨[.box 0 30 [.ro (rrows x)], .box 0 27 (.lis 2 0 0 0 :: nav zerN), .lst 0 0 60 20 [], .lst 0 0 60 20 [], .lst 0 x.length 60 20 (drows (zeroS x))], []⟩) : AV × Hp)) (μ := fun k => x.length - k) (fun k => ?_) (fun k ih => ?_) 0 (by simp) (by simp [zeroS, drows]))
  · simp [LPB, nav_below]
  · by_cases hk : k < x.length
    · have f1 : (k : Int) < (x.length : Int) := by omega
      have f2 : (0 : Int) ≤ (k : Int) := by omega
      have f6 : IntKind.i64.wrap ((k : Int) + 1) = ((k + 1 : Nat) : Int) := by rw [IntWalk.i64_in _ (by omega)] <;> omega
      have g1 := rrows_get x hk
      have ih := ih (k + 1) (by omega)
      rw [Nat.min_eq_left (show k + 1 ≤ x.length by omega), ← zeroS_snoc x hk] at ih
      rw [Nat.min_eq_left (Nat.le_of_lt hk)]
      have hl : (zeroS (x.take k)).length = k := by rw [zeroS_len, List.length_take]; omega
      generalize zeroS (x.take k) = Z at *
      subst hl
      have f7 : (Z.length + 1) * 48 ≤ 140737488355328 := by omega
      have f8 : Z.length ≤ 4611686018427387903 := by omega
      have f12 : ∀ r, headFits 20 [dav r] = true := fun r => drows_fit [r]
      obtain ⟨e, h82⟩ := r82 (ys := []) (pend := []) [.box 0 30 [.ro (rrows x)], .box 0 27 (.lis 2 0 0 0 :: nav zerN), .lst 0 0 60 20 [], .lst 0 0 60 20 [], .lst 0 Z.length 60 20 (drows Z), .box 0 85 (rav (row x Z.length)), .dead, .dead] (row x Z.length)
      simp only [List.cons_append, List.nil_append] at h82
      simp only [RB, pickV, eqbV, notV, negV, convV, faddrV, fldV, idxV, eqaggV, iaddrV, isnilV, nilckV, cloV, extrV, slenV, minV, sidxV, abin, cmpInt, params, growLists, fillCells, newAt, rdPtr, wrPtr, AV.cells, asVal, lenOf, boundOf, rowsOf, argIds, freshIn, scalar1, setAll, AV.isData, AV.isYld, Nat.reduceAdd, Nat.reduceMul, Nat.reduceSub, Nat.reduceEqDiff, Nat.reduceLeDiff, Nat.reduceLT, Int.reduceNeg, ↓reduceIte, reduceCtorEq, Int.reduceEq, Int.reduceLT, Int.reduceLE, Int.reduceBEq, Int.reduceBNe, Int.reduceToNat, IntKind.bits, Int.reduceAdd, Int.reduceSub, Int.reduceMul, Int.reduceTDiv, Int.reduceTMod, DB, DB2, DB3, R7B, take_add, List.append_assoc, List.length_append, Nat.add_assoc, shrink_lit, ball_app, RG, LPB, f1, f2, f6, g1, h82, zerD_c, nav_below, dav_below, O_buildSlq, quietOk, aop_buildSl, fillRows, asData, aappend, f7, f8, f12, List.take_length]
      exact ih
    · have e : min k x.length = x.length := Nat.min_eq_right (by omega)
      rw [e, List.take_of_length_le (by omega)]
      have f3 : (drows (zeroS x)).take x.length = drows (zeroS x) := by rw [← zeroS_len x, ← drows_len, List.take_length]
      simp only [RB, pickV, eqbV, notV, negV, convV, faddrV, fldV, idxV, eqaggV, iaddrV, isnilV, nilckV, cloV, extrV, slenV, minV, sidxV, abin, cmpInt, params, growLists, fillCells, newAt, rdPtr, wrPtr, AV.cells, asVal, lenOf, boundOf, rowsOf, argIds, freshIn, scalar1, setAll, AV.isData, AV.isYld, Nat.reduceAdd, Nat.reduceMul, Nat.reduceSub, Nat.reduceEqDiff, Nat.reduceLeDiff, Nat.reduceLT, Int.reduceNeg, ↓reduceIte, reduceCtorEq, Int.reduceEq, Int.reduceLT, Int.reduceLE, Int.reduceBEq, Int.reduceBNe, Int.reduceToNat, IntKind.bits, Int.reduceAdd, Int.reduceSub, Int.reduceMul, Int.reduceTDiv, Int.reduceTMod, DB, DB2, DB3, R7B, show ¬ (k : Int) < (x.length : Int) by omega, zeroS_len, f3]
theorem e46 (x : List Rw) (hx : x.length ≤ 1000000) : LV E 46 [.agg [.ro (rrows x)]] = some (.agg (.fresh 60 20 (drows (zeroS x)) :: nav zerN)) := by
  rw [LV_R (fn := f46) rfl rfl rfl]
  have f3 : (drows (zeroS x)).take x.length = drows (zeroS x) := by rw [← zeroS_len x, ← drows_len, List.take_length]
  simp only [f46, ← nav_zer, RB, pickV, eqbV, notV, negV, convV, faddrV, fldV, idxV, eqaggV, iaddrV, isnilV, nilckV, cloV, extrV, slenV, minV, sidxV, abin, cmpInt, params, growLists, fillCells, newAt, rdPtr, wrPtr, AV.cells, asVal, lenOf, boundOf, rowsOf, argIds, freshIn, scalar1, setAll, AV.isData, AV.isYld, Nat.reduceAdd, Nat.reduceMul, Nat.reduceSub, Nat.reduceEqDiff, Nat.reduceLeDiff, Nat.reduceLT, Int.reduceNeg, ↓reduceIte, reduceCtorEq, Int.reduceEq, Int.reduceLT, Int.reduceLE, Int.reduceBEq, Int.reduceBNe, Int.reduceToNat, IntKind.bits, Int.reduceAdd, Int.reduceSub, Int.reduceMul, Int.reduceTDiv, Int.reduceTMod, DB, DB2, DB3, R7B, r81 x hx, expRes_aggm, expCell, List.nodup_cons, List.nodup_nil, List.not_mem_nil, not_false_eq_true, not_true_eq_false, and_true, and_false, if_false, List.mem_cons, mutIds, zeroS_len, f3]
end Go.Proofs.YtdllnneeopbmdaaDoor.F

/- A tally with a count more, as the document says it. No condition. -/
set_option linter.unusedSimpArgs false
namespace Go.Proofs.YtdllnneeopbmdaaDoor.D
open Go Go.Proofs.YtdllnneeopbmdaaDoor.A
def giveAt (l : List Cd) (i : Nat) (c : Cnt) : List Cd := l.modify i fun r => ⟨r.p, plusN r.c c⟩
def giveS (l : List Cd) (place : Int) (c : Cnt) : List Cd := if place < 0 then l else giveAt l place.toNat c
theorem giveAt_len (l : List Cd) (i : Nat) (c : Cnt) : (giveAt l i c).length = l.length := by simp [giveAt]
theorem giveS_len (l : List Cd) (i : Int) (c : Cnt) : (giveS l i c).length = l.length := by unfold giveS; split <;> simp [giveAt_len]
theorem giveAt_dow (l : List Cd) (i : Nat) (c : Cnt) {k : Nat} (h : k < l.length) : dow (giveAt l i c) k = if k = i then ⟨(dow l k).p, plusN (dow l k).c c⟩ else dow l k := by
  have h1 := dow_some (giveAt l i c) (i := k) (by rw [giveAt_len]; exact h)
  rw [giveAt, List.getElem?_modify, dow_some l h] at h1
  rw [← giveAt] at h1
  by_cases e : i = k
  · subst e; simp at h1; simp [← h1]
  · simp [e] at h1; rw [if_neg (fun h => e h.symm), ← h1]
theorem giveS_dow (l : List Cd) (i : Int) (c : Cnt) {k : Nat} (h : k < l.length) : dow (giveS l i c) k = if (k : Int) = i then ⟨(dow l k).p, plusN (dow l k).c c⟩ else dow l k := by
  unfold giveS
  by_cases hi : i < 0
  · rw [if_pos hi, if_neg (by omega)]
  · rw [if_neg hi, giveAt_dow l _ c h]
    by_cases e : (k : Int) = i
    · rw [if_pos e, if_pos (by omega)]
    · rw [if_neg e, if_neg (by omega)]
theorem giveS_take (l : List Cd) (i : Int) (c : Cnt) {k : Nat} (h : k < l.length) : (giveS l i c).take k ++ [if (k : Int) = i then ⟨(dow l k).p, plusN (dow l k).c c⟩ else dow l k] = (giveS l i c).take (k + 1) := by
  rw [List.take_add_one, dow_some (giveS l i c) (by rw [giveS_len]; exact h), giveS_dow l i c h]; rfl
end Go.Proofs.YtdllnneeopbmdaaDoor.D
namespace Go.Proofs.YtdllnneeopbmdaaDoor.F
open Go Go.Proofs.YtdllnneeopbmdaaDoor.A Go.Proofs.YtdllnneeopbmdaaDoor.D
theorem e45 (l : List Cd) (hx : l.length ≤ 1000000) (n c : Cnt) (place : Int) : LV E 45 [.agg (.ro (drows l) :: nav n), .int .i64 place, .agg (nav c)] = some (.agg (.ro (drows (giveS l place c)) :: nav (if place < 0 then plusN n c else n))) := by
  rw [LV_R (fn := f45) rfl rfl rfl]
  simp only [f45, ← nav_zer, ← dav_zer, RB, pickV, eqbV, notV, negV, convV, faddrV, fldV, idxV, eqaggV, iaddrV, isnilV, nilckV, cloV, extrV, slenV, minV, sidxV, abin, cmpInt, params, growLists, fillCells, newAt, rdPtr, wrPtr, AV.cells, asVal, lenOf, boundOf, rowsOf, argIds, freshIn, scalar1, setAll, AV.isData, AV.isYld, Nat.reduceAdd, Nat.reduceMul, Nat.reduceSub, Nat.reduceEqDiff, Nat.reduceLeDiff, Nat.reduceLT, Int.reduceNeg, ↓reduceIte, reduceCtorEq, Int.reduceEq, Int.reduceLT, Int.reduceLE, Int.reduceBEq, Int.reduceBNe, Int.reduceToNat, IntKind.bits, Int.reduceAdd, Int.reduceSub, Int.reduceMul, Int.reduceTDiv, Int.reduceTMod, DB, DB2, DB3]
  have hg := giveS_len l place c
  refine (W_rec2 (β := AV) (ι := Nat) (M := fun k => [(1, .int .i64 place), (3, .ptr 0 0 0 0), (5, .ptr 1 0 0 0), (6, .ptr 2 0 0 0), (7, .ptr 5 0 0 0), (8, .int .i64 (k : Int))])
    (H := fun k => ⟨[.box 0 27 (.ro (drows l) :: nav n), .box 0 25 (nav c), .box 0 27 (.lis 3 0 0 0 :: nav zerN), .lst 0 0 60 20 [], .lst 0 (min k l.length) 60 20 (drows ((giveS l place c).take k)), .box 0 27 (.lis 4 (min k l.length) 0 (min k l.length) :: nav n), .lst 0 0 60 20 []], []⟩)
    (r := fun _ => some (AV.agg (.ro (drows (giveS l place c)) :: nav (if place < 0 then plusN n c else n)))) (μ := fun k => l.length - k) (fun k => ?_) (fun k ih => ?_) 0 (by simp) (by simp [drows]))
  · simp [LPB, nav_below]
  · by_cases hk : k < l.length
    · have f1 : (k : Int) < (l.length : Int) := by omega
      have f2 : (0 : Int) ≤ (k : Int) := by omega
      have f6 : IntKind.i64.wrap ((k : Int) + 1) = ((k + 1 : Nat) : Int) := by rw [IntWalk.i64_in _ (by omega)] <;> omega
      have g1 := drows_get l hk
      have ih := ih (k + 1) (by omega)
      rw [Nat.min_eq_left (show k + 1 ≤ l.length by omega), ← giveS_take l place c hk] at ih
      rw [Nat.min_eq_left (Nat.le_of_lt hk)]
      have hl : ((giveS l place c).take k).length = k := by rw [List.length_take]; omega
      generalize (giveS l place c).take k = Z at *
      subst hl
      have f7 : (Z.length + 1) * 48 ≤ 140737488355328 := by omega
      have f8 : Z.length ≤ 4611686018427387903 := by omega
      have f12 : ∀ r, headFits 20 [dav r] = true := fun r => drows_fit [r]
      by_cases hp : (Z.length : Int) = place
      · have f13 : ((Z.length : Int) == place) = true := by rw [beq_iff_eq]; exact hp
        rw [if_pos hp] at ih
        simp only [RB, pickV, eqbV, notV, negV, convV, faddrV, fldV, idxV, eqaggV, iaddrV, isnilV, nilckV, cloV, extrV, slenV, minV, sidxV, abin, cmpInt, params, growLists, fillCells, newAt, rdPtr, wrPtr, AV.cells, asVal, lenOf, boundOf, rowsOf, argIds, freshIn, scalar1, setAll, AV.isData, AV.isYld, Nat.reduceAdd, Nat.reduceMul, Nat.reduceSub, Nat.reduceEqDiff, Nat.reduceLeDiff, Nat.reduceLT, Int.reduceNeg, ↓reduceIte, reduceCtorEq, Int.reduceEq, Int.reduceLT, Int.reduceLE, Int.reduceBEq, Int.reduceBNe, Int.reduceToNat, IntKind.bits, Int.reduceAdd, Int.reduceSub, Int.reduceMul, Int.reduceTDiv, Int.reduceTMod, DB, DB2, DB3, R7B, take_add, List.append_assoc, List.length_append, Nat.add_assoc, shrink_lit, ball_app, RG, LPB, f1, f2, f6, g1, f13, e22, zerD_c, O_buildSlq, quietOk, aop_buildSl, fillRows, asData, aappend, f7, f8, f12, List.take_length]
        exact ih
      · have f13 : ((Z.length : Int) == place) = false := by rw [beq_eq_false_iff_ne]; exact hp
        rw [if_neg hp] at ih
        simp only [RB, pickV, eqbV, notV, negV, convV, faddrV, fldV, idxV, eqaggV, iaddrV, isnilV, nilckV, cloV, extrV, slenV, minV, sidxV, abin, cmpInt, params, growLists, fillCells, newAt, rdPtr, wrPtr, AV.cells, asVal, lenOf, boundOf, rowsOf, argIds, freshIn, scalar1, setAll, AV.isData, AV.isYld, Nat.reduceAdd, Nat.reduceMul, Nat.reduceSub, Nat.reduceEqDiff, Nat.reduceLeDiff, Nat.reduceLT, Int.reduceNeg, ↓reduceIte, reduceCtorEq, Int.reduceEq, Int.reduceLT, Int.reduceLE, Int.reduceBEq, Int.reduceBNe, Int.reduceToNat, IntKind.bits, Int.reduceAdd, Int.reduceSub, Int.reduceMul, Int.reduceTDiv, Int.reduceTMod, DB, DB2, DB3, R7B, take_add, List.append_assoc, List.length_append, Nat.add_assoc, shrink_lit, ball_app, RG, LPB, f1, f2, f6, g1, f13, e22, zerD_c, O_buildSlq, quietOk, aop_buildSl, fillRows, asData, aappend, f7, f8, f12, List.take_length]
        exact ih
    · have e : min k l.length = l.length := Nat.min_eq_right (by omega)
      rw [e, List.take_of_length_le (by omega)]
      have f3 : (giveS l place c).take l.length = giveS l place c := by rw [← hg, List.take_length]
      by_cases hp : place < 0
      · simp only [RB, pickV, eqbV, notV, negV, convV, faddrV, fldV, idxV, eqaggV, iaddrV, isnilV, nilckV, cloV, extrV, slenV, minV, sidxV, abin, cmpInt, params, growLists, fillCells, newAt, rdPtr, wrPtr, AV.cells, asVal, lenOf, boundOf, rowsOf, argIds, freshIn, scalar1, setAll, AV.isData, AV.isYld, Nat.reduceAdd, Nat.reduceMul, Nat.reduceSub, Nat.reduceEqDiff, Nat.reduceLeDiff, Nat.reduceLT, Int.reduceNeg, ↓reduceIte, reduceCtorEq, Int.reduceEq, Int.reduceLT, Int.reduceLE, Int.reduceBEq, Int.reduceBNe, Int.reduceToNat, IntKind.bits, Int.reduceAdd, Int.reduceSub, Int.reduceMul, Int.reduceTDiv, Int.reduceTMod, DB, DB2, DB3, R7B, show ¬ (k : Int) < (l.length : Int) by omega, hp, e22, expRes_aggm, expCell, List.nodup_cons, List.nodup_nil, List.not_mem_nil, not_false_eq_true, not_true_eq_false, and_true, and_false, if_false, List.mem_cons, mutIds, hg, f3]
      · simp only [RB, pickV, eqbV, notV, negV, convV, faddrV, fldV, idxV, eqaggV, iaddrV, isnilV, nilckV, cloV, extrV, slenV, minV, sidxV, abin, cmpInt, params, growLists, fillCells, newAt, rdPtr, wrPtr, AV.cells, asVal, lenOf, boundOf, rowsOf, argIds, freshIn, scalar1, setAll, AV.isData, AV.isYld, Nat.reduceAdd, Nat.reduceMul, Nat.reduceSub, Nat.reduceEqDiff, Nat.reduceLeDiff, Nat.reduceLT, Int.reduceNeg, ↓reduceIte, reduceCtorEq, Int.reduceEq, Int.reduceLT, Int.reduceLE, Int.reduceBEq, Int.reduceBNe, Int.reduceToNat, IntKind.bits, Int.reduceAdd, Int.reduceSub, Int.reduceMul, Int.reduceTDiv, Int.reduceTMod, DB, DB2, DB3, R7B, show ¬ (k : Int) < (l.length : Int) by omega, hp, expRes_aggm, expCell, List.nodup_cons, List.nodup_nil, List.not_mem_nil, not_false_eq_true, not_true_eq_false, and_true, and_false, if_false, List.mem_cons, mutIds, hg, f3]
end Go.Proofs.YtdllnneeopbmdaaDoor.F

/- Binary search among counted prefixes. No condition. -/
set_option linter.unusedSimpArgs false
namespace Go.Proofs.YtdllnneeopbmdaaDoor.D
open Go Go.Proofs.YtdllnneeopbmdaaDoor.A
def RiseD (l : List Cd) : Prop := ∀ i j, i < j → j < l.length → cmpP (dow l i).p (dow l j).p < 0
theorem DFrom.rise {l : List Cd} (h : DFrom l 0) : RiseD l := by
  intro i j hij hj
  induction j with
  | zero => omega
  | succ j ih =>
    have h1 := (h (j + 1) (Nat.zero_le _) hj).2.2 (by omega)
    rw [Nat.add_sub_cancel] at h1
    by_cases e : i = j
    · subst e; exact h1
    · exact cmp_trans (ih (by omega) (by omega)) h1
theorem RiseD.le {l : List Cd} (h : RiseD l) {p : Pfx} {i j : Nat} (hij : i ≤ j) (hj : j < l.length) (hp : cmpP (dow l j).p p < 0) : cmpP (dow l i).p p < 0 := by
  rcases Nat.lt_or_eq_of_le hij with h1 | rfl
  · exact cmp_trans (h i j h1 hj) hp
  · exact hp
theorem RiseD.ge {l : List Cd} (h : RiseD l) {p : Pfx} {i j : Nat} (hij : i ≤ j) (hj : j < l.length) (hp : 0 ≤ cmpP (dow l i).p p) : 0 ≤ cmpP (dow l j).p p := by
  by_cases h2 : 0 ≤ cmpP (dow l j).p p
  · exact h2
  · have := h.le hij hj (show cmpP (dow l j).p p < 0 by omega); omega
def Lo (l : List Cd) (p : Pfx) (i : Nat) : Prop := ∀ j, j < i → cmpP (dow l j).p p < 0
def Hi (l : List Cd) (p : Pfx) (i : Nat) : Prop := ∀ j, i ≤ j → j < l.length → 0 ≤ cmpP (dow l j).p p
end Go.Proofs.YtdllnneeopbmdaaDoor.D
namespace Go.Proofs.YtdllnneeopbmdaaDoor.F
open Go Go.Proofs.YtdllnneeopbmdaaDoor.A Go.Proofs.YtdllnneeopbmdaaDoor.D
theorem r79 {ys : List Hd} {pend : List (Option AExit)} (bs : List Blk) (r : Cd) (p : Pfx) : ∃ e, LR E ys 79 [.agg (dav r), .agg (pav p)] ⟨bs, pend⟩ = some (.int .i64 (cmpP r.p p), ⟨bs ++ e, pend⟩) := by
  refine ⟨[.box 0 60 (dav r), .box 0 58 (pav p)], ?_⟩
  rw [LR_R (fn := f79) rfl rfl rfl]
  simp only [f79, RB, pickV, eqbV, notV, negV, convV, faddrV, fldV, idxV, eqaggV, iaddrV, isnilV, nilckV, cloV, extrV, slenV, minV, sidxV, abin, cmpInt, params, growLists, fillCells, newAt, rdPtr, wrPtr, AV.cells, asVal, lenOf, boundOf, rowsOf, argIds, freshIn, scalar1, setAll, AV.isData, AV.isYld, Nat.reduceAdd, Nat.reduceMul, Nat.reduceSub, Nat.reduceEqDiff, Nat.reduceLeDiff, Nat.reduceLT, Int.reduceNeg, ↓reduceIte, reduceCtorEq, Int.reduceEq, Int.reduceLT, Int.reduceLE, Int.reduceBEq, Int.reduceBNe, Int.reduceToNat, IntKind.bits, Int.reduceAdd, Int.reduceSub, Int.reduceMul, Int.reduceTDiv, Int.reduceTMod, DB, DB2, DB3, R7B, take_add, List.append_assoc, List.length_append, Nat.add_assoc, shrink_lit, ball_app, RG, LPB, e_prefix_Compare]
theorem r78 {ys : List Hd} {bs : List Blk} {pend : List (Option AExit)} {v : AV} {l : List Cd} (p : Pfx) (hn : l.length ≤ 1000000) (hv : SlV bs 20 v (drows l)) (hr : RiseD l) (hlow : belowAll bs.length bs = true) :
    ∃ e i, i ≤ l.length ∧ Lo l p i ∧ Hi l p i ∧ LR E ys 78 [v, .agg (pav p), .clo 79 []] ⟨bs, pend⟩ = some (.tup [.int .i64 (i : Nat), .bool (decide (i < l.length ∧ (dow l i).p = p))], ⟨bs ++ e, pend⟩) := by
  have huf := hv.uf
  have hlen := hv.len
  rw [drows_len] at hlen
  have hlo : ∀ m, bs.length ≤ m → v.refsLt m = true := fun m h => by
    have := hv.low
    have h2 := belowL_mono h [v] (by simp [belowL, this])
    simpa [belowL] using h2
  have hlo1 := hlo (bs.length + 1) (by omega)
  have hb1 : belowAll (bs.length + 1) bs = true := belowAll_mono (by omega) hlow
  have hbb : belowAll (bs.length + 1) (bs ++ [.box 0 58 (pav p)]) = true := by rw [ball_app, belowAll_mono (by omega) hlow]; simp [LPB, pav_below]
  have hget : ∀ ext k, k < l.length → ∃ q, iaddrV (bs ++ ext) 20 none v (.int .i64 (k : Int)) = some q ∧ ∀ ext', rdPtr (bs ++ ext') q 20 = some (dav (dow l k)) := fun ext k hk => by
    obtain ⟨q, h1, h2⟩ := hv.get ext k (by rw [drows_len]; exact hk)
    exact ⟨q, h1, fun ext' => by rw [h2, drows_get l hk]⟩
  have hld : rdPtr (bs ++ [.box 0 58 (pav p)]) (.ptr bs.length 0 0 0) 18 = some (pav p) := by
    simp only [rdPtr, A.get_at, List.getElem?_cons_zero, and_self, if_true, pav_p]
  suffices H : ∃ e i, i ≤ l.length ∧ Lo l p i ∧ Hi l p i ∧ LR E ys 78 [v, .agg (pav p), .clo 79 []] ⟨bs, pend⟩ = some (.tup [.int .i64 (i : Nat), .bool (decide (i < l.length ∧ (dow l i).p = p))], ⟨bs ++ e, pend⟩) from H
  rw [LR_R (fn := f78) rfl rfl rfl]
  simp only [f78, RB, pickV, eqbV, notV, negV, convV, faddrV, fldV, idxV, eqaggV, isnilV, nilckV, cloV, extrV, slenV, minV, sidxV, abin, cmpInt, params, growLists, fillCells, newAt, AV.cells, asVal, boundOf, argIds, freshIn, scalar1, setAll, AV.isData, AV.isYld, Nat.reduceAdd, Nat.reduceMul, Nat.reduceSub, Nat.reduceEqDiff, Nat.reduceLeDiff, Nat.reduceLT, Int.reduceNeg, ↓reduceIte, reduceCtorEq, Int.reduceEq, Int.reduceLT, Int.reduceLE, Int.reduceBEq, Int.reduceBNe, Int.reduceToNat, IntKind.bits, Int.reduceAdd, Int.reduceSub, Int.reduceMul, Int.reduceTDiv, Int.reduceTMod, DB, DB2, DB3, R7B, take_add, List.append_assoc, List.length_append, Nat.add_assoc, shrink_lit, ball_app, RG, LPB, huf, hlen]
  refine W_recP2 (ι := {s : Nat × Nat // s.1 ≤ s.2 ∧ s.2 ≤ l.length ∧ Lo l p s.1 ∧ Hi l p s.2}) (M := fun s => [(0, v), (2, .clo 79 []), (4, .ptr bs.length 0 0 0), (8, .int .i64 (l.length : Int)), (9, .int .i64 (s.1.1 : Int)), (10, .int .i64 (s.1.2 : Int))])
    (H := fun _ => ⟨bs ++ [.box 0 58 (pav p)], pend⟩)
    (Q := fun _ x => ∃ e i, i ≤ l.length ∧ Lo l p i ∧ Hi l p i ∧ x = some ((AV.tup [.int .i64 (i : Nat), .bool (decide (i < l.length ∧ (dow l i).p = p))], ⟨bs ++ e, pend⟩) : AV × Hp)) (μ := fun s => s.1.2 - s.1.1) (fun s => ?_) (fun s ih => ?_) ⟨(0, l.length), Nat.zero_le _, Nat.le_refl _, fun j h => by omega, fun j h1 h2 => by omega⟩ rfl rfl
  · exact ⟨by simp only [List.map_cons, List.map_nil, LPB, hlo1, Bool.and_self]; simp, hbb⟩
  · obtain ⟨⟨lo, hi⟩, h1, h2, h3, h4⟩ := s
    simp only at h1 h2 h3 h4 ih ⊢
    by_cases hk : lo < hi
    · have f1 : (lo : Int) < (hi : Int) := by omega
      have w1 : IntKind.i64.wrap ((lo : Int) + (hi : Int)) = ((lo + hi : Nat) : Int) := by rw [IntWalk.i64_in _ (by omega)]; omega
      have w2 : IntKind.u64.wrap ((lo + hi : Nat) : Int) = ((lo + hi : Nat) : Int) := IntWalk.u64_in _ (by omega)
      have w3 : ((lo + hi : Nat) : Int).fdiv (2 ^ (Nat.min 1 64)) = (((lo + hi) / 2 : Nat) : Int) := by
        rw [show Nat.min 1 64 = 1 from rfl, Int.fdiv_eq_ediv_of_nonneg _ (by decide)]; omega
      have w4 : IntKind.i64.wrap (((lo + hi) / 2 : Nat) : Int) = (((lo + hi) / 2 : Nat) : Int) := IntWalk.i64_in _ (by omega)
      have w5 : IntKind.i64.wrap ((((lo + hi) / 2 : Nat) : Int) + 1) = (((lo + hi) / 2 + 1 : Nat) : Int) := by rw [IntWalk.i64_in _ (by omega)]; omega
      have hm1 : lo ≤ (lo + hi) / 2 := by omega
      have hm2 : (lo + hi) / 2 < hi := by omega
      generalize (lo + hi) / 2 = m at *
      obtain ⟨q, g1, g2⟩ := hget [.box 0 58 (pav p)] m (by omega)
      obtain ⟨e, h79⟩ := r79 (ys := ys) (pend := pend) (bs ++ [.box 0 58 (pav p)]) (dow l m) p
      have hsh : shrink false (bs.length + 1) (.int .i64 (cmpP (dow l m).p p)) ⟨(bs ++ [.box 0 58 (pav p)]) ++ e, pend⟩ = some ⟨bs ++ [.box 0 58 (pav p)], pend⟩ := shrink_app (by simp) rfl hbb
      simp only [List.append_assoc] at h79 hsh
      by_cases hc : cmpP (dow l m).p p < 0
      · simp only [RB, pickV, eqbV, notV, negV, convV, faddrV, fldV, idxV, eqaggV, isnilV, nilckV, cloV, extrV, slenV, minV, sidxV, abin, cmpInt, params, growLists, fillCells, newAt, AV.cells, asVal, boundOf, argIds, freshIn, scalar1, setAll, AV.isData, AV.isYld, Nat.reduceAdd, Nat.reduceMul, Nat.reduceSub, Nat.reduceEqDiff, Nat.reduceLeDiff, Nat.reduceLT, Int.reduceNeg, ↓reduceIte, reduceCtorEq, Int.reduceEq, Int.reduceLT, Int.reduceLE, Int.reduceBEq, Int.reduceBNe, Int.reduceToNat, IntKind.bits, Int.reduceAdd, Int.reduceSub, Int.reduceMul, Int.reduceTDiv, Int.reduceTMod, DB, DB2, DB3, R7B, take_add, List.append_assoc, List.length_append, Nat.add_assoc, shrink_lit, ball_app, RG, LPB, f1, w1, w2, w3, w4, w5, huf, g1, g2, hld, hb1, h79, hsh, hc]
        exact ih ⟨(m + 1, hi), by omega, h2, fun j hj => hr.le (show j ≤ m by omega) (by omega) hc, h4⟩ (by simp only; omega)
      · simp only [RB, pickV, eqbV, notV, negV, convV, faddrV, fldV, idxV, eqaggV, isnilV, nilckV, cloV, extrV, slenV, minV, sidxV, abin, cmpInt, params, growLists, fillCells, newAt, AV.cells, asVal, boundOf, argIds, freshIn, scalar1, setAll, AV.isData, AV.isYld, Nat.reduceAdd, Nat.reduceMul, Nat.reduceSub, Nat.reduceEqDiff, Nat.reduceLeDiff, Nat.reduceLT, Int.reduceNeg, ↓reduceIte, reduceCtorEq, Int.reduceEq, Int.reduceLT, Int.reduceLE, Int.reduceBEq, Int.reduceBNe, Int.reduceToNat, IntKind.bits, Int.reduceAdd, Int.reduceSub, Int.reduceMul, Int.reduceTDiv, Int.reduceTMod, DB, DB2, DB3, R7B, take_add, List.append_assoc, List.length_append, Nat.add_assoc, shrink_lit, ball_app, RG, LPB, f1, w1, w2, w3, w4, w5, huf, g1, g2, hld, hb1, h79, hsh, hc]
        exact ih ⟨(lo, m), by omega, by omega, h3, fun j hj hj2 => hr.ge hj hj2 (Int.not_lt.1 hc)⟩ (by simp only; omega)
    · have e : lo = hi := by omega
      subst e
      simp only [RB, pickV, eqbV, notV, negV, convV, faddrV, fldV, idxV, eqaggV, isnilV, nilckV, cloV, extrV, slenV, minV, sidxV, abin, cmpInt, params, growLists, fillCells, newAt, AV.cells, asVal, boundOf, argIds, freshIn, scalar1, setAll, AV.isData, AV.isYld, Nat.reduceAdd, Nat.reduceMul, Nat.reduceSub, Nat.reduceEqDiff, Nat.reduceLeDiff, Nat.reduceLT, Int.reduceNeg, ↓reduceIte, reduceCtorEq, Int.reduceEq, Int.reduceLT, Int.reduceLE, Int.reduceBEq, Int.reduceBNe, Int.reduceToNat, IntKind.bits, Int.reduceAdd, Int.reduceSub, Int.reduceMul, Int.reduceTDiv, Int.reduceTMod, DB, DB2, DB3, R7B, take_add, List.append_assoc, List.length_append, Nat.add_assoc, shrink_lit, ball_app, RG, LPB, hk, show ¬ (lo : Int) < (lo : Int) by omega]
      by_cases hl : lo < l.length
      · have f1 : (lo : Int) < (l.length : Int) := by omega
        obtain ⟨q, g1, g2⟩ := hget [.box 0 58 (pav p)] lo hl
        obtain ⟨e, h79⟩ := r79 (ys := ys) (pend := pend) (bs ++ [.box 0 58 (pav p)]) (dow l lo) p
        have hsh : shrink false (bs.length + 1) (.int .i64 (cmpP (dow l lo).p p)) ⟨(bs ++ [.box 0 58 (pav p)]) ++ e, pend⟩ = some ⟨bs ++ [.box 0 58 (pav p)], pend⟩ := shrink_app (by simp) rfl hbb
        simp only [List.append_assoc] at h79 hsh
        have hz : (cmpP (dow l lo).p p == 0) = decide ((dow l lo).p = p) := by
          by_cases hh : (dow l lo).p = p
          · rw [decide_eq_true hh, hh, cmp_self]; rfl
          · rw [decide_eq_false hh, beq_eq_false_iff_ne]; exact fun h => hh (cmp_zero h)
        refine ⟨[.box 0 58 (pav p)], lo, h2, h3, h4, ?_⟩
        simp only [RB, pickV, eqbV, notV, negV, convV, faddrV, fldV, idxV, eqaggV, isnilV, nilckV, cloV, extrV, slenV, minV, sidxV, abin, cmpInt, params, growLists, fillCells, newAt, AV.cells, asVal, boundOf, argIds, freshIn, scalar1, setAll, AV.isData, AV.isYld, Nat.reduceAdd, Nat.reduceMul, Nat.reduceSub, Nat.reduceEqDiff, Nat.reduceLeDiff, Nat.reduceLT, Int.reduceNeg, ↓reduceIte, reduceCtorEq, Int.reduceEq, Int.reduceLT, Int.reduceLE, Int.reduceBEq, Int.reduceBNe, Int.reduceToNat, IntKind.bits, Int.reduceAdd, Int.reduceSub, Int.reduceMul, Int.reduceTDiv, Int.reduceTMod, DB, DB2, DB3, R7B, take_add, List.append_assoc, List.length_append, Nat.add_assoc, shrink_lit, ball_app, RG, LPB, f1, huf, g1, g2, hld, hb1, h79, hsh, hz, hl]
      · refine ⟨[.box 0 58 (pav p)], lo, h2, h3, h4, ?_⟩
        simp only [RB, pickV, eqbV, notV, negV, convV, faddrV, fldV, idxV, eqaggV, isnilV, nilckV, cloV, extrV, slenV, minV, sidxV, abin, cmpInt, params, growLists, fillCells, newAt, AV.cells, asVal, boundOf, argIds, freshIn, scalar1, setAll, AV.isData, AV.isYld, Nat.reduceAdd, Nat.reduceMul, Nat.reduceSub, Nat.reduceEqDiff, Nat.reduceLeDiff, Nat.reduceLT, Int.reduceNeg, ↓reduceIte, reduceCtorEq, Int.reduceEq, Int.reduceLT, Int.reduceLE, Int.reduceBEq, Int.reduceBNe, Int.reduceToNat, IntKind.bits, Int.reduceAdd, Int.reduceSub, Int.reduceMul, Int.reduceTDiv, Int.reduceTMod, DB, DB2, DB3, R7B, take_add, List.append_assoc, List.length_append, Nat.add_assoc, shrink_lit, ball_app, RG, LPB, show ¬ (lo : Int) < (l.length : Int) by omega, hl]
end Go.Proofs.YtdllnneeopbmdaaDoor.F

/- A tally with a count more, as the program gives it. No condition. -/
set_option linter.unusedSimpArgs false
namespace Go.Proofs.YtdllnneeopbmdaaDoor.D
open Go Go.Proofs.YtdllnneeopbmdaaDoor.A
theorem drows_set (l : List Cd) {i : Nat} (c : Cnt) (h : i < l.length) : (drows l).set i (dav ⟨(dow l i).p, plusN (dow l i).c c⟩) = drows (giveAt l i c) := by
  refine List.ext_getElem? fun k => ?_
  rw [List.getElem?_set]
  by_cases hk : k < l.length
  · rw [drows_get (giveAt l i c) (by rw [giveAt_len]; exact hk), giveAt_dow l i c hk]
    by_cases e : i = k
    · subst e; rw [if_pos rfl, if_pos (by rw [drows_len]; exact h), if_pos rfl]
    · rw [if_neg e, if_neg (fun h => e h.symm), drows_get l hk]
  · rw [if_neg (by omega), List.getElem?_eq_none (by rw [drows_len]; omega), List.getElem?_eq_none (by rw [drows_len, giveAt_len]; omega)]
theorem RiseD.one {l : List Cd} (h : RiseD l) {p : Pfx} {i t : Nat} (h1 : i ≤ l.length) (hlo : Lo l p i) (hhi : Hi l p i) (ht : t < l.length) (he : (dow l t).p = p) : i = t := by
  have hc : cmpP (dow l t).p p = 0 := by rw [he, cmp_self]
  have h2 : ¬ t < i := fun h => by have := hlo t h; omega
  by_cases h3 : i < t
  · have h4 := h i t h3 ht
    rw [he] at h4
    have := hhi i (Nat.le_refl _) (by omega)
    omega
  · omega
end Go.Proofs.YtdllnneeopbmdaaDoor.D
namespace Go.Proofs.YtdllnneeopbmdaaDoor.F
open Go Go.Proofs.YtdllnneeopbmdaaDoor.A Go.Proofs.YtdllnneeopbmdaaDoor.D
theorem r41 {ys : List Hd} {bs : List Blk} {pend : List (Option AExit)} {a L g : Nat} {l : List Cd} (n c : Cnt) (p : Pfx) (there : Bool) (hn : l.length ≤ 1000000) (ha : bs[a]? = some (.box 0 27 (.lis L g 0 l.length :: nav n))) (hb : bs[L]? = some (.lst 0 g 60 20 (drows l))) (hlow : belowAll bs.length bs = true) (hr : RiseD l) (t : Nat) (ht : there = true → t < l.length ∧ (dow l t).p = p) :
    ∃ e, LR E ys 41 [.ptr a 0 0 0, .agg (pav p), .bool there, .agg (nav c)] ⟨bs, pend⟩ = some (.tup [], ⟨(if there then bs.set L (.lst 0 g 60 20 (drows (giveAt l t c))) else bs.set a (.box 0 27 (.lis L g 0 l.length :: nav (plusN n c)))) ++ e, pend⟩) := by
  have hA : ∀ r, (bs ++ r)[a]? = some (.box 0 27 (.lis L g 0 l.length :: nav n)) := fun r => get_lt ha
  have hL : ∀ r, (bs ++ r)[L]? = some (.lst 0 g 60 20 (drows l)) := fun r => get_lt hb
  have ia := (List.getElem?_eq_some_iff.1 ha).1
  have iL := (List.getElem?_eq_some_iff.1 hb).1
  have sA : ∀ r x, (bs ++ r).set a x = bs.set a x ++ r := fun r x => by rw [List.set_append_left _ _ ia]
  have sL : ∀ r x, (bs ++ r).set L x = bs.set L x ++ r := fun r x => by rw [List.set_append_left _ _ iL]
  rw [LR_R (fn := f41) rfl rfl rfl]
  cases there with
  | false =>
    refine ⟨[.box 0 58 (pav p), .box 0 25 (nav c)], ?_⟩
    simp only [f41, RB, pickV, eqbV, notV, negV, convV, faddrV, fldV, idxV, eqaggV, iaddrV, isnilV, nilckV, cloV, extrV, slenV, minV, sidxV, abin, cmpInt, params, growLists, fillCells, newAt, rdPtr, wrPtr, AV.cells, asVal, lenOf, boundOf, rowsOf, argIds, freshIn, scalar1, setAll, AV.isData, AV.isYld, Nat.reduceAdd, Nat.reduceMul, Nat.reduceSub, Nat.reduceEqDiff, Nat.reduceLeDiff, Nat.reduceLT, Int.reduceNeg, ↓reduceIte, reduceCtorEq, Int.reduceEq, Int.reduceLT, Int.reduceLE, Int.reduceBEq, Int.reduceBNe, Int.reduceToNat, IntKind.bits, Int.reduceAdd, Int.reduceSub, Int.reduceMul, Int.reduceTDiv, Int.reduceTMod, DB, DB2, DB3, R7B, take_add, List.append_assoc, List.length_append, Nat.add_assoc, shrink_lit, ball_app, RG, LPB, hA, sA, e51]
  | true =>
    obtain ⟨h1, h2⟩ := ht rfl
    obtain ⟨e, i, k1, k2, k3, k4⟩ := r78 (ys := ys) (pend := pend) (bs := bs ++ [.box 0 58 (pav p), .box 0 25 (nav c)]) (v := .lis L g 0 l.length) (l := l) p hn (SlV.lis (hL _) (by rw [drows_len]) (fun r hr => by
      simp only [drows, List.mem_map] at hr; obtain ⟨x, _, rfl⟩ := hr; exact dav_len x)) hr (by rw [ball_app, belowAll_mono (by simp) hlow]; simp [LPB, pav_below, nav_below])
    have hi := hr.one k1 k2 k3 h1 h2
    subst hi
    have hsh : ∀ v : AV, v.refsLt (bs.length + 2) = true → shrink false (bs.length + 2) v ⟨(bs ++ [.box 0 58 (pav p), .box 0 25 (nav c)]) ++ e, pend⟩ = some ⟨bs ++ [.box 0 58 (pav p), .box 0 25 (nav c)], pend⟩ := fun v hv => shrink_app (by simp) hv (by rw [ball_app, belowAll_mono (by simp) hlow]; simp [LPB, pav_below, nav_below])
    have hsh1 := hsh (.tup [.int .i64 (i : Nat), .bool (decide (i < l.length ∧ (dow l i).p = p))]) rfl
    simp only [List.append_assoc] at k4 hsh1
    have hb1 : belowAll (bs.length + 2) bs = true := belowAll_mono (by omega) hlow
    have f1 : (i : Int) < (l.length : Int) := by omega
    have f2 : (0 : Int) ≤ (i : Int) := by omega
    refine ⟨[.box 0 58 (pav p), .box 0 25 (nav c)], ?_⟩
    simp only [f41, RB, pickV, eqbV, notV, negV, convV, faddrV, fldV, idxV, eqaggV, iaddrV, isnilV, nilckV, cloV, extrV, slenV, minV, sidxV, abin, cmpInt, params, growLists, fillCells, newAt, rdPtr, wrPtr, AV.cells, asVal, lenOf, boundOf, rowsOf, argIds, freshIn, scalar1, setAll, AV.isData, AV.isYld, Nat.reduceAdd, Nat.reduceMul, Nat.reduceSub, Nat.reduceEqDiff, Nat.reduceLeDiff, Nat.reduceLT, Int.reduceNeg, ↓reduceIte, reduceCtorEq, Int.reduceEq, Int.reduceLT, Int.reduceLE, Int.reduceBEq, Int.reduceBNe, Int.reduceToNat, IntKind.bits, Int.reduceAdd, Int.reduceSub, Int.reduceMul, Int.reduceTDiv, Int.reduceTMod, DB, DB2, DB3, R7B, take_add, List.append_assoc, List.length_append, Nat.add_assoc, shrink_lit, ball_app, RG, LPB, hA, k4, hsh1, hb1, hL, sL, lisFits, h1, f1, f2, drows_get l h1, drows_set l c h1, e51]
end Go.Proofs.YtdllnneeopbmdaaDoor.F

/- Why nothing is asked of a tally and tables; a table's tally of nothing. No condition. -/
set_option linter.unusedSimpArgs false
namespace Go.Proofs.YtdllnneeopbmdaaDoor.D
open Go Go.Proofs.YtdllnneeopbmdaaDoor.A
def errS (l : List Cd) (n : Cnt) (x y : List Rw) : Int := if TalOk l n then if TabOk x then if TabOk y then if l.map Cd.p = x.map Rw.p then 0 else 411 else 190 else 190 else 410
end Go.Proofs.YtdllnneeopbmdaaDoor.D
namespace Go.Proofs.YtdllnneeopbmdaaDoor.F
open Go Go.Proofs.YtdllnneeopbmdaaDoor.A Go.Proofs.YtdllnneeopbmdaaDoor.D
theorem e42 (l : List Cd) (n : Cnt) (x y : List Rw) (hl : l.length ≤ 1000000) (hx : x.length ≤ 1000000) (hy : y.length ≤ 1000000) : LV E 42 [.agg (.ro (drows l) :: nav n), .agg [.ro (rrows x)], .agg [.ro (rrows y)]] = some (.int .i64 (errS l n x y)) := by
  rw [LV_R (fn := f42) rfl rfl rfl]
  have h1 := e25 l n (by omega)
  have h2 := e_ref09_Right x (by omega)
  have h3 := e_ref09_Right y (by omega)
  have h4 := e80 l n x (by omega)
  unfold errS
  simp only [f42, RB, pickV, eqbV, notV, negV, convV, faddrV, fldV, idxV, eqaggV, iaddrV, isnilV, nilckV, cloV, extrV, slenV, minV, sidxV, abin, cmpInt, params, growLists, fillCells, newAt, rdPtr, wrPtr, AV.cells, asVal, lenOf, boundOf, rowsOf, argIds, freshIn, scalar1, setAll, AV.isData, AV.isYld, Nat.reduceAdd, Nat.reduceMul, Nat.reduceSub, Nat.reduceEqDiff, Nat.reduceLeDiff, Nat.reduceLT, Int.reduceNeg, ↓reduceIte, reduceCtorEq, Int.reduceEq, Int.reduceLT, Int.reduceLE, Int.reduceBEq, Int.reduceBNe, Int.reduceToNat, IntKind.bits, Int.reduceAdd, Int.reduceSub, Int.reduceMul, Int.reduceTDiv, Int.reduceTMod, DB, DB2, DB3, h1]
  by_cases k1 : TalOk l n
  · simp only [RB, pickV, eqbV, notV, negV, convV, faddrV, fldV, idxV, eqaggV, iaddrV, isnilV, nilckV, cloV, extrV, slenV, minV, sidxV, abin, cmpInt, params, growLists, fillCells, newAt, rdPtr, wrPtr, AV.cells, asVal, lenOf, boundOf, rowsOf, argIds, freshIn, scalar1, setAll, AV.isData, AV.isYld, Nat.reduceAdd, Nat.reduceMul, Nat.reduceSub, Nat.reduceEqDiff, Nat.reduceLeDiff, Nat.reduceLT, Int.reduceNeg, ↓reduceIte, reduceCtorEq, Int.reduceEq, Int.reduceLT, Int.reduceLE, Int.reduceBEq, Int.reduceBNe, Int.reduceToNat, IntKind.bits, Int.reduceAdd, Int.reduceSub, Int.reduceMul, Int.reduceTDiv, Int.reduceTMod, DB, DB2, DB3, h2, k1]
    by_cases k2 : TabOk x
    · simp only [RB, pickV, eqbV, notV, negV, convV, faddrV, fldV, idxV, eqaggV, iaddrV, isnilV, nilckV, cloV, extrV, slenV, minV, sidxV, abin, cmpInt, params, growLists, fillCells, newAt, rdPtr, wrPtr, AV.cells, asVal, lenOf, boundOf, rowsOf, argIds, freshIn, scalar1, setAll, AV.isData, AV.isYld, Nat.reduceAdd, Nat.reduceMul, Nat.reduceSub, Nat.reduceEqDiff, Nat.reduceLeDiff, Nat.reduceLT, Int.reduceNeg, ↓reduceIte, reduceCtorEq, Int.reduceEq, Int.reduceLT, Int.reduceLE, Int.reduceBEq, Int.reduceBNe, Int.reduceToNat, IntKind.bits, Int.reduceAdd, Int.reduceSub, Int.reduceMul, Int.reduceTDiv, Int.reduceTMod, DB, DB2, DB3, h3, k2]
      by_cases k3 : TabOk y
      · simp only [RB, pickV, eqbV, notV, negV, convV, faddrV, fldV, idxV, eqaggV, iaddrV, isnilV, nilckV, cloV, extrV, slenV, minV, sidxV, abin, cmpInt, params, growLists, fillCells, newAt, rdPtr, wrPtr, AV.cells, asVal, lenOf, boundOf, rowsOf, argIds, freshIn, scalar1, setAll, AV.isData, AV.isYld, Nat.reduceAdd, Nat.reduceMul, Nat.reduceSub, Nat.reduceEqDiff, Nat.reduceLeDiff, Nat.reduceLT, Int.reduceNeg, ↓reduceIte, reduceCtorEq, Int.reduceEq, Int.reduceLT, Int.reduceLE, Int.reduceBEq, Int.reduceBNe, Int.reduceToNat, IntKind.bits, Int.reduceAdd, Int.reduceSub, Int.reduceMul, Int.reduceTDiv, Int.reduceTMod, DB, DB2, DB3, h4, k3]
        by_cases k4 : l.map Cd.p = x.map Rw.p
        · simp only [RB, pickV, eqbV, notV, negV, convV, faddrV, fldV, idxV, eqaggV, iaddrV, isnilV, nilckV, cloV, extrV, slenV, minV, sidxV, abin, cmpInt, params, growLists, fillCells, newAt, rdPtr, wrPtr, AV.cells, asVal, lenOf, boundOf, rowsOf, argIds, freshIn, scalar1, setAll, AV.isData, AV.isYld, Nat.reduceAdd, Nat.reduceMul, Nat.reduceSub, Nat.reduceEqDiff, Nat.reduceLeDiff, Nat.reduceLT, Int.reduceNeg, ↓reduceIte, reduceCtorEq, Int.reduceEq, Int.reduceLT, Int.reduceLE, Int.reduceBEq, Int.reduceBNe, Int.reduceToNat, IntKind.bits, Int.reduceAdd, Int.reduceSub, Int.reduceMul, Int.reduceTDiv, Int.reduceTMod, DB, DB2, DB3, k4]
        · simp only [RB, pickV, eqbV, notV, negV, convV, faddrV, fldV, idxV, eqaggV, iaddrV, isnilV, nilckV, cloV, extrV, slenV, minV, sidxV, abin, cmpInt, params, growLists, fillCells, newAt, rdPtr, wrPtr, AV.cells, asVal, lenOf, boundOf, rowsOf, argIds, freshIn, scalar1, setAll, AV.isData, AV.isYld, Nat.reduceAdd, Nat.reduceMul, Nat.reduceSub, Nat.reduceEqDiff, Nat.reduceLeDiff, Nat.reduceLT, Int.reduceNeg, ↓reduceIte, reduceCtorEq, Int.reduceEq, Int.reduceLT, Int.reduceLE, Int.reduceBEq, Int.reduceBNe, Int.reduceToNat, IntKind.bits, Int.reduceAdd, Int.reduceSub, Int.reduceMul, Int.reduceTDiv, Int.reduceTMod, DB, DB2, DB3, k4]
      · simp only [RB, pickV, eqbV, notV, negV, convV, faddrV, fldV, idxV, eqaggV, iaddrV, isnilV, nilckV, cloV, extrV, slenV, minV, sidxV, abin, cmpInt, params, growLists, fillCells, newAt, rdPtr, wrPtr, AV.cells, asVal, lenOf, boundOf, rowsOf, argIds, freshIn, scalar1, setAll, AV.isData, AV.isYld, Nat.reduceAdd, Nat.reduceMul, Nat.reduceSub, Nat.reduceEqDiff, Nat.reduceLeDiff, Nat.reduceLT, Int.reduceNeg, ↓reduceIte, reduceCtorEq, Int.reduceEq, Int.reduceLT, Int.reduceLE, Int.reduceBEq, Int.reduceBNe, Int.reduceToNat, IntKind.bits, Int.reduceAdd, Int.reduceSub, Int.reduceMul, Int.reduceTDiv, Int.reduceTMod, DB, DB2, DB3, k3]
    · simp only [RB, pickV, eqbV, notV, negV, convV, faddrV, fldV, idxV, eqaggV, iaddrV, isnilV, nilckV, cloV, extrV, slenV, minV, sidxV, abin, cmpInt, params, growLists, fillCells, newAt, rdPtr, wrPtr, AV.cells, asVal, lenOf, boundOf, rowsOf, argIds, freshIn, scalar1, setAll, AV.isData, AV.isYld, Nat.reduceAdd, Nat.reduceMul, Nat.reduceSub, Nat.reduceEqDiff, Nat.reduceLeDiff, Nat.reduceLT, Int.reduceNeg, ↓reduceIte, reduceCtorEq, Int.reduceEq, Int.reduceLT, Int.reduceLE, Int.reduceBEq, Int.reduceBNe, Int.reduceToNat, IntKind.bits, Int.reduceAdd, Int.reduceSub, Int.reduceMul, Int.reduceTDiv, Int.reduceTMod, DB, DB2, DB3, k2]
  · simp only [RB, pickV, eqbV, notV, negV, convV, faddrV, fldV, idxV, eqaggV, iaddrV, isnilV, nilckV, cloV, extrV, slenV, minV, sidxV, abin, cmpInt, params, growLists, fillCells, newAt, rdPtr, wrPtr, AV.cells, asVal, lenOf, boundOf, rowsOf, argIds, freshIn, scalar1, setAll, AV.isData, AV.isYld, Nat.reduceAdd, Nat.reduceMul, Nat.reduceSub, Nat.reduceEqDiff, Nat.reduceLeDiff, Nat.reduceLT, Int.reduceNeg, ↓reduceIte, reduceCtorEq, Int.reduceEq, Int.reduceLT, Int.reduceLE, Int.reduceBEq, Int.reduceBNe, Int.reduceToNat, IntKind.bits, Int.reduceAdd, Int.reduceSub, Int.reduceMul, Int.reduceTDiv, Int.reduceTMod, DB, DB2, DB3, k1]
theorem e38a (l : List Cd) (n : Cnt) (x : List Rw) (hl : l.length ≤ 1000000) (hx : x.length ≤ 1000000) : LV E 38 [.agg (.ro (drows l) :: nav n), .clip [[.ro (rrows x)]]] = some (.int .i64 (errS l n x x)) := by
  rw [LV_R (fn := f38) rfl rfl rfl]
  have h1 := e31 l n (by omega)
  have h2 := e_table_Check x (by omega)
  have h4 := e75 l n x (by omega)
  have w0 : IntKind.i64.wrap ((0 : Int) + 1) = 1 := by decide
  unfold errS
  simp only [f38, RB, pickV, eqbV, notV, negV, convV, faddrV, fldV, idxV, eqaggV, iaddrV, isnilV, nilckV, cloV, extrV, slenV, minV, sidxV, abin, cmpInt, params, growLists, fillCells, newAt, rdPtr, wrPtr, AV.cells, asVal, lenOf, boundOf, rowsOf, argIds, freshIn, scalar1, setAll, AV.isData, AV.isYld, Nat.reduceAdd, Nat.reduceMul, Nat.reduceSub, Nat.reduceEqDiff, Nat.reduceLeDiff, Nat.reduceLT, Int.reduceNeg, ↓reduceIte, reduceCtorEq, Int.reduceEq, Int.reduceLT, Int.reduceLE, Int.reduceBEq, Int.reduceBNe, Int.reduceToNat, IntKind.bits, Int.reduceAdd, Int.reduceSub, Int.reduceMul, Int.reduceTDiv, Int.reduceTMod, DB, DB2, DB3, h1]
  by_cases k1 : TalOk l n
  · simp only [RB, pickV, eqbV, notV, negV, convV, faddrV, fldV, idxV, eqaggV, iaddrV, isnilV, nilckV, cloV, extrV, slenV, minV, sidxV, abin, cmpInt, params, growLists, fillCells, newAt, rdPtr, wrPtr, AV.cells, asVal, lenOf, boundOf, rowsOf, argIds, freshIn, scalar1, setAll, AV.isData, AV.isYld, Nat.reduceAdd, Nat.reduceMul, Nat.reduceSub, Nat.reduceEqDiff, Nat.reduceLeDiff, Nat.reduceLT, Int.reduceNeg, ↓reduceIte, reduceCtorEq, Int.reduceEq, Int.reduceLT, Int.reduceLE, Int.reduceBEq, Int.reduceBNe, Int.reduceToNat, IntKind.bits, Int.reduceAdd, Int.reduceSub, Int.reduceMul, Int.reduceTDiv, Int.reduceTMod, DB, DB2, DB3, R7B, take_add, List.append_assoc, List.length_append, Nat.add_assoc, shrink_lit, ball_app, RG, LPB, k1, W_go, h2, bne_self_eq_false, w0]
    by_cases k2 : TabOk x
    · simp only [RB, pickV, eqbV, notV, negV, convV, faddrV, fldV, idxV, eqaggV, iaddrV, isnilV, nilckV, cloV, extrV, slenV, minV, sidxV, abin, cmpInt, params, growLists, fillCells, newAt, rdPtr, wrPtr, AV.cells, asVal, lenOf, boundOf, rowsOf, argIds, freshIn, scalar1, setAll, AV.isData, AV.isYld, Nat.reduceAdd, Nat.reduceMul, Nat.reduceSub, Nat.reduceEqDiff, Nat.reduceLeDiff, Nat.reduceLT, Int.reduceNeg, ↓reduceIte, reduceCtorEq, Int.reduceEq, Int.reduceLT, Int.reduceLE, Int.reduceBEq, Int.reduceBNe, Int.reduceToNat, IntKind.bits, Int.reduceAdd, Int.reduceSub, Int.reduceMul, Int.reduceTDiv, Int.reduceTMod, DB, DB2, DB3, R7B, take_add, List.append_assoc, List.length_append, Nat.add_assoc, shrink_lit, ball_app, RG, LPB, W_go, h2, h4, k2, bne_self_eq_false, w0]
      by_cases k4 : l.map Cd.p = x.map Rw.p
      · simp only [RB, pickV, eqbV, notV, negV, convV, faddrV, fldV, idxV, eqaggV, iaddrV, isnilV, nilckV, cloV, extrV, slenV, minV, sidxV, abin, cmpInt, params, growLists, fillCells, newAt, rdPtr, wrPtr, AV.cells, asVal, lenOf, boundOf, rowsOf, argIds, freshIn, scalar1, setAll, AV.isData, AV.isYld, Nat.reduceAdd, Nat.reduceMul, Nat.reduceSub, Nat.reduceEqDiff, Nat.reduceLeDiff, Nat.reduceLT, Int.reduceNeg, ↓reduceIte, reduceCtorEq, Int.reduceEq, Int.reduceLT, Int.reduceLE, Int.reduceBEq, Int.reduceBNe, Int.reduceToNat, IntKind.bits, Int.reduceAdd, Int.reduceSub, Int.reduceMul, Int.reduceTDiv, Int.reduceTMod, DB, DB2, DB3, R7B, take_add, List.append_assoc, List.length_append, Nat.add_assoc, shrink_lit, ball_app, RG, LPB, k4]
      · simp only [RB, pickV, eqbV, notV, negV, convV, faddrV, fldV, idxV, eqaggV, iaddrV, isnilV, nilckV, cloV, extrV, slenV, minV, sidxV, abin, cmpInt, params, growLists, fillCells, newAt, rdPtr, wrPtr, AV.cells, asVal, lenOf, boundOf, rowsOf, argIds, freshIn, scalar1, setAll, AV.isData, AV.isYld, Nat.reduceAdd, Nat.reduceMul, Nat.reduceSub, Nat.reduceEqDiff, Nat.reduceLeDiff, Nat.reduceLT, Int.reduceNeg, ↓reduceIte, reduceCtorEq, Int.reduceEq, Int.reduceLT, Int.reduceLE, Int.reduceBEq, Int.reduceBNe, Int.reduceToNat, IntKind.bits, Int.reduceAdd, Int.reduceSub, Int.reduceMul, Int.reduceTDiv, Int.reduceTMod, DB, DB2, DB3, R7B, take_add, List.append_assoc, List.length_append, Nat.add_assoc, shrink_lit, ball_app, RG, LPB, k4]
    · simp only [RB, pickV, eqbV, notV, negV, convV, faddrV, fldV, idxV, eqaggV, iaddrV, isnilV, nilckV, cloV, extrV, slenV, minV, sidxV, abin, cmpInt, params, growLists, fillCells, newAt, rdPtr, wrPtr, AV.cells, asVal, lenOf, boundOf, rowsOf, argIds, freshIn, scalar1, setAll, AV.isData, AV.isYld, Nat.reduceAdd, Nat.reduceMul, Nat.reduceSub, Nat.reduceEqDiff, Nat.reduceLeDiff, Nat.reduceLT, Int.reduceNeg, ↓reduceIte, reduceCtorEq, Int.reduceEq, Int.reduceLT, Int.reduceLE, Int.reduceBEq, Int.reduceBNe, Int.reduceToNat, IntKind.bits, Int.reduceAdd, Int.reduceSub, Int.reduceMul, Int.reduceTDiv, Int.reduceTMod, DB, DB2, DB3, R7B, take_add, List.append_assoc, List.length_append, Nat.add_assoc, shrink_lit, ball_app, RG, LPB, k2]
  · simp only [RB, pickV, eqbV, notV, negV, convV, faddrV, fldV, idxV, eqaggV, iaddrV, isnilV, nilckV, cloV, extrV, slenV, minV, sidxV, abin, cmpInt, params, growLists, fillCells, newAt, rdPtr, wrPtr, AV.cells, asVal, lenOf, boundOf, rowsOf, argIds, freshIn, scalar1, setAll, AV.isData, AV.isYld, Nat.reduceAdd, Nat.reduceMul, Nat.reduceSub, Nat.reduceEqDiff, Nat.reduceLeDiff, Nat.reduceLT, Int.reduceNeg, ↓reduceIte, reduceCtorEq, Int.reduceEq, Int.reduceLT, Int.reduceLE, Int.reduceBEq, Int.reduceBNe, Int.reduceToNat, IntKind.bits, Int.reduceAdd, Int.reduceSub, Int.reduceMul, Int.reduceTDiv, Int.reduceTMod, DB, DB2, DB3, R7B, take_add, List.append_assoc, List.length_append, Nat.add_assoc, shrink_lit, ball_app, RG, LPB, k1]
theorem e38b (l : List Cd) (n : Cnt) (x y : List Rw) (hl : l.length ≤ 1000000) (hx : x.length ≤ 1000000) (hy : y.length ≤ 1000000) : LV E 38 [.agg (.ro (drows l) :: nav n), .clip [[.ro (rrows x)], [.ro (rrows y)]]] = some (.int .i64 (errS l n x y)) := by
  rw [LV_R (fn := f38) rfl rfl rfl]
  have h1 := e31 l n (by omega)
  have h2 := e_table_Check x (by omega)
  have h3 := e_table_Check y (by omega)
  have h4 := e75 l n x (by omega)
  have w0 : IntKind.i64.wrap ((0 : Int) + 1) = 1 := by decide
  have w1 : IntKind.i64.wrap ((1 : Int) + 1) = 2 := by decide
  unfold errS
  simp only [f38, RB, pickV, eqbV, notV, negV, convV, faddrV, fldV, idxV, eqaggV, iaddrV, isnilV, nilckV, cloV, extrV, slenV, minV, sidxV, abin, cmpInt, params, growLists, fillCells, newAt, rdPtr, wrPtr, AV.cells, asVal, lenOf, boundOf, rowsOf, argIds, freshIn, scalar1, setAll, AV.isData, AV.isYld, Nat.reduceAdd, Nat.reduceMul, Nat.reduceSub, Nat.reduceEqDiff, Nat.reduceLeDiff, Nat.reduceLT, Int.reduceNeg, ↓reduceIte, reduceCtorEq, Int.reduceEq, Int.reduceLT, Int.reduceLE, Int.reduceBEq, Int.reduceBNe, Int.reduceToNat, IntKind.bits, Int.reduceAdd, Int.reduceSub, Int.reduceMul, Int.reduceTDiv, Int.reduceTMod, DB, DB2, DB3, h1]
  by_cases k1 : TalOk l n
  · simp only [RB, pickV, eqbV, notV, negV, convV, faddrV, fldV, idxV, eqaggV, iaddrV, isnilV, nilckV, cloV, extrV, slenV, minV, sidxV, abin, cmpInt, params, growLists, fillCells, newAt, rdPtr, wrPtr, AV.cells, asVal, lenOf, boundOf, rowsOf, argIds, freshIn, scalar1, setAll, AV.isData, AV.isYld, Nat.reduceAdd, Nat.reduceMul, Nat.reduceSub, Nat.reduceEqDiff, Nat.reduceLeDiff, Nat.reduceLT, Int.reduceNeg, ↓reduceIte, reduceCtorEq, Int.reduceEq, Int.reduceLT, Int.reduceLE, Int.reduceBEq, Int.reduceBNe, Int.reduceToNat, IntKind.bits, Int.reduceAdd, Int.reduceSub, Int.reduceMul, Int.reduceTDiv, Int.reduceTMod, DB, DB2, DB3, R7B, take_add, List.append_assoc, List.length_append, Nat.add_assoc, shrink_lit, ball_app, RG, LPB, k1, W_go, h2, bne_self_eq_false, w0]
    by_cases k2 : TabOk x
    · simp only [RB, pickV, eqbV, notV, negV, convV, faddrV, fldV, idxV, eqaggV, iaddrV, isnilV, nilckV, cloV, extrV, slenV, minV, sidxV, abin, cmpInt, params, growLists, fillCells, newAt, rdPtr, wrPtr, AV.cells, asVal, lenOf, boundOf, rowsOf, argIds, freshIn, scalar1, setAll, AV.isData, AV.isYld, Nat.reduceAdd, Nat.reduceMul, Nat.reduceSub, Nat.reduceEqDiff, Nat.reduceLeDiff, Nat.reduceLT, Int.reduceNeg, ↓reduceIte, reduceCtorEq, Int.reduceEq, Int.reduceLT, Int.reduceLE, Int.reduceBEq, Int.reduceBNe, Int.reduceToNat, IntKind.bits, Int.reduceAdd, Int.reduceSub, Int.reduceMul, Int.reduceTDiv, Int.reduceTMod, DB, DB2, DB3, R7B, take_add, List.append_assoc, List.length_append, Nat.add_assoc, shrink_lit, ball_app, RG, LPB, W_go, h2, h3, k2, bne_self_eq_false, w0, w1]
      by_cases k3 : TabOk y
      · simp only [RB, pickV, eqbV, notV, negV, convV, faddrV, fldV, idxV, eqaggV, iaddrV, isnilV, nilckV, cloV, extrV, slenV, minV, sidxV, abin, cmpInt, params, growLists, fillCells, newAt, rdPtr, wrPtr, AV.cells, asVal, lenOf, boundOf, rowsOf, argIds, freshIn, scalar1, setAll, AV.isData, AV.isYld, Nat.reduceAdd, Nat.reduceMul, Nat.reduceSub, Nat.reduceEqDiff, Nat.reduceLeDiff, Nat.reduceLT, Int.reduceNeg, ↓reduceIte, reduceCtorEq, Int.reduceEq, Int.reduceLT, Int.reduceLE, Int.reduceBEq, Int.reduceBNe, Int.reduceToNat, IntKind.bits, Int.reduceAdd, Int.reduceSub, Int.reduceMul, Int.reduceTDiv, Int.reduceTMod, DB, DB2, DB3, R7B, take_add, List.append_assoc, List.length_append, Nat.add_assoc, shrink_lit, ball_app, RG, LPB, W_go, h2, h3, h4, k3, bne_self_eq_false, w0, w1]
        by_cases k4 : l.map Cd.p = x.map Rw.p
        · simp only [RB, pickV, eqbV, notV, negV, convV, faddrV, fldV, idxV, eqaggV, iaddrV, isnilV, nilckV, cloV, extrV, slenV, minV, sidxV, abin, cmpInt, params, growLists, fillCells, newAt, rdPtr, wrPtr, AV.cells, asVal, lenOf, boundOf, rowsOf, argIds, freshIn, scalar1, setAll, AV.isData, AV.isYld, Nat.reduceAdd, Nat.reduceMul, Nat.reduceSub, Nat.reduceEqDiff, Nat.reduceLeDiff, Nat.reduceLT, Int.reduceNeg, ↓reduceIte, reduceCtorEq, Int.reduceEq, Int.reduceLT, Int.reduceLE, Int.reduceBEq, Int.reduceBNe, Int.reduceToNat, IntKind.bits, Int.reduceAdd, Int.reduceSub, Int.reduceMul, Int.reduceTDiv, Int.reduceTMod, DB, DB2, DB3, R7B, take_add, List.append_assoc, List.length_append, Nat.add_assoc, shrink_lit, ball_app, RG, LPB, k4]
        · simp only [RB, pickV, eqbV, notV, negV, convV, faddrV, fldV, idxV, eqaggV, iaddrV, isnilV, nilckV, cloV, extrV, slenV, minV, sidxV, abin, cmpInt, params, growLists, fillCells, newAt, rdPtr, wrPtr, AV.cells, asVal, lenOf, boundOf, rowsOf, argIds, freshIn, scalar1, setAll, AV.isData, AV.isYld, Nat.reduceAdd, Nat.reduceMul, Nat.reduceSub, Nat.reduceEqDiff, Nat.reduceLeDiff, Nat.reduceLT, Int.reduceNeg, ↓reduceIte, reduceCtorEq, Int.reduceEq, Int.reduceLT, Int.reduceLE, Int.reduceBEq, Int.reduceBNe, Int.reduceToNat, IntKind.bits, Int.reduceAdd, Int.reduceSub, Int.reduceMul, Int.reduceTDiv, Int.reduceTMod, DB, DB2, DB3, R7B, take_add, List.append_assoc, List.length_append, Nat.add_assoc, shrink_lit, ball_app, RG, LPB, k4]
      · simp only [RB, pickV, eqbV, notV, negV, convV, faddrV, fldV, idxV, eqaggV, iaddrV, isnilV, nilckV, cloV, extrV, slenV, minV, sidxV, abin, cmpInt, params, growLists, fillCells, newAt, rdPtr, wrPtr, AV.cells, asVal, lenOf, boundOf, rowsOf, argIds, freshIn, scalar1, setAll, AV.isData, AV.isYld, Nat.reduceAdd, Nat.reduceMul, Nat.reduceSub, Nat.reduceEqDiff, Nat.reduceLeDiff, Nat.reduceLT, Int.reduceNeg, ↓reduceIte, reduceCtorEq, Int.reduceEq, Int.reduceLT, Int.reduceLE, Int.reduceBEq, Int.reduceBNe, Int.reduceToNat, IntKind.bits, Int.reduceAdd, Int.reduceSub, Int.reduceMul, Int.reduceTDiv, Int.reduceTMod, DB, DB2, DB3, R7B, take_add, List.append_assoc, List.length_append, Nat.add_assoc, shrink_lit, ball_app, RG, LPB, k3]
    · simp only [RB, pickV, eqbV, notV, negV, convV, faddrV, fldV, idxV, eqaggV, iaddrV, isnilV, nilckV, cloV, extrV, slenV, minV, sidxV, abin, cmpInt, params, growLists, fillCells, newAt, rdPtr, wrPtr, AV.cells, asVal, lenOf, boundOf, rowsOf, argIds, freshIn, scalar1, setAll, AV.isData, AV.isYld, Nat.reduceAdd, Nat.reduceMul, Nat.reduceSub, Nat.reduceEqDiff, Nat.reduceLeDiff, Nat.reduceLT, Int.reduceNeg, ↓reduceIte, reduceCtorEq, Int.reduceEq, Int.reduceLT, Int.reduceLE, Int.reduceBEq, Int.reduceBNe, Int.reduceToNat, IntKind.bits, Int.reduceAdd, Int.reduceSub, Int.reduceMul, Int.reduceTDiv, Int.reduceTMod, DB, DB2, DB3, R7B, take_add, List.append_assoc, List.length_append, Nat.add_assoc, shrink_lit, ball_app, RG, LPB, k2]
  · simp only [RB, pickV, eqbV, notV, negV, convV, faddrV, fldV, idxV, eqaggV, iaddrV, isnilV, nilckV, cloV, extrV, slenV, minV, sidxV, abin, cmpInt, params, growLists, fillCells, newAt, rdPtr, wrPtr, AV.cells, asVal, lenOf, boundOf, rowsOf, argIds, freshIn, scalar1, setAll, AV.isData, AV.isYld, Nat.reduceAdd, Nat.reduceMul, Nat.reduceSub, Nat.reduceEqDiff, Nat.reduceLeDiff, Nat.reduceLT, Int.reduceNeg, ↓reduceIte, reduceCtorEq, Int.reduceEq, Int.reduceLT, Int.reduceLE, Int.reduceBEq, Int.reduceBNe, Int.reduceToNat, IntKind.bits, Int.reduceAdd, Int.reduceSub, Int.reduceMul, Int.reduceTDiv, Int.reduceTMod, DB, DB2, DB3, R7B, take_add, List.append_assoc, List.length_append, Nat.add_assoc, shrink_lit, ball_app, RG, LPB, k1]
/-- A tally that is told of: its cells. -/
def talR (l : List Cd) (n : Cnt) : AV := .agg (.ro (drows l) :: nav n)
theorem e14 (x : List Rw) (hx : x.length ≤ 1000000) : LV E 14 [.agg [.ro (rrows x)]] = some (if TabOk x then .tup [.agg (.ro (drows (zeroS x)) :: nav zerN), .int .i64 0] else .tup [.agg (.ro (drows []) :: nav zerN), .int .i64 190]) := by
  rw [LV_R (fn := f14) rfl rfl rfl]
  have h2 := e_table_Check x (by omega)
  simp only [f14, ← nav_zer, RB, pickV, eqbV, notV, negV, convV, faddrV, fldV, idxV, eqaggV, iaddrV, isnilV, nilckV, cloV, extrV, slenV, minV, sidxV, abin, cmpInt, params, growLists, fillCells, newAt, rdPtr, wrPtr, AV.cells, asVal, lenOf, boundOf, rowsOf, argIds, freshIn, scalar1, setAll, AV.isData, AV.isYld, Nat.reduceAdd, Nat.reduceMul, Nat.reduceSub, Nat.reduceEqDiff, Nat.reduceLeDiff, Nat.reduceLT, Int.reduceNeg, ↓reduceIte, reduceCtorEq, Int.reduceEq, Int.reduceLT, Int.reduceLE, Int.reduceBEq, Int.reduceBNe, Int.reduceToNat, IntKind.bits, Int.reduceAdd, Int.reduceSub, Int.reduceMul, Int.reduceTDiv, Int.reduceTMod, DB, DB2, DB3, h2]
  by_cases k2 : TabOk x
  · simp only [RB, pickV, eqbV, notV, negV, convV, faddrV, fldV, idxV, eqaggV, iaddrV, isnilV, nilckV, cloV, extrV, slenV, minV, sidxV, abin, cmpInt, params, growLists, fillCells, newAt, rdPtr, wrPtr, AV.cells, asVal, lenOf, boundOf, rowsOf, argIds, freshIn, scalar1, setAll, AV.isData, AV.isYld, Nat.reduceAdd, Nat.reduceMul, Nat.reduceSub, Nat.reduceEqDiff, Nat.reduceLeDiff, Nat.reduceLT, Int.reduceNeg, ↓reduceIte, reduceCtorEq, Int.reduceEq, Int.reduceLT, Int.reduceLE, Int.reduceBEq, Int.reduceBNe, Int.reduceToNat, IntKind.bits, Int.reduceAdd, Int.reduceSub, Int.reduceMul, Int.reduceTDiv, Int.reduceTMod, DB, DB2, DB3, R7B, k2, bne_self_eq_false, e46 x hx, expRes_aggm, expCell, List.nodup_cons, List.nodup_nil, List.not_mem_nil, not_false_eq_true, not_true_eq_false, and_true, and_false, if_false, List.mem_cons, mutIds]
  · simp only [RB, pickV, eqbV, notV, negV, convV, faddrV, fldV, idxV, eqaggV, iaddrV, isnilV, nilckV, cloV, extrV, slenV, minV, sidxV, abin, cmpInt, params, growLists, fillCells, newAt, rdPtr, wrPtr, AV.cells, asVal, lenOf, boundOf, rowsOf, argIds, freshIn, scalar1, setAll, AV.isData, AV.isYld, Nat.reduceAdd, Nat.reduceMul, Nat.reduceSub, Nat.reduceEqDiff, Nat.reduceLeDiff, Nat.reduceLT, Int.reduceNeg, ↓reduceIte, reduceCtorEq, Int.reduceEq, Int.reduceLT, Int.reduceLE, Int.reduceBEq, Int.reduceBNe, Int.reduceToNat, IntKind.bits, Int.reduceAdd, Int.reduceSub, Int.reduceMul, Int.reduceTDiv, Int.reduceTMod, DB, DB2, DB3, R7B, k2, expRes_aggm, expCell, List.nodup_cons, List.nodup_nil, List.not_mem_nil, not_false_eq_true, not_true_eq_false, and_true, and_false, if_false, List.mem_cons, mutIds]
end Go.Proofs.YtdllnneeopbmdaaDoor.F

/- A packet that passes: by the program and by the document. No condition. -/
set_option linter.unusedSimpArgs false
namespace Go.Proofs.YtdllnneeopbmdaaDoor.D
open Go Go.Proofs.YtdllnneeopbmdaaDoor.A
/-- The place of the best row up to k; below 0: none. -/
def stepI (H : Pfx → Bool) (x : List Rw) (best : Int) (i : Nat) : Int := if H (row x i).p = true ∧ (best < 0 ∨ (row x best.toNat).p.bits < (row x i).p.bits) then (i : Int) else best
def bestI (H : Pfx → Bool) (x : List Rw) : Nat → Int
  | 0 => -1
  | k + 1 => stepI H x (bestI H x k) k
theorem bestI_lt (H : Pfx → Bool) (x : List Rw) : ∀ k, bestI H x k = -1 ∨ 0 ≤ bestI H x k ∧ bestI H x k < k
  | 0 => .inl rfl
  | k + 1 => by
    have := bestI_lt H x k
    simp only [bestI, stepI]
    split <;> omega
def hasB (a : Adr) (p : Pfx) : Bool := decide (Has p a)
theorem step_better (a : Adr) (x : List Rw) (b : Int) (k : Nat) : better a (if b < 0 then none else some (row x b.toNat)) (row x k) = if stepI (hasB a) x b k < 0 then none else some (row x (stepI (hasB a) x b k).toNat) := by
  unfold stepI better hasB
  by_cases h1 : Has (row x k).p a
  · by_cases h2 : b < 0
    · simp [h1, h2]
    · by_cases h3 : (row x b.toNat).p.bits < (row x k).p.bits
      · simp [h1, h2, h3]
      · simp [h1, h2, h3]
  · simp [h1]
theorem longS_best (a : Adr) (x : List Rw) : ∀ k, k ≤ x.length → longS a (x.take k) none = if bestI (hasB a) x k < 0 then none else some (row x (bestI (hasB a) x k).toNat)
  | 0, _ => rfl
  | k + 1, h => by
    have ih := longS_best a x k (by omega)
    rw [List.take_add_one, row_some x h]
    unfold longS at *
    rw [List.foldl_append, ih]
    exact step_better a x (bestI (hasB a) x k) k
/-- What passing comes to. -/
def passS (l : List Cd) (n : Cnt) (x : List Rw) (a : Adr) (b : Int) : (List Cd × Cnt) × Int :=
  if errS l n x x = 0 then if AddrOk a then if 4611686018427387904 < b then (([], zerN), 2)
    else ((giveS l (bestI (hasB a) x x.length) ⟨1, b⟩, if bestI (hasB a) x x.length < 0 then plusN n ⟨1, b⟩ else n), 0)
  else (([], zerN), 150) else (([], zerN), errS l n x x)
def tupS (r : (List Cd × Cnt) × Int) : AV := .tup [.agg (.ro (drows r.1.1) :: nav r.1.2), .int .i64 r.2]
theorem nav_mk (a b : Int) : [AV.int .u64 a, AV.int .u64 b] = nav ⟨a, b⟩ := rfl
end Go.Proofs.YtdllnneeopbmdaaDoor.D
namespace Go.Proofs.YtdllnneeopbmdaaDoor.F
open Go Go.Proofs.YtdllnneeopbmdaaDoor.A Go.Proofs.YtdllnneeopbmdaaDoor.D
theorem e13 (l : List Cd) (n : Cnt) (x : List Rw) (a : Adr) (b : Int) (hl : l.length ≤ 1000000) (hx : x.length ≤ 1000000) : LV E 13 [.agg (.ro (drows l) :: nav n), .agg [.ro (rrows x)], .agg (aav a), .int .u64 b] = some (tupS (passS l n x a b)) := by
  rw [LV_R (fn := f13) rfl rfl rfl]
  have h42 := e42 l n x x hl hx hx
  simp only [f13, ← nav_zer, RB, pickV, eqbV, notV, negV, convV, faddrV, fldV, idxV, eqaggV, iaddrV, isnilV, nilckV, cloV, extrV, slenV, minV, sidxV, abin, cmpInt, params, growLists, fillCells, newAt, rdPtr, wrPtr, AV.cells, asVal, lenOf, boundOf, rowsOf, argIds, freshIn, scalar1, setAll, AV.isData, AV.isYld, Nat.reduceAdd, Nat.reduceMul, Nat.reduceSub, Nat.reduceEqDiff, Nat.reduceLeDiff, Nat.reduceLT, Int.reduceNeg, ↓reduceIte, reduceCtorEq, Int.reduceEq, Int.reduceLT, Int.reduceLE, Int.reduceBEq, Int.reduceBNe, Int.reduceToNat, IntKind.bits, Int.reduceAdd, Int.reduceSub, Int.reduceMul, Int.reduceTDiv, Int.reduceTMod, DB, DB2, DB3, h42]
  unfold passS
  by_cases k1 : errS l n x x = 0
  · simp only [RB, pickV, eqbV, notV, negV, convV, faddrV, fldV, idxV, eqaggV, iaddrV, isnilV, nilckV, cloV, extrV, slenV, minV, sidxV, abin, cmpInt, params, growLists, fillCells, newAt, rdPtr, wrPtr, AV.cells, asVal, lenOf, boundOf, rowsOf, argIds, freshIn, scalar1, setAll, AV.isData, AV.isYld, Nat.reduceAdd, Nat.reduceMul, Nat.reduceSub, Nat.reduceEqDiff, Nat.reduceLeDiff, Nat.reduceLT, Int.reduceNeg, ↓reduceIte, reduceCtorEq, Int.reduceEq, Int.reduceLT, Int.reduceLE, Int.reduceBEq, Int.reduceBNe, Int.reduceToNat, IntKind.bits, Int.reduceAdd, Int.reduceSub, Int.reduceMul, Int.reduceTDiv, Int.reduceTMod, DB, DB2, DB3, R7B, k1, bne_self_eq_false, e_ref05_RightAddr]
    by_cases k2 : AddrOk a
    · by_cases k3 : 4611686018427387904 < b
      · simp only [RB, pickV, eqbV, notV, negV, convV, faddrV, fldV, idxV, eqaggV, iaddrV, isnilV, nilckV, cloV, extrV, slenV, minV, sidxV, abin, cmpInt, params, growLists, fillCells, newAt, rdPtr, wrPtr, AV.cells, asVal, lenOf, boundOf, rowsOf, argIds, freshIn, scalar1, setAll, AV.isData, AV.isYld, Nat.reduceAdd, Nat.reduceMul, Nat.reduceSub, Nat.reduceEqDiff, Nat.reduceLeDiff, Nat.reduceLT, Int.reduceNeg, ↓reduceIte, reduceCtorEq, Int.reduceEq, Int.reduceLT, Int.reduceLE, Int.reduceBEq, Int.reduceBNe, Int.reduceToNat, IntKind.bits, Int.reduceAdd, Int.reduceSub, Int.reduceMul, Int.reduceTDiv, Int.reduceTMod, DB, DB2, DB3, R7B, k2, k3, tupS, expCell, List.nodup_cons, List.nodup_nil, List.not_mem_nil, not_false_eq_true, not_true_eq_false, and_true, and_false, if_false, List.mem_cons, mutIds]
      · simp only [RB, pickV, eqbV, notV, negV, convV, faddrV, fldV, idxV, eqaggV, iaddrV, isnilV, nilckV, cloV, extrV, slenV, minV, sidxV, abin, cmpInt, params, growLists, fillCells, newAt, rdPtr, wrPtr, AV.cells, asVal, lenOf, boundOf, rowsOf, argIds, freshIn, scalar1, setAll, AV.isData, AV.isYld, Nat.reduceAdd, Nat.reduceMul, Nat.reduceSub, Nat.reduceEqDiff, Nat.reduceLeDiff, Nat.reduceLT, Int.reduceNeg, ↓reduceIte, reduceCtorEq, Int.reduceEq, Int.reduceLT, Int.reduceLE, Int.reduceBEq, Int.reduceBNe, Int.reduceToNat, IntKind.bits, Int.reduceAdd, Int.reduceSub, Int.reduceMul, Int.reduceTDiv, Int.reduceTMod, DB, DB2, DB3, R7B, k2, k3]
        refine (W_rec2 (β := AV) (ι := {k : Nat // k ≤ x.length}) (M := fun k => [(3, .int .u64 b), (4, .ptr 0 0 0 0), (5, .ptr 1 0 0 0), (6, .ptr 2 0 0 0), (8, .ptr 3 0 0 0), (11, .int .i64 (bestI (hasB a) x k.1)), (12, .int .i64 (k.1 : Int))])
          (H := fun _ => ⟨[.box 0 27 (.ro (drows l) :: nav n), .box 0 30 [.ro (rrows x)], .box 0 33 (aav a), .box 0 27 (.lis 4 0 0 0 :: nav zerN), .lst 0 0 60 20 []], []⟩)
          (r := fun _ => some (tupS ((giveS l (bestI (hasB a) x x.length) ⟨1, b⟩, if bestI (hasB a) x x.length < 0 then plusN n ⟨1, b⟩ else n), 0))) (μ := fun k => x.length - k.1) (fun k => ?_) (fun k ih => ?_) ⟨0, Nat.zero_le _⟩ rfl rfl)
        · simp [LPB, nav_below]
        · obtain ⟨k, hkx⟩ := k
          simp only at ih ⊢
          by_cases hk : k < x.length
          · have f1 : (k : Int) < (x.length : Int) := by omega
            have f2 : (0 : Int) ≤ (k : Int) := by omega
            have f6 : IntKind.i64.wrap ((k : Int) + 1) = ((k + 1 : Nat) : Int) := by rw [IntWalk.i64_in _ (by omega)] <;> omega
            have g1 := rrows_get x hk
            have ih := ih ⟨k + 1, by omega⟩ (by simp only; omega)
            have hlt := bestI_lt (hasB a) x k
            simp only [bestI] at ih
            generalize bestI (hasB a) x k = c at *
            by_cases h1 : Has (row x k).p a
            · by_cases h2 : c < 0
              · have e : stepI (hasB a) x c k = (k : Int) := if_pos ⟨decide_eq_true h1, .inl h2⟩
                rw [e] at ih
                simp only [RB, pickV, eqbV, notV, negV, convV, faddrV, fldV, idxV, eqaggV, iaddrV, isnilV, nilckV, cloV, extrV, slenV, minV, sidxV, abin, cmpInt, params, growLists, fillCells, newAt, rdPtr, wrPtr, AV.cells, asVal, lenOf, boundOf, rowsOf, argIds, freshIn, scalar1, setAll, AV.isData, AV.isYld, Nat.reduceAdd, Nat.reduceMul, Nat.reduceSub, Nat.reduceEqDiff, Nat.reduceLeDiff, Nat.reduceLT, Int.reduceNeg, ↓reduceIte, reduceCtorEq, Int.reduceEq, Int.reduceLT, Int.reduceLE, Int.reduceBEq, Int.reduceBNe, Int.reduceToNat, IntKind.bits, Int.reduceAdd, Int.reduceSub, Int.reduceMul, Int.reduceTDiv, Int.reduceTMod, DB, DB2, DB3, R7B, take_add, List.append_assoc, List.length_append, Nat.add_assoc, shrink_lit, ball_app, RG, LPB, f1, f2, f6, g1, e_ref05_Has, h1, h2]
                exact ih
              · obtain ⟨d, rfl⟩ : ∃ d : Nat, c = d := ⟨c.toNat, by omega⟩
                have g2 := rrows_get x (show d < x.length by omega)
                have f3 : (0 : Int) ≤ (d : Int) := by omega
                by_cases h3 : (row x d).p.bits < (row x k).p.bits
                · have e : stepI (hasB a) x d k = (k : Int) := if_pos ⟨decide_eq_true h1, .inr (by simpa using h3)⟩
                  rw [e] at ih
                  simp only [RB, pickV, eqbV, notV, negV, convV, faddrV, fldV, idxV, eqaggV, iaddrV, isnilV, nilckV, cloV, extrV, slenV, minV, sidxV, abin, cmpInt, params, growLists, fillCells, newAt, rdPtr, wrPtr, AV.cells, asVal, lenOf, boundOf, rowsOf, argIds, freshIn, scalar1, setAll, AV.isData, AV.isYld, Nat.reduceAdd, Nat.reduceMul, Nat.reduceSub, Nat.reduceEqDiff, Nat.reduceLeDiff, Nat.reduceLT, Int.reduceNeg, ↓reduceIte, reduceCtorEq, Int.reduceEq, Int.reduceLT, Int.reduceLE, Int.reduceBEq, Int.reduceBNe, Int.reduceToNat, IntKind.bits, Int.reduceAdd, Int.reduceSub, Int.reduceMul, Int.reduceTDiv, Int.reduceTMod, DB, DB2, DB3, R7B, take_add, List.append_assoc, List.length_append, Nat.add_assoc, shrink_lit, ball_app, RG, LPB, f1, f2, f3, f6, g1, g2, e_ref05_Has, h1, h2, h3]
                  exact ih
                · have e : stepI (hasB a) x d k = (d : Int) := if_neg fun h => by
                    rcases h.2 with h | h
                    · exact h2 h
                    · exact h3 (by simpa using h)
                  rw [e] at ih
                  simp only [RB, pickV, eqbV, notV, negV, convV, faddrV, fldV, idxV, eqaggV, iaddrV, isnilV, nilckV, cloV, extrV, slenV, minV, sidxV, abin, cmpInt, params, growLists, fillCells, newAt, rdPtr, wrPtr, AV.cells, asVal, lenOf, boundOf, rowsOf, argIds, freshIn, scalar1, setAll, AV.isData, AV.isYld, Nat.reduceAdd, Nat.reduceMul, Nat.reduceSub, Nat.reduceEqDiff, Nat.reduceLeDiff, Nat.reduceLT, Int.reduceNeg, ↓reduceIte, reduceCtorEq, Int.reduceEq, Int.reduceLT, Int.reduceLE, Int.reduceBEq, Int.reduceBNe, Int.reduceToNat, IntKind.bits, Int.reduceAdd, Int.reduceSub, Int.reduceMul, Int.reduceTDiv, Int.reduceTMod, DB, DB2, DB3, R7B, take_add, List.append_assoc, List.length_append, Nat.add_assoc, shrink_lit, ball_app, RG, LPB, f1, f2, f3, f6, g1, g2, e_ref05_Has, h1, h2, h3]
                  exact ih
            · have e : stepI (hasB a) x c k = c := if_neg fun h => h1 (of_decide_eq_true h.1)
              rw [e] at ih
              simp only [RB, pickV, eqbV, notV, negV, convV, faddrV, fldV, idxV, eqaggV, iaddrV, isnilV, nilckV, cloV, extrV, slenV, minV, sidxV, abin, cmpInt, params, growLists, fillCells, newAt, rdPtr, wrPtr, AV.cells, asVal, lenOf, boundOf, rowsOf, argIds, freshIn, scalar1, setAll, AV.isData, AV.isYld, Nat.reduceAdd, Nat.reduceMul, Nat.reduceSub, Nat.reduceEqDiff, Nat.reduceLeDiff, Nat.reduceLT, Int.reduceNeg, ↓reduceIte, reduceCtorEq, Int.reduceEq, Int.reduceLT, Int.reduceLE, Int.reduceBEq, Int.reduceBNe, Int.reduceToNat, IntKind.bits, Int.reduceAdd, Int.reduceSub, Int.reduceMul, Int.reduceTDiv, Int.reduceTMod, DB, DB2, DB3, R7B, take_add, List.append_assoc, List.length_append, Nat.add_assoc, shrink_lit, ball_app, RG, LPB, f1, f2, f6, g1, e_ref05_Has, h1]
              exact ih
          · have e : k = x.length := by omega
            subst e
            have h45 := e45 l hl n ⟨1, b⟩ (bestI (hasB a) x x.length)
            simp only [RB, pickV, eqbV, notV, negV, convV, faddrV, fldV, idxV, eqaggV, iaddrV, isnilV, nilckV, cloV, extrV, slenV, minV, sidxV, abin, cmpInt, params, growLists, fillCells, newAt, rdPtr, wrPtr, AV.cells, asVal, lenOf, boundOf, rowsOf, argIds, freshIn, scalar1, setAll, AV.isData, AV.isYld, Nat.reduceAdd, Nat.reduceMul, Nat.reduceSub, Nat.reduceEqDiff, Nat.reduceLeDiff, Nat.reduceLT, Int.reduceNeg, ↓reduceIte, reduceCtorEq, Int.reduceEq, Int.reduceLT, Int.reduceLE, Int.reduceBEq, Int.reduceBNe, Int.reduceToNat, IntKind.bits, Int.reduceAdd, Int.reduceSub, Int.reduceMul, Int.reduceTDiv, Int.reduceTMod, DB, DB2, DB3, R7B, show ¬ (x.length : Int) < (x.length : Int) by omega, h45, tupS, expCell, List.nodup_cons, List.nodup_nil, List.not_mem_nil, not_false_eq_true, not_true_eq_false, and_true, and_false, if_false, List.mem_cons, mutIds]
    · simp only [RB, pickV, eqbV, notV, negV, convV, faddrV, fldV, idxV, eqaggV, iaddrV, isnilV, nilckV, cloV, extrV, slenV, minV, sidxV, abin, cmpInt, params, growLists, fillCells, newAt, rdPtr, wrPtr, AV.cells, asVal, lenOf, boundOf, rowsOf, argIds, freshIn, scalar1, setAll, AV.isData, AV.isYld, Nat.reduceAdd, Nat.reduceMul, Nat.reduceSub, Nat.reduceEqDiff, Nat.reduceLeDiff, Nat.reduceLT, Int.reduceNeg, ↓reduceIte, reduceCtorEq, Int.reduceEq, Int.reduceLT, Int.reduceLE, Int.reduceBEq, Int.reduceBNe, Int.reduceToNat, IntKind.bits, Int.reduceAdd, Int.reduceSub, Int.reduceMul, Int.reduceTDiv, Int.reduceTMod, DB, DB2, DB3, R7B, k2, tupS, expCell, List.nodup_cons, List.nodup_nil, List.not_mem_nil, not_false_eq_true, not_true_eq_false, and_true, and_false, if_false, List.mem_cons, mutIds]
  · simp only [RB, pickV, eqbV, notV, negV, convV, faddrV, fldV, idxV, eqaggV, iaddrV, isnilV, nilckV, cloV, extrV, slenV, minV, sidxV, abin, cmpInt, params, growLists, fillCells, newAt, rdPtr, wrPtr, AV.cells, asVal, lenOf, boundOf, rowsOf, argIds, freshIn, scalar1, setAll, AV.isData, AV.isYld, Nat.reduceAdd, Nat.reduceMul, Nat.reduceSub, Nat.reduceEqDiff, Nat.reduceLeDiff, Nat.reduceLT, Int.reduceNeg, ↓reduceIte, reduceCtorEq, Int.reduceEq, Int.reduceLT, Int.reduceLE, Int.reduceBEq, Int.reduceBNe, Int.reduceToNat, IntKind.bits, Int.reduceAdd, Int.reduceSub, Int.reduceMul, Int.reduceTDiv, Int.reduceTMod, DB, DB2, DB3, R7B, bne_iff_ne.2 k1, k1, tupS, expCell, List.nodup_cons, List.nodup_nil, List.not_mem_nil, not_false_eq_true, not_true_eq_false, and_true, and_false, if_false, List.mem_cons, mutIds]
end Go.Proofs.YtdllnneeopbmdaaDoor.F

/- A packet that passes: by the program. No condition. -/
set_option linter.unusedSimpArgs false
namespace Go.Proofs.YtdllnneeopbmdaaDoor.D
open Go Go.Proofs.YtdllnneeopbmdaaDoor.A
theorem errS_zero {l : List Cd} {n : Cnt} {x y : List Rw} (h : errS l n x y = 0) : TalOk l n ∧ TabOk x ∧ TabOk y ∧ l.map Cd.p = x.map Rw.p := by
  unfold errS at h
  by_cases k1 : TalOk l n
  · by_cases k2 : TabOk x
    · by_cases k3 : TabOk y
      · by_cases k4 : l.map Cd.p = x.map Rw.p
        · exact ⟨k1, k2, k3, k4⟩
        · simp [k1, k2, k3, k4] at h
      · simp [k1, k2, k3] at h
    · simp [k1, k2] at h
  · simp [k1] at h
theorem of_dow {l : List Cd} {x : List Rw} (h : l.map Cd.p = x.map Rw.p) {i : Nat} (hi : i < x.length) : i < l.length ∧ (dow l i).p = (row x i).p := by
  have hl : l.length = x.length := by simpa using congrArg List.length h
  refine ⟨by omega, ?_⟩
  have := congrArg (·[i]?) h
  simp only [List.getElem?_map, dow_some l (show i < l.length by omega), row_some x hi] at this
  simpa using this
end Go.Proofs.YtdllnneeopbmdaaDoor.D
namespace Go.Proofs.YtdllnneeopbmdaaDoor.F
open Go Go.Proofs.YtdllnneeopbmdaaDoor.A Go.Proofs.YtdllnneeopbmdaaDoor.D
theorem e40 (l : List Cd) (hl : l.length ≤ 1000000) : LV E 40 [.ro (drows l)] = some (.fresh 60 20 (drows l)) := by
  rw [LV_prim (p := pClone 60 20 48) rfl]
  have h : ((drows l).all fun r => r.length == 20) = true := by
    rw [List.all_eq_true]; intro r hr
    obtain ⟨p, _, rfl⟩ := List.mem_map.1 hr
    simp [dav_len]
  have h2 : (drows l).length * 48 ≤ 140737488355328 := by rw [drows_len]; omega
  simp only [pClone, rowsOf, h, h2, true_and, show 0 < 20 by omega, and_self, if_true, Option.bind_some, expRes_lis, expCell, List.getElem?_cons_zero, Nat.zero_add, Nat.le_refl, List.drop_zero, List.take_length]
theorem e12 (l : List Cd) (n : Cnt) (x : List Rw) (a : Adr) (b : Int) (hl : l.length ≤ 1000000) (hx : x.length ≤ 1000000) : LV E 12 [.agg (.ro (drows l) :: nav n), .agg [.ro (rrows x)], .agg (aav a), .int .u64 b] = some (tupS (passS l n x a b)) := by
  rw [LV_R (fn := f12) rfl rfl rfl]
  have h38 := e38a l n x hl hx
  have h39 := e_table_Longest x hx a
  have h40 := e40 l hl
  simp only [f12, ← nav_zer, ← rav_zer, RB, pickV, eqbV, notV, negV, convV, faddrV, fldV, idxV, eqaggV, iaddrV, isnilV, nilckV, cloV, extrV, slenV, minV, sidxV, abin, cmpInt, params, growLists, fillCells, newAt, rdPtr, wrPtr, AV.cells, asVal, lenOf, boundOf, rowsOf, argIds, freshIn, scalar1, setAll, AV.isData, AV.isYld, Nat.reduceAdd, Nat.reduceMul, Nat.reduceSub, Nat.reduceEqDiff, Nat.reduceLeDiff, Nat.reduceLT, Int.reduceNeg, ↓reduceIte, reduceCtorEq, Int.reduceEq, Int.reduceLT, Int.reduceLE, Int.reduceBEq, Int.reduceBNe, Int.reduceToNat, IntKind.bits, Int.reduceAdd, Int.reduceSub, Int.reduceMul, Int.reduceTDiv, Int.reduceTMod, DB, DB2, DB3, O_buildSlq, quietOk, aop_buildSl, fillRows, asData, aappend, h38]
  unfold passS
  by_cases k1 : errS l n x x = 0
  · obtain ⟨t1, t2, t3, t4⟩ := errS_zero k1
    have hll : l.length = x.length := by simpa using congrArg List.length t4
    rw [if_pos t2] at h39
    simp only [RB, pickV, eqbV, notV, negV, convV, faddrV, fldV, idxV, eqaggV, iaddrV, isnilV, nilckV, cloV, extrV, slenV, minV, sidxV, abin, cmpInt, params, growLists, fillCells, newAt, rdPtr, wrPtr, AV.cells, asVal, lenOf, boundOf, rowsOf, argIds, freshIn, scalar1, setAll, AV.isData, AV.isYld, Nat.reduceAdd, Nat.reduceMul, Nat.reduceSub, Nat.reduceEqDiff, Nat.reduceLeDiff, Nat.reduceLT, Int.reduceNeg, ↓reduceIte, reduceCtorEq, Int.reduceEq, Int.reduceLT, Int.reduceLE, Int.reduceBEq, Int.reduceBNe, Int.reduceToNat, IntKind.bits, Int.reduceAdd, Int.reduceSub, Int.reduceMul, Int.reduceTDiv, Int.reduceTMod, DB, DB2, DB3, R7B, k1, bne_self_eq_false, h39]
    by_cases k2 : AddrOk a
    · by_cases k3 : 4611686018427387904 < b
      · simp only [RB, pickV, eqbV, notV, negV, convV, faddrV, fldV, idxV, eqaggV, iaddrV, isnilV, nilckV, cloV, extrV, slenV, minV, sidxV, abin, cmpInt, params, growLists, fillCells, newAt, rdPtr, wrPtr, AV.cells, asVal, lenOf, boundOf, rowsOf, argIds, freshIn, scalar1, setAll, AV.isData, AV.isYld, Nat.reduceAdd, Nat.reduceMul, Nat.reduceSub, Nat.reduceEqDiff, Nat.reduceLeDiff, Nat.reduceLT, Int.reduceNeg, ↓reduceIte, reduceCtorEq, Int.reduceEq, Int.reduceLT, Int.reduceLE, Int.reduceBEq, Int.reduceBNe, Int.reduceToNat, IntKind.bits, Int.reduceAdd, Int.reduceSub, Int.reduceMul, Int.reduceTDiv, Int.reduceTMod, DB, DB2, DB3, R7B, k2, k3, bne_self_eq_false, tupS, expCell, List.nodup_cons, List.nodup_nil, List.not_mem_nil, not_false_eq_true, not_true_eq_false, and_true, and_false, if_false, List.mem_cons, mutIds]
      · have hlong := longS_best a x x.length (Nat.le_refl _)
        rw [List.take_length] at hlong
        have hlt := bestI_lt (hasB a) x x.length
        simp only [hlong]
        generalize bestI (hasB a) x x.length = c at *
        have r41 := fun p there t ht => r41 (ys := []) (pend := []) (a := 0) (L := 7) (g := 0) (l := l) (bs := [.box 0 27 (.lis 7 0 0 l.length :: nav n), .box 0 30 [.ro (rrows x)], .box 0 33 (aav a), .box 0 27 (.lis 4 0 0 0 :: nav zerN), .lst 0 0 60 20 [], .dead, .box 0 85 (rav ((if c < 0 then none else some (row x c.toNat)).getD zerR)), .lst 0 0 60 20 (drows l)]) n ⟨1, b⟩ p there hl rfl rfl (by simp [LPB, nav_below]) t1.2.rise t ht
        by_cases k4 : c < 0
        · obtain ⟨e, h⟩ := r41 zerR.p false 0 (fun h => by cases h)
          simp only [k4, if_true, Option.getD_none, List.cons_append, Bool.false_eq_true, if_false] at h
          simp only [RB, pickV, eqbV, notV, negV, convV, faddrV, fldV, idxV, eqaggV, iaddrV, isnilV, nilckV, cloV, extrV, slenV, minV, sidxV, abin, cmpInt, params, growLists, fillCells, newAt, rdPtr, wrPtr, AV.cells, asVal, lenOf, boundOf, rowsOf, argIds, freshIn, scalar1, setAll, AV.isData, AV.isYld, Nat.reduceAdd, Nat.reduceMul, Nat.reduceSub, Nat.reduceEqDiff, Nat.reduceLeDiff, Nat.reduceLT, Int.reduceNeg, ↓reduceIte, reduceCtorEq, Int.reduceEq, Int.reduceLT, Int.reduceLE, Int.reduceBEq, Int.reduceBNe, Int.reduceToNat, IntKind.bits, Int.reduceAdd, Int.reduceSub, Int.reduceMul, Int.reduceTDiv, Int.reduceTMod, DB, DB2, DB3, R7B, take_add, List.append_assoc, List.length_append, Nat.add_assoc, shrink_lit, ball_app, RG, LPB, k2, k3, k4, bne_self_eq_false, h40, nav_mk, Option.getD_none, Option.isSome_none, h, tupS, giveS, List.take_length, expCell, List.nodup_cons, List.nodup_nil, List.not_mem_nil, not_false_eq_true, not_true_eq_false, and_true, and_false, if_false, List.mem_cons, mutIds]
        · obtain ⟨u1, u2⟩ := of_dow t4 (show c.toNat < x.length by omega)
          obtain ⟨e, h⟩ := r41 (row x c.toNat).p true c.toNat (fun _ => ⟨u1, u2⟩)
          have h3 : (giveAt l c.toNat ⟨1, b⟩).take l.length = giveAt l c.toNat ⟨1, b⟩ := by rw [← giveAt_len l c.toNat ⟨1, b⟩, List.take_length]
          simp only [k4, if_false, Option.getD_some, List.cons_append, if_true] at h
          simp only [RB, pickV, eqbV, notV, negV, convV, faddrV, fldV, idxV, eqaggV, iaddrV, isnilV, nilckV, cloV, extrV, slenV, minV, sidxV, abin, cmpInt, params, growLists, fillCells, newAt, rdPtr, wrPtr, AV.cells, asVal, lenOf, boundOf, rowsOf, argIds, freshIn, scalar1, setAll, AV.isData, AV.isYld, Nat.reduceAdd, Nat.reduceMul, Nat.reduceSub, Nat.reduceEqDiff, Nat.reduceLeDiff, Nat.reduceLT, Int.reduceNeg, ↓reduceIte, reduceCtorEq, Int.reduceEq, Int.reduceLT, Int.reduceLE, Int.reduceBEq, Int.reduceBNe, Int.reduceToNat, IntKind.bits, Int.reduceAdd, Int.reduceSub, Int.reduceMul, Int.reduceTDiv, Int.reduceTMod, DB, DB2, DB3, R7B, take_add, List.append_assoc, List.length_append, Nat.add_assoc, shrink_lit, ball_app, RG, LPB, k2, k3, k4, bne_self_eq_false, h40, nav_mk, Option.getD_some, Option.isSome_some, h, tupS, giveS, giveAt_len, h3, expCell, List.nodup_cons, List.nodup_nil, List.not_mem_nil, not_false_eq_true, not_true_eq_false, and_true, and_false, if_false, List.mem_cons, mutIds]
    · simp only [RB, pickV, eqbV, notV, negV, convV, faddrV, fldV, idxV, eqaggV, iaddrV, isnilV, nilckV, cloV, extrV, slenV, minV, sidxV, abin, cmpInt, params, growLists, fillCells, newAt, rdPtr, wrPtr, AV.cells, asVal, lenOf, boundOf, rowsOf, argIds, freshIn, scalar1, setAll, AV.isData, AV.isYld, Nat.reduceAdd, Nat.reduceMul, Nat.reduceSub, Nat.reduceEqDiff, Nat.reduceLeDiff, Nat.reduceLT, Int.reduceNeg, ↓reduceIte, reduceCtorEq, Int.reduceEq, Int.reduceLT, Int.reduceLE, Int.reduceBEq, Int.reduceBNe, Int.reduceToNat, IntKind.bits, Int.reduceAdd, Int.reduceSub, Int.reduceMul, Int.reduceTDiv, Int.reduceTMod, DB, DB2, DB3, R7B, k2, tupS, expCell, List.nodup_cons, List.nodup_nil, List.not_mem_nil, not_false_eq_true, not_true_eq_false, and_true, and_false, if_false, List.mem_cons, mutIds]
  · simp only [RB, pickV, eqbV, notV, negV, convV, faddrV, fldV, idxV, eqaggV, iaddrV, isnilV, nilckV, cloV, extrV, slenV, minV, sidxV, abin, cmpInt, params, growLists, fillCells, newAt, rdPtr, wrPtr, AV.cells, asVal, lenOf, boundOf, rowsOf, argIds, freshIn, scalar1, setAll, AV.isData, AV.isYld, Nat.reduceAdd, Nat.reduceMul, Nat.reduceSub, Nat.reduceEqDiff, Nat.reduceLeDiff, Nat.reduceLT, Int.reduceNeg, ↓reduceIte, reduceCtorEq, Int.reduceEq, Int.reduceLT, Int.reduceLE, Int.reduceBEq, Int.reduceBNe, Int.reduceToNat, IntKind.bits, Int.reduceAdd, Int.reduceSub, Int.reduceMul, Int.reduceTDiv, Int.reduceTMod, DB, DB2, DB3, R7B, bne_iff_ne.2 k1, k1, tupS, expCell, List.nodup_cons, List.nodup_nil, List.not_mem_nil, not_false_eq_true, not_true_eq_false, and_true, and_false, if_false, List.mem_cons, mutIds]
end Go.Proofs.YtdllnneeopbmdaaDoor.F

/- All of a tally; does the layer do anything? No condition. -/
set_option linter.unusedSimpArgs false
namespace Go.Proofs.YtdllnneeopbmdaaDoor.D
open Go Go.Proofs.YtdllnneeopbmdaaDoor.A
def totS (l : List Cd) (n : Cnt) : Cnt := l.foldl (fun s r => plusN s r.c) n
theorem drop_dow (l : List Cd) {k : Nat} (hk : k < l.length) : l.drop k = dow l k :: l.drop (k + 1) := by
  have h1 := dow_some l hk
  rw [List.getElem?_eq_getElem hk] at h1
  rw [List.drop_eq_getElem_cons hk, Option.some.inj h1]
theorem aav_zer' : aav zerA = .int .i64 0 :: bav zerB := rfl
theorem snap_clip1 (bs : List Blk) (r : List (List AV)) : snap bs (.agg [.clip r]) = some (.agg [.ro r]) := rfl
theorem rav_eq (r : Rw) : rav r = pav r.p ++ [.int .i64 r.hop] := by simp [rav, pav]
theorem rav_op (r : Rw) (p : Pfx) : ovr (rav r) 0 (pav p) = some (rav ⟨p, r.hop⟩) := by
  unfold ovr; rw [if_pos (by rw [rav_len, pav_len]; omega)]
  rw [rav_eq, rav_eq, List.take_zero, List.nil_append, pav_len, Nat.zero_add, show (18 : Nat) = (pav r.p).length by rw [pav_len], List.drop_left]
theorem rav_oh (r : Rw) (h : Int) : ovr (rav r) 18 [.int .i64 h] = some (rav ⟨r.p, h⟩) := by
  unfold ovr; rw [if_pos (by rw [rav_len]; simp)]
  rw [rav_eq, rav_eq, show (18 : Nat) = (pav r.p).length by rw [pav_len], List.take_left]
  rw [show (pav r.p).length + [AV.int IntKind.i64 h].length = (pav r.p ++ [AV.int IntKind.i64 r.hop]).length by simp, List.drop_length, List.append_nil]
def b10 : B16 := zerB.put 0 10
def b101 : B16 := b10.put 1 1
theorem bz10 : ovr (bav zerB) 0 [.int .u8 10] = some (bav b10) := bav_put zerB (by decide) (by decide)
theorem bz101 : ovr (bav b10) 1 [.int .u8 1] = some (bav b101) := bav_put b10 (by decide) (by decide)
def rW : Rw := ⟨⟨⟨4, b10⟩, 8⟩, 1⟩
def aW : Adr := ⟨4, b101⟩
theorem passW : passS (zeroS [rW]) zerN [rW] aW 5 = (([⟨rW.p, ⟨1, 5⟩⟩], zerN), 0) := by decide +kernel
theorem tabW : TabOk [rW] := by decide +kernel
theorem talW : TalOk [⟨rW.p, ⟨1, 5⟩⟩] zerN := by decide +kernel
theorem totW : totS [⟨rW.p, ⟨1, 5⟩⟩] zerN = ⟨1, 5⟩ := by decide +kernel
end Go.Proofs.YtdllnneeopbmdaaDoor.D
namespace Go.Proofs.YtdllnneeopbmdaaDoor.F
open Go Go.Proofs.YtdllnneeopbmdaaDoor.A Go.Proofs.YtdllnneeopbmdaaDoor.D
theorem r65 {ys : List Hd} {bs : List Blk} {pend : List (Option AExit)} (l : List Cd) (n : Cnt) : LR E ys 65 [.agg (.ro (drows l) :: nav n)] ⟨bs, pend⟩ = some (.clo 91 [.ptr bs.length 0 0 0], ⟨bs ++ [.box 0 27 (.ro (drows l) :: nav n)], pend⟩) := by
  rw [LR_R (fn := f65) rfl rfl rfl]
  simp only [f65, RB, pickV, eqbV, notV, negV, convV, faddrV, fldV, idxV, eqaggV, iaddrV, isnilV, nilckV, cloV, extrV, slenV, minV, sidxV, abin, cmpInt, params, growLists, fillCells, newAt, rdPtr, wrPtr, AV.cells, asVal, lenOf, boundOf, rowsOf, argIds, freshIn, scalar1, setAll, AV.isData, AV.isYld, Nat.reduceAdd, Nat.reduceMul, Nat.reduceSub, Nat.reduceEqDiff, Nat.reduceLeDiff, Nat.reduceLT, Int.reduceNeg, ↓reduceIte, reduceCtorEq, Int.reduceEq, Int.reduceLT, Int.reduceLE, Int.reduceBEq, Int.reduceBNe, Int.reduceToNat, IntKind.bits, Int.reduceAdd, Int.reduceSub, Int.reduceMul, Int.reduceTDiv, Int.reduceTMod, DB, DB2, DB3, R7B]
theorem r91 {σ : Type} {ys : List Hd} {d : Nat} {S : σ → Hp} {m a : Nat} {l : List Cd} {n : Cnt} {step : σ → Cd → σ} (hl : l.length ≤ 4611686018427387904) (h : Hd) (hy : ys[d]? = some h) (len : ∀ s, (S s).bs.length = m) (low : ∀ s, belowAll m (S s).bs = true)
    (ba : ∀ s, (S s).bs[a]? = some (.box 0 27 (.ro (drows l) :: nav n)))
    (hd : ∀ s r, ∃ x', h [.agg (pav r.p), .agg (nav r.c)] ⟨(S s).bs ++ [.box 0 60 (dav r)], (S s).pend⟩ = some (true, ⟨(S (step s r)).bs ++ [x'], (S (step s r)).pend⟩)) (s : σ) :
    ∃ ext, LR E ys 91 [.yld d, .ptr a 0 0 0] (S s) = some (.tup [], ⟨(S (l.foldl step s)).bs ++ ext, (S (l.foldl step s)).pend⟩) := by
  rw [LR_R (fn := f91) rfl rfl rfl]
  have ba0 := ba s
  simp only [f91, ← nav_zer, ← dav_zer, RB, pickV, eqbV, notV, negV, convV, faddrV, fldV, idxV, eqaggV, iaddrV, isnilV, nilckV, cloV, extrV, slenV, minV, sidxV, abin, cmpInt, params, growLists, fillCells, newAt, rdPtr, wrPtr, AV.cells, asVal, lenOf, boundOf, rowsOf, argIds, freshIn, scalar1, setAll, AV.isData, AV.isYld, Nat.reduceAdd, Nat.reduceMul, Nat.reduceSub, Nat.reduceEqDiff, Nat.reduceLeDiff, Nat.reduceLT, Int.reduceNeg, ↓reduceIte, reduceCtorEq, Int.reduceEq, Int.reduceLT, Int.reduceLE, Int.reduceBEq, Int.reduceBNe, Int.reduceToNat, IntKind.bits, Int.reduceAdd, Int.reduceSub, Int.reduceMul, Int.reduceTDiv, Int.reduceTMod, DB, DB2, DB3, R7B, ba0]
  rw [len s]
  refine W_recP (ι := Nat × σ) (Q := fun i x => ∃ ext, x = some (AV.tup [], (⟨(S ((l.drop i.1).foldl step i.2)).bs ++ ext, (S ((l.drop i.1).foldl step i.2)).pend⟩ : Hp))) (M := fun i => [(0, .yld d), (6, .ro (drows l)), (7, .int .i64 (l.length : Int)), (8, .int .i64 (i.1 : Int))]) (H := fun i => S i.2) (μ := fun i => l.length - i.1) (fun i => ?_) (fun i ih => ?_) (0, s)
  · exact ⟨by simp only [List.map_cons, List.map_nil, LPB, Bool.and_self], low _⟩
  · obtain ⟨k, s⟩ := i
    simp only at ih ⊢
    by_cases hk : k < l.length
    · have f1 : (k : Int) < (l.length : Int) := by omega
      have f2 : (0 : Int) ≤ (k : Int) := by omega
      have f6 : IntKind.i64.wrap ((k : Int) + 1) = ((k + 1 : Nat) : Int) := by rw [IntWalk.i64_in _ (by omega)] <;> omega
      have g1 := drows_get l hk
      have edrop := drop_dow l hk
      obtain ⟨x', hh⟩ := hd s (dow l k)
      have ih := ih (k + 1, step s (dow l k)) (by simp only; omega)
      simp only [RB, pickV, eqbV, notV, negV, convV, faddrV, fldV, idxV, eqaggV, iaddrV, isnilV, nilckV, cloV, extrV, slenV, minV, sidxV, abin, cmpInt, params, growLists, fillCells, newAt, rdPtr, wrPtr, AV.cells, asVal, lenOf, boundOf, rowsOf, argIds, freshIn, scalar1, setAll, AV.isData, AV.isYld, Nat.reduceAdd, Nat.reduceMul, Nat.reduceSub, Nat.reduceEqDiff, Nat.reduceLeDiff, Nat.reduceLT, Int.reduceNeg, ↓reduceIte, reduceCtorEq, Int.reduceEq, Int.reduceLT, Int.reduceLE, Int.reduceBEq, Int.reduceBNe, Int.reduceToNat, IntKind.bits, Int.reduceAdd, Int.reduceSub, Int.reduceMul, Int.reduceTDiv, Int.reduceTMod, DB, DB2, DB3, R7B, f1, f2, f6, g1, len s, CR_yld' hy, hh, take_at (len _), edrop, List.foldl_cons]
      exact ih
    · simp only [RB, pickV, eqbV, notV, negV, convV, faddrV, fldV, idxV, eqaggV, iaddrV, isnilV, nilckV, cloV, extrV, slenV, minV, sidxV, abin, cmpInt, params, growLists, fillCells, newAt, rdPtr, wrPtr, AV.cells, asVal, lenOf, boundOf, rowsOf, argIds, freshIn, scalar1, setAll, AV.isData, AV.isYld, Nat.reduceAdd, Nat.reduceMul, Nat.reduceSub, Nat.reduceEqDiff, Nat.reduceLeDiff, Nat.reduceLT, Int.reduceNeg, ↓reduceIte, reduceCtorEq, Int.reduceEq, Int.reduceLT, Int.reduceLE, Int.reduceBEq, Int.reduceBNe, Int.reduceToNat, IntKind.bits, Int.reduceAdd, Int.reduceSub, Int.reduceMul, Int.reduceTDiv, Int.reduceTMod, DB, DB2, DB3, R7B, show ¬ (k : Int) < (l.length : Int) by omega, List.drop_eq_nil_of_le (show l.length ≤ k by omega), List.foldl_nil]
      exact ⟨[], by rw [List.append_nil]⟩
theorem r91_bind {σ β : Type} {ys : List Hd} {d : Nat} {S : σ → Hp} {m a : Nat} {l : List Cd} {n : Cnt} {step : σ → Cd → σ} {F : AV × Hp → Option β} {x : Option β} (s : σ) (hl : l.length ≤ 4611686018427387904) (h : Hd) (hy : ys[d]? = some h) (len : ∀ s, (S s).bs.length = m) (low : ∀ s, belowAll m (S s).bs = true)
    (ba : ∀ s, (S s).bs[a]? = some (.box 0 27 (.ro (drows l) :: nav n)))
    (hd : ∀ s r, ∃ x', h [.agg (pav r.p), .agg (nav r.c)] ⟨(S s).bs ++ [.box 0 60 (dav r)], (S s).pend⟩ = some (true, ⟨(S (step s r)).bs ++ [x'], (S (step s r)).pend⟩))
    (hF : ∀ ext, F (.tup [], ⟨(S (l.foldl step s)).bs ++ ext, (S (l.foldl step s)).pend⟩) = x) : (LR E ys 91 [.yld d, .ptr a 0 0 0] (S s)).bind F = x := by
  obtain ⟨ext, e⟩ := r91 hl h hy len low ba hd s
  rw [e]
  exact hF ext
theorem e30 (l : List Cd) (n : Cnt) (hl : l.length ≤ 1000000) : LV E 30 [.agg (.ro (drows l) :: nav n)] = some (if TalOk l n then .tup [.agg (nav (totS l n)), .int .i64 0] else .tup [.agg (nav zerN), .int .i64 410]) := by
  rw [LV_R (fn := f30) rfl rfl rfl]
  have h31 := e31 l n (by omega)
  simp only [f30, ← nav_zer, RB, pickV, eqbV, notV, negV, convV, faddrV, fldV, idxV, eqaggV, iaddrV, isnilV, nilckV, cloV, extrV, slenV, minV, sidxV, abin, cmpInt, params, growLists, fillCells, newAt, rdPtr, wrPtr, AV.cells, asVal, lenOf, boundOf, rowsOf, argIds, freshIn, scalar1, setAll, AV.isData, AV.isYld, Nat.reduceAdd, Nat.reduceMul, Nat.reduceSub, Nat.reduceEqDiff, Nat.reduceLeDiff, Nat.reduceLT, Int.reduceNeg, ↓reduceIte, reduceCtorEq, Int.reduceEq, Int.reduceLT, Int.reduceLE, Int.reduceBEq, Int.reduceBNe, Int.reduceToNat, IntKind.bits, Int.reduceAdd, Int.reduceSub, Int.reduceMul, Int.reduceTDiv, Int.reduceTMod, DB, DB2, DB3, h31]
  by_cases h1 : TalOk l n
  · simp only [RB, pickV, eqbV, notV, negV, convV, faddrV, fldV, idxV, eqaggV, iaddrV, isnilV, nilckV, cloV, extrV, slenV, minV, sidxV, abin, cmpInt, params, growLists, fillCells, newAt, rdPtr, wrPtr, AV.cells, asVal, lenOf, boundOf, rowsOf, argIds, freshIn, scalar1, setAll, AV.isData, AV.isYld, Nat.reduceAdd, Nat.reduceMul, Nat.reduceSub, Nat.reduceEqDiff, Nat.reduceLeDiff, Nat.reduceLT, Int.reduceNeg, ↓reduceIte, reduceCtorEq, Int.reduceEq, Int.reduceLT, Int.reduceLE, Int.reduceBEq, Int.reduceBNe, Int.reduceToNat, IntKind.bits, Int.reduceAdd, Int.reduceSub, Int.reduceMul, Int.reduceTDiv, Int.reduceTMod, DB, DB2, DB3, R7B, h1, bne_self_eq_false, r65]
    rw [R_range (g := 91) (caps := [.ptr 3 0 0 0]) (by simp only [RB, pickV, eqbV, notV, negV, convV, faddrV, fldV, idxV, eqaggV, iaddrV, isnilV, nilckV, cloV, extrV, slenV, minV, sidxV, abin, cmpInt, params, growLists, fillCells, newAt, rdPtr, wrPtr, AV.cells, asVal, lenOf, boundOf, rowsOf, argIds, freshIn, scalar1, setAll, AV.isData, AV.isYld, Nat.reduceAdd, Nat.reduceMul, Nat.reduceSub, Nat.reduceEqDiff, Nat.reduceLeDiff, Nat.reduceLT, Int.reduceNeg, ↓reduceIte, reduceCtorEq, Int.reduceEq, Int.reduceLT, Int.reduceLE, Int.reduceBEq, Int.reduceBNe, Int.reduceToNat, IntKind.bits, Int.reduceAdd, Int.reduceSub, Int.reduceMul, Int.reduceTDiv, Int.reduceTMod]) rfl]
    simp only [RB, pickV, eqbV, notV, negV, convV, faddrV, fldV, idxV, eqaggV, iaddrV, isnilV, nilckV, cloV, extrV, slenV, minV, sidxV, abin, cmpInt, params, growLists, fillCells, newAt, rdPtr, wrPtr, AV.cells, asVal, lenOf, boundOf, rowsOf, argIds, freshIn, scalar1, setAll, AV.isData, AV.isYld, Nat.reduceAdd, Nat.reduceMul, Nat.reduceSub, Nat.reduceEqDiff, Nat.reduceLeDiff, Nat.reduceLT, Int.reduceNeg, ↓reduceIte, reduceCtorEq, Int.reduceEq, Int.reduceLT, Int.reduceLE, Int.reduceBEq, Int.reduceBNe, Int.reduceToNat, IntKind.bits, Int.reduceAdd, Int.reduceSub, Int.reduceMul, Int.reduceTDiv, Int.reduceTMod, R7B]
    refine r91_bind (d := 0) (S := fun s : Cnt => ⟨[.box 0 27 (.ro (drows l) :: nav n), .box 0 25 (nav zerN), .box 0 100 (nav s), .box 0 27 (.ro (drows l) :: nav n)], [none]⟩) (m := 4) (a := 3) (l := l) (n := n) (step := fun s r => plusN s r.c) n (by omega) _ rfl (fun s => rfl) (fun s => ?_) (fun s => rfl) (fun s r => ?_) fun ext => ?_
    · simp [LPB, nav_below]
    · rw [handler_run rfl rfl]
      simp only [RB, pickV, eqbV, notV, negV, convV, faddrV, fldV, idxV, eqaggV, iaddrV, isnilV, nilckV, cloV, extrV, slenV, minV, sidxV, abin, cmpInt, params, growLists, fillCells, newAt, rdPtr, wrPtr, AV.cells, asVal, lenOf, boundOf, rowsOf, argIds, freshIn, scalar1, setAll, AV.isData, AV.isYld, Nat.reduceAdd, Nat.reduceMul, Nat.reduceSub, Nat.reduceEqDiff, Nat.reduceLeDiff, Nat.reduceLT, Int.reduceNeg, ↓reduceIte, reduceCtorEq, Int.reduceEq, Int.reduceLT, Int.reduceLE, Int.reduceBEq, Int.reduceBNe, Int.reduceToNat, IntKind.bits, Int.reduceAdd, Int.reduceSub, Int.reduceMul, Int.reduceTDiv, Int.reduceTMod, DB, DB2, DB3, R7B, take_add, List.append_assoc, List.length_append, Nat.add_assoc, shrink_lit, ball_app, RG, LPB, e51]
      exact ⟨_, rfl⟩
    · simp only [RB, pickV, eqbV, notV, negV, convV, faddrV, fldV, idxV, eqaggV, iaddrV, isnilV, nilckV, cloV, extrV, slenV, minV, sidxV, abin, cmpInt, params, growLists, fillCells, newAt, rdPtr, wrPtr, AV.cells, asVal, lenOf, boundOf, rowsOf, argIds, freshIn, scalar1, setAll, AV.isData, AV.isYld, Nat.reduceAdd, Nat.reduceMul, Nat.reduceSub, Nat.reduceEqDiff, Nat.reduceLeDiff, Nat.reduceLT, Int.reduceNeg, ↓reduceIte, reduceCtorEq, Int.reduceEq, Int.reduceLT, Int.reduceLE, Int.reduceBEq, Int.reduceBNe, Int.reduceToNat, IntKind.bits, Int.reduceAdd, Int.reduceSub, Int.reduceMul, Int.reduceTDiv, Int.reduceTMod, DB, DB2, DB3, R7B, take_add, List.append_assoc, List.length_append, Nat.add_assoc, shrink_lit, ball_app, RG, LPB, expCell, List.nodup_cons, List.nodup_nil, List.not_mem_nil, not_false_eq_true, not_true_eq_false, and_true, and_false, if_false, List.mem_cons, mutIds, totS]
  · simp only [RB, pickV, eqbV, notV, negV, convV, faddrV, fldV, idxV, eqaggV, iaddrV, isnilV, nilckV, cloV, extrV, slenV, minV, sidxV, abin, cmpInt, params, growLists, fillCells, newAt, rdPtr, wrPtr, AV.cells, asVal, lenOf, boundOf, rowsOf, argIds, freshIn, scalar1, setAll, AV.isData, AV.isYld, Nat.reduceAdd, Nat.reduceMul, Nat.reduceSub, Nat.reduceEqDiff, Nat.reduceLeDiff, Nat.reduceLT, Int.reduceNeg, ↓reduceIte, reduceCtorEq, Int.reduceEq, Int.reduceLT, Int.reduceLE, Int.reduceBEq, Int.reduceBNe, Int.reduceToNat, IntKind.bits, Int.reduceAdd, Int.reduceSub, Int.reduceMul, Int.reduceTDiv, Int.reduceTMod, DB, DB2, DB3, h1, expCell, List.nodup_cons, List.nodup_nil, List.not_mem_nil, not_false_eq_true, not_true_eq_false, and_true, and_false, if_false, List.mem_cons, mutIds]
theorem e10 : LV E 10 [] = some (.bool true) := by
  have h14 : LV E 14 [.agg [.ro [rav rW]]] = some (.tup [.agg (.ro (drows (zeroS [rW])) :: nav zerN), .int .i64 0]) := by
    have := e14 [rW] (by decide)
    rw [if_pos tabW] at this
    exact this
  have h12 : LV E 12 [.agg (.ro (drows (zeroS [rW])) :: nav zerN), .agg [.ro [rav rW]], .agg (aav aW), .int .u64 5] = _ := e12 (zeroS [rW]) zerN [rW] aW 5 (by decide) (by decide)
  rw [passW] at h12
  have h30 := e30 [⟨rW.p, ⟨1, 5⟩⟩] zerN (by decide)
  rw [if_pos talW, totW] at h30
  generalize zeroS [rW] = Z at *
  generalize hD : [(⟨rW.p, ⟨1, 5⟩⟩ : Cd)] = D at *
  have hr : rW = ⟨⟨⟨4, b10⟩, 8⟩, 1⟩ := rfl
  have hA : aW = ⟨4, b101⟩ := rfl
  rw [hr] at h14 h12
  rw [hA] at h12
  rw [LV_R (fn := f10) rfl rfl rfl]
  simp only [f10, ← nav_zer, ← dav_zer, ← bav_zer, ← aav_zer', ← pav_zer, ← rav_zer, RB, pickV, eqbV, notV, negV, convV, faddrV, fldV, idxV, eqaggV, iaddrV, isnilV, nilckV, cloV, extrV, slenV, minV, sidxV, abin, cmpInt, params, growLists, fillCells, newAt, rdPtr, wrPtr, AV.cells, asVal, lenOf, boundOf, rowsOf, argIds, freshIn, scalar1, setAll, AV.isData, AV.isYld, Nat.reduceAdd, Nat.reduceMul, Nat.reduceSub, Nat.reduceEqDiff, Nat.reduceLeDiff, Nat.reduceLT, Int.reduceNeg, ↓reduceIte, reduceCtorEq, Int.reduceEq, Int.reduceLT, Int.reduceLE, Int.reduceBEq, Int.reduceBNe, Int.reduceToNat, IntKind.bits, Int.reduceAdd, Int.reduceSub, Int.reduceMul, Int.reduceTDiv, Int.reduceTMod, DB, DB2, DB3, R7B, O_buildSlq, quietOk, aop_buildSl, fillRows, asData, aappend, bz10, bz101, aav_ov, aav_ob, rav_op, rav_oh, snap_clip1, h14, h12, h30, tupS, expCell, List.nodup_cons, List.nodup_nil, List.not_mem_nil, not_false_eq_true, not_true_eq_false, and_true, and_false, if_false, List.mem_cons, mutIds, CW_some, scalar, scalar1, lockAll, lockAt, reduceCtorEq, extrV, List.all_cons, List.all_nil, pairOk, AV.ids, List.contains_cons, List.contains_nil, Nat.reduceBEq, List.all_cons, List.all_nil, Bool.or_self, Bool.not_false, Bool.and_self, Bool.or_false]
end Go.Proofs.YtdllnneeopbmdaaDoor.F

/- TallyPasses. No condition. -/
set_option linter.unusedSimpArgs false
namespace Go.Proofs.YtdllnneeopbmdaaDoor.D
open Go Go.Proofs.YtdllnneeopbmdaaDoor.A
/-- A packet's cells. -/
def kav (a : Adr) (b : Int) : List AV := aav a ++ [.int .u64 b]
theorem kav_len (a : Adr) (b : Int) : (kav a b).length = 18 := by simp [kav, aav_len]
theorem kav_data (a : Adr) (b : Int) : dataL (kav a b) = true := by rw [kav, all_data, aav_data]; rfl
theorem kav_below (m : Nat) (a : Adr) (b : Int) : belowL m (kav a b) = true := below_data m (kav_data a b)
theorem kav_p (a : Adr) (b : Int) : piece (kav a b) 0 18 = some (kav a b) := pc_all _ _ (kav_len a b)
theorem kav_a (a : Adr) (b : Int) : piece (kav a b) 0 17 = some (aav a) := by
  unfold piece; rw [if_pos (by rw [kav_len]; omega), kav, List.drop_zero, ← aav_len a, List.take_left]
theorem kav_b (a : Adr) (b : Int) : piece (kav a b) 17 1 = some [.int .u64 b] := by
  unfold piece; rw [if_pos (by rw [kav_len]; omega), kav, ← aav_len a, List.drop_left]; rfl
end Go.Proofs.YtdllnneeopbmdaaDoor.D
namespace Go.Proofs.YtdllnneeopbmdaaDoor.F
open Go Go.Proofs.YtdllnneeopbmdaaDoor.A Go.Proofs.YtdllnneeopbmdaaDoor.D
theorem e11 (l : List Cd) (n : Cnt) (hl : l.length ≤ 1000000) : LV E 11 [.agg (.ro (drows l) :: nav n)] = some (.agg (.ro (drows l) :: nav n)) := by
  rw [LV_R (fn := f11) rfl rfl rfl]
  have f7 : l.length * 48 ≤ 140737488355328 := by omega
  have f8 : l.length ≤ 4611686018427387904 := by omega
  simp only [f11, ← nav_zer, ← dav_zer, RB, pickV, eqbV, notV, negV, convV, faddrV, fldV, idxV, eqaggV, iaddrV, isnilV, nilckV, cloV, extrV, slenV, minV, sidxV, abin, cmpInt, params, growLists, fillCells, newAt, rdPtr, wrPtr, AV.cells, asVal, lenOf, boundOf, rowsOf, argIds, freshIn, scalar1, setAll, AV.isData, AV.isYld, Nat.reduceAdd, Nat.reduceMul, Nat.reduceSub, Nat.reduceEqDiff, Nat.reduceLeDiff, Nat.reduceLT, Int.reduceNeg, ↓reduceIte, reduceCtorEq, Int.reduceEq, Int.reduceLT, Int.reduceLE, Int.reduceBEq, Int.reduceBNe, Int.reduceToNat, IntKind.bits, Int.reduceAdd, Int.reduceSub, Int.reduceMul, Int.reduceTDiv, Int.reduceTMod, DB, DB2, DB3, R7B, O_buildSlq, quietOk, aop_buildSl, fillRows, asData, aappend, f7, f8, Nat.zero_add, expRes_aggm, expCell, List.nodup_cons, List.nodup_nil, List.not_mem_nil, not_false_eq_true, not_true_eq_false, and_true, and_false, if_false, List.mem_cons, mutIds]
  cases l with
  | nil => simp only [RB, pickV, eqbV, notV, negV, convV, faddrV, fldV, idxV, eqaggV, iaddrV, isnilV, nilckV, cloV, extrV, slenV, minV, sidxV, abin, cmpInt, params, growLists, fillCells, newAt, rdPtr, wrPtr, AV.cells, asVal, lenOf, boundOf, rowsOf, argIds, freshIn, scalar1, setAll, AV.isData, AV.isYld, Nat.reduceAdd, Nat.reduceMul, Nat.reduceSub, Nat.reduceEqDiff, Nat.reduceLeDiff, Nat.reduceLT, Int.reduceNeg, ↓reduceIte, reduceCtorEq, Int.reduceEq, Int.reduceLT, Int.reduceLE, Int.reduceBEq, Int.reduceBNe, Int.reduceToNat, IntKind.bits, Int.reduceAdd, Int.reduceSub, Int.reduceMul, Int.reduceTDiv, Int.reduceTMod, DB, DB2, DB3, R7B, expRes_aggm, expCell, List.nodup_cons, List.nodup_nil, List.not_mem_nil, not_false_eq_true, not_true_eq_false, and_true, and_false, if_false, List.mem_cons, mutIds]
  | cons r l => simp only [RB, pickV, eqbV, notV, negV, convV, faddrV, fldV, idxV, eqaggV, iaddrV, isnilV, nilckV, cloV, extrV, slenV, minV, sidxV, abin, cmpInt, params, growLists, fillCells, newAt, rdPtr, wrPtr, AV.cells, asVal, lenOf, boundOf, rowsOf, argIds, freshIn, scalar1, setAll, AV.isData, AV.isYld, Nat.reduceAdd, Nat.reduceMul, Nat.reduceSub, Nat.reduceEqDiff, Nat.reduceLeDiff, Nat.reduceLT, Int.reduceNeg, ↓reduceIte, reduceCtorEq, Int.reduceEq, Int.reduceLT, Int.reduceLE, Int.reduceBEq, Int.reduceBNe, Int.reduceToNat, IntKind.bits, Int.reduceAdd, Int.reduceSub, Int.reduceMul, Int.reduceTDiv, Int.reduceTMod, DB, DB2, DB3, R7B, expRes_aggm, expCell, List.nodup_cons, List.nodup_nil, List.not_mem_nil, not_false_eq_true, not_true_eq_false, and_true, and_false, if_false, List.mem_cons, mutIds, List.take_length]
theorem passes (l : List Cd) (n : Cnt) (x : List Rw) (a : Adr) (b : Int) : LV E 3 [.agg (.ro (drows l) :: nav n), .agg [.ro (rrows x)], .agg (kav a b)] = some (.bool true) := by
  rw [LV_R (fn := f3) rfl rfl rfl]
  simp only [f3, ← nav_zer, RB, pickV, eqbV, notV, negV, convV, faddrV, fldV, idxV, eqaggV, iaddrV, isnilV, nilckV, cloV, extrV, slenV, minV, sidxV, abin, cmpInt, params, growLists, fillCells, newAt, rdPtr, wrPtr, AV.cells, asVal, lenOf, boundOf, rowsOf, argIds, freshIn, scalar1, setAll, AV.isData, AV.isYld, Nat.reduceAdd, Nat.reduceMul, Nat.reduceSub, Nat.reduceEqDiff, Nat.reduceLeDiff, Nat.reduceLT, Int.reduceNeg, ↓reduceIte, reduceCtorEq, Int.reduceEq, Int.reduceLT, Int.reduceLE, Int.reduceBEq, Int.reduceBNe, Int.reduceToNat, IntKind.bits, Int.reduceAdd, Int.reduceSub, Int.reduceMul, Int.reduceTDiv, Int.reduceTMod, DB, DB2, DB3, e10, kav_len, kav_a, kav_b, kav_p]
  by_cases h1 : (200 : Int) < (l.length : Int)
  · simp only [RB, pickV, eqbV, notV, negV, convV, faddrV, fldV, idxV, eqaggV, iaddrV, isnilV, nilckV, cloV, extrV, slenV, minV, sidxV, abin, cmpInt, params, growLists, fillCells, newAt, rdPtr, wrPtr, AV.cells, asVal, lenOf, boundOf, rowsOf, argIds, freshIn, scalar1, setAll, AV.isData, AV.isYld, Nat.reduceAdd, Nat.reduceMul, Nat.reduceSub, Nat.reduceEqDiff, Nat.reduceLeDiff, Nat.reduceLT, Int.reduceNeg, ↓reduceIte, reduceCtorEq, Int.reduceEq, Int.reduceLT, Int.reduceLE, Int.reduceBEq, Int.reduceBNe, Int.reduceToNat, IntKind.bits, Int.reduceAdd, Int.reduceSub, Int.reduceMul, Int.reduceTDiv, Int.reduceTMod, DB, DB2, DB3, h1]
  · by_cases h2 : (200 : Int) < (x.length : Int)
    · simp only [RB, pickV, eqbV, notV, negV, convV, faddrV, fldV, idxV, eqaggV, iaddrV, isnilV, nilckV, cloV, extrV, slenV, minV, sidxV, abin, cmpInt, params, growLists, fillCells, newAt, rdPtr, wrPtr, AV.cells, asVal, lenOf, boundOf, rowsOf, argIds, freshIn, scalar1, setAll, AV.isData, AV.isYld, Nat.reduceAdd, Nat.reduceMul, Nat.reduceSub, Nat.reduceEqDiff, Nat.reduceLeDiff, Nat.reduceLT, Int.reduceNeg, ↓reduceIte, reduceCtorEq, Int.reduceEq, Int.reduceLT, Int.reduceLE, Int.reduceBEq, Int.reduceBNe, Int.reduceToNat, IntKind.bits, Int.reduceAdd, Int.reduceSub, Int.reduceMul, Int.reduceTDiv, Int.reduceTMod, DB, DB2, DB3, h1, h2]
    · have hl : l.length ≤ 1000000 := by omega
      have hx : x.length ≤ 1000000 := by omega
      have h11 := e11 l n hl
      have h12 := e12 l n x a b hl hx
      have h13 := e13 l n x a b hl hx
      have h14 := e14 x hx
      have h15 := e_ref09_Right x (by omega)
      have h17 := e17 x hx
      have h16 := e16 (zeroS x) (zeroS x) zerN zerN (by rw [zeroS_len]; omega)
      have h16a := e16 l l n n (by omega)
      have hp : (passS l n x a b).1.1.length ≤ 4611686018427387904 := by
        unfold passS
        split
        · split
          · split
            · simp
            · simp only [giveS_len]; omega
          · simp
        · simp
      have h16b := e16 (passS l n x a b).1.1 (passS l n x a b).1.1 (passS l n x a b).1.2 (passS l n x a b).1.2 hp
      unfold tupS at h12 h13
      by_cases h3 : TabOk x
      · rw [if_pos h3] at h14
        simp only [RB, pickV, eqbV, notV, negV, convV, faddrV, fldV, idxV, eqaggV, iaddrV, isnilV, nilckV, cloV, extrV, slenV, minV, sidxV, abin, cmpInt, params, growLists, fillCells, newAt, rdPtr, wrPtr, AV.cells, asVal, lenOf, boundOf, rowsOf, argIds, freshIn, scalar1, setAll, AV.isData, AV.isYld, Nat.reduceAdd, Nat.reduceMul, Nat.reduceSub, Nat.reduceEqDiff, Nat.reduceLeDiff, Nat.reduceLT, Int.reduceNeg, ↓reduceIte, reduceCtorEq, Int.reduceEq, Int.reduceLT, Int.reduceLE, Int.reduceBEq, Int.reduceBNe, Int.reduceToNat, IntKind.bits, Int.reduceAdd, Int.reduceSub, Int.reduceMul, Int.reduceTDiv, Int.reduceTMod, DB, DB2, DB3, R7B, pairOk, AV.ids, List.contains_cons, List.contains_nil, Nat.reduceBEq, List.all_cons, List.all_nil, Bool.or_self, Bool.not_false, Bool.and_self, Bool.or_false, h1, h2, h11, h12, h13, h14, h15, h16, h16a, h16b, h17, h3, kav_a, kav_b, kav_len, bne_self_eq_false]
      · rw [if_neg h3] at h14
        simp only [RB, pickV, eqbV, notV, negV, convV, faddrV, fldV, idxV, eqaggV, iaddrV, isnilV, nilckV, cloV, extrV, slenV, minV, sidxV, abin, cmpInt, params, growLists, fillCells, newAt, rdPtr, wrPtr, AV.cells, asVal, lenOf, boundOf, rowsOf, argIds, freshIn, scalar1, setAll, AV.isData, AV.isYld, Nat.reduceAdd, Nat.reduceMul, Nat.reduceSub, Nat.reduceEqDiff, Nat.reduceLeDiff, Nat.reduceLT, Int.reduceNeg, ↓reduceIte, reduceCtorEq, Int.reduceEq, Int.reduceLT, Int.reduceLE, Int.reduceBEq, Int.reduceBNe, Int.reduceToNat, IntKind.bits, Int.reduceAdd, Int.reduceSub, Int.reduceMul, Int.reduceTDiv, Int.reduceTMod, DB, DB2, DB3, R7B, pairOk, AV.ids, List.contains_cons, List.contains_nil, Nat.reduceBEq, List.all_cons, List.all_nil, Bool.or_self, Bool.not_false, Bool.and_self, Bool.or_false, h1, h2, h11, h12, h13, h14, h15, h16, h16a, h16b, h17, h3, kav_a, kav_b, kav_len, bne_self_eq_false]
end Go.Proofs.YtdllnneeopbmdaaDoor.F

/- Tallies and packets that are read. No condition. -/
set_option linter.unusedSimpArgs false
set_option maxRecDepth 20000
namespace Go.Proofs.YtdllnneeopbmdaaDoor.D
open Go Go.RowKit Go.Proofs.YtdllnneeopbmdaaDoor.A Go.Proofs.YtdllnneeopbmdaaDoor.J
variable {w : World} {P : Program} {t : TypeId} {v : Value}
theorem fits_cd {cs : List Value} (h : Fits (.i .i64 :: (k8 ++ [.i .i64, .i .u64, .i .u64])) cs) : ∃ r : Cd, cs.map avOf = dav r ∧ True := by
  match cs, h with
  | c :: cs, ⟨⟨n, hc, hn⟩, h2⟩ =>
    subst hc
    obtain ⟨a, b, rfl, h3, h4⟩ := fits_split k8 [.i .i64, .i .u64, .i .u64] cs h2
    clear h2
    obtain ⟨b16, hb⟩ := fits_b16 h3
    obtain ⟨d, e, f, rfl⟩ : ∃ d e f, b = [d, e, f] := by
      have h5 := h4.length
      match b, h5 with
      | [d, e, f], _ => exact ⟨d, e, f, rfl⟩
    obtain ⟨⟨m, hd, hm⟩, ⟨o, he, ho⟩, ⟨q, hf, hq⟩, _⟩ := h4
    subst hd; subst he; subst hf
    exact ⟨⟨⟨⟨n, b16⟩, m⟩, ⟨o, q⟩⟩, by simp only [List.map_cons, List.map_append, hb, avOf, dav, nav, List.map_nil], trivial⟩
theorem fits_pkt {cs : List Value} (h : Fits (.i .i64 :: (k8 ++ [.i .u64])) cs) : ∃ (a : Adr) (b : Int), cs.map avOf = kav a b := by
  match cs, h with
  | c :: cs, ⟨⟨n, hc, hn⟩, h2⟩ =>
    subst hc
    obtain ⟨a, b, rfl, h3, h4⟩ := fits_split k8 [.i .u64] cs h2
    clear h2
    obtain ⟨b16, hb⟩ := fits_b16 h3
    obtain ⟨d, rfl⟩ := List.length_eq_one_iff.1 h4.length.symm
    obtain ⟨⟨m, hd, hm⟩, _⟩ := h4
    subst hd
    exact ⟨⟨n, b16⟩, m, by simp only [List.map_cons, List.map_append, hb, avOf, kav, aav, List.map_nil, List.cons_append]⟩
theorem reads_pkt {fs : Array Field} {n : Nat} (h : Reads P w t v) (ht : P.underlying t = some (.struct fs)) (hf : flat P n t = some (.i .i64 :: (k8 ++ [.i .u64]))) : ∃ (a : Adr) (b : Int), Rep w (Old w) [] [] [] (.agg (kav a b)) v := by
  obtain ⟨cs, h1, h2⟩ := reads_flat h ht hf
  obtain ⟨a, b, h3⟩ := fits_pkt h1
  exact ⟨a, b, h3 ▸ h2⟩
theorem reads_tal {e ts tn : TypeId} {f g : Field} {n m : Nat} (h : Reads P w t v) (ht : P.underlying t = some (.struct #[f, g])) (hf0 : f.offset = 0) (hft : f.type = ts) (hg1 : g.offset = 1) (hgt : g.type = tn) (hc : P.cellsOf t = 3) (hcs : P.cellsOf ts = 1) (hcn : P.cellsOf tn = 2)
    (hts : P.underlying ts = some (.slice e)) (hk : 20 = P.cellsOf e) (hfe : flat P n e = some (.i .i64 :: (k8 ++ [.i .i64, .i .u64, .i .u64]))) (hfn : flat P m tn = some [.i .u64, .i .u64]) :
    ∃ (l : List Cd) (c : Cnt), l.length ≤ 9223372036854775807 ∧ Rep w (Old w) [] [] [] (.agg (.ro (drows l) :: nav c)) v := by
  obtain ⟨cs, rfl, hr⟩ := h.agg ht
  obtain ⟨h1, h2⟩ := hr.struct ht
  rw [hc] at h1
  obtain ⟨c, d1, d2, rfl⟩ : ∃ c d1 d2, cs = [c, d1, d2] := by
    match cs, h1 with
    | [c, d1, d2], _ => exact ⟨c, d1, d2, rfl⟩
  have h3 := h2 f (by simp)
  rw [hf0, hft, hcs] at h3
  have h4 := (h2 g (by simp))
  rw [hg1, hgt, hcn] at h4
  have h5 := h4.flat hfn
  simp only [List.drop_succ_cons, List.drop_zero, List.take_succ_cons, List.take_zero] at h5 h3
  obtain ⟨⟨x, hx, _⟩, ⟨y, hy, _⟩, _⟩ := h5
  subst hx; subst hy
  obtain ⟨a, cap, css, k4, k5, k6, k7, k8'⟩ := h3.slice hts hk (by decide)
  simp at k4
  subst k4
  obtain ⟨l, h9, h10, h11⟩ := rdc_slice (by decide) k5 k7 k8' hfe (fun cs h => fits_cd h)
  refine ⟨l, ⟨x, y⟩, by have := maxLen_le; omega, .agg _ _ (by simp [nav]) (by simp [Value.oneCell']) fun i z u hz hu => ?_⟩
  match i with
  | 0 => simp at hz hu; subst hz; subst hu; exact h11
  | 1 => simp [nav] at hz hu; subst hz; subst hu; exact .int _ _
  | 2 => simp [nav] at hz hu; subst hz; subst hu; exact .int _ _
  | i + 3 => simp [nav] at hz
end Go.Proofs.YtdllnneeopbmdaaDoor.D

/- The rows with the most bytes: the order as the document tells it; the next one, as data. No condition. -/
set_option linter.unusedSimpArgs false
namespace Go.Proofs.YtdllnneeopbmdaaDoor.D
open Go Go.Proofs.YtdllnneeopbmdaaDoor.A Go.Proofs.YtdllnneeopbmdaaDoor.F
def aheadB (a b : Cd) : Bool := ltOf cmpT a b
def stepB (cand : Cd → Bool) (l : List Cd) (best : Int) (i : Nat) : Int := if cand (dow l i) = true ∧ (best < 0 ∨ aheadB (dow l i) (dow l best.toNat) = true) then (i : Int) else best
def bestT (cand : Cd → Bool) (l : List Cd) : Nat → Int
  | 0 => -1
  | k + 1 => stepB cand l (bestT cand l k) k
theorem bestT_inv (cand : Cd → Bool) (l : List Cd) : ∀ k, (bestT cand l k = -1 ∧ ∀ j, j < k → cand (dow l j) = false) ∨
    ∃ b : Nat, bestT cand l k = (b : Int) ∧ b < k ∧ cand (dow l b) = true ∧ ∀ j, j < k → cand (dow l j) = true → aheadB (dow l j) (dow l b) = false
  | 0 => .inl ⟨rfl, fun j h => by omega⟩
  | k + 1 => by
    have ih := bestT_inv cand l k
    have irr : aheadB (dow l k) (dow l k) = false := cmpT_swo.irrefl _
    unfold bestT stepB
    cases hc : cand (dow l k) with
    | false =>
      rw [if_neg (by simp)]
      rcases ih with ⟨h1, h2⟩ | ⟨b, h1, h2, h3, h4⟩
      · exact .inl ⟨h1, fun j hj => by
          rcases Nat.lt_or_eq_of_le (Nat.le_of_lt_succ hj) with h | rfl
          · exact h2 j h
          · exact hc⟩
      · exact .inr ⟨b, h1, by omega, h3, fun j hj hcj => by
          rcases Nat.lt_or_eq_of_le (Nat.le_of_lt_succ hj) with h | rfl
          · exact h4 j h hcj
          · rw [hc] at hcj; cases hcj⟩
    | true =>
      rcases ih with ⟨h1, h2⟩ | ⟨b, h1, h2, h3, h4⟩
      · rw [h1, if_pos ⟨rfl, .inl (by decide)⟩]
        exact .inr ⟨k, rfl, by omega, hc, fun j hj hcj => by
          rcases Nat.lt_or_eq_of_le (Nat.le_of_lt_succ hj) with h | rfl
          · rw [h2 j h] at hcj; cases hcj
          · exact irr⟩
      · rw [h1]
        simp only [Int.toNat_natCast]
        cases ha : aheadB (dow l k) (dow l b) with
        | true =>
          rw [if_pos ⟨by simp, .inr (by simp)⟩]
          refine .inr ⟨k, rfl, by omega, hc, fun j hj hcj => ?_⟩
          rcases Nat.lt_or_eq_of_le (Nat.le_of_lt_succ hj) with h | rfl
          · cases hx : aheadB (dow l j) (dow l k) with
            | false => rfl
            | true => have := cmpT_swo.trans _ _ _ hx ha; have h5 := h4 j h hcj; unfold aheadB at h5; rw [this] at h5; cases h5
          · exact irr
        | false =>
          rw [if_neg (by simp)]
          refine .inr ⟨b, rfl, by omega, h3, fun j hj hcj => ?_⟩
          rcases Nat.lt_or_eq_of_le (Nat.le_of_lt_succ hj) with h | rfl
          · exact h4 j h hcj
          · exact ha
theorem dow_mem {l : List Cd} {i : Nat} (h : i < l.length) : dow l i ∈ l := List.mem_of_getElem? (dow_some l h)
theorem mem_dow {l : List Cd} {r : Cd} (h : r ∈ l) : ∃ i, i < l.length ∧ dow l i = r := by
  obtain ⟨i, hi, e⟩ := List.mem_iff_getElem.1 h
  refine ⟨i, hi, ?_⟩
  have := dow_some l hi
  rw [List.getElem?_eq_getElem hi, e] at this
  exact (Option.some.inj this).symm
theorem sort_at {l : List Cd} {i j : Nat} (hij : i < j) (hj : j < l.length) : aheadB (dow (sortL cmpT l) j) (dow (sortL cmpT l) i) = false := by
  have h := List.pairwise_iff_getElem.1 (sortL_sorted cmpT_swo l) i j (by rw [sortL_len]; omega) (by rw [sortL_len]; exact hj) hij
  have e1 := dow_some (sortL cmpT l) (i := i) (by rw [sortL_len]; omega)
  have e2 := dow_some (sortL cmpT l) (i := j) (by rw [sortL_len]; exact hj)
  rw [List.getElem?_eq_getElem (by rw [sortL_len]; omega)] at e1 e2
  rw [Option.some.inj e1, Option.some.inj e2] at h
  exact h
/-- Whether a row stands behind those that are told. -/
def candT (S : List Cd) (k : Nat) (r : Cd) : Bool := decide (k = 0) || aheadB (dow S (k - 1)) r
theorem cand_next {l : List Cd} (hd : l.Nodup) {k : Nat} (hk : k < l.length) : candT (sortL cmpT l) k (dow (sortL cmpT l) k) = true := by
  unfold candT
  by_cases h0 : k = 0
  · simp [h0]
  · rw [Bool.or_eq_true]
    refine .inr ?_
    have h1 := sort_at (l := l) (i := k - 1) (j := k) (by omega) hk
    cases h2 : aheadB (dow (sortL cmpT l) (k - 1)) (dow (sortL cmpT l) k) with
    | true => rfl
    | false =>
      have he := cmpT_tot _ _ h2 h1
      have hn : (sortL cmpT l).Nodup := (sortL_perm cmpT l).nodup_iff.2 hd
      have e1 := dow_some (sortL cmpT l) (i := k - 1) (by rw [sortL_len]; omega)
      have e2 := dow_some (sortL cmpT l) (i := k) (by rw [sortL_len]; exact hk)
      rw [he] at e1
      have := (List.getElem?_inj (by rw [sortL_len]; omega) hn).1 (e1.trans e2.symm)
      omega
/-- The best of those that are left is the next one. -/
theorem best_next {l : List Cd} (hd : l.Nodup) {k : Nat} (hk : k < l.length) : ∃ b : Nat, bestT (candT (sortL cmpT l) k) l l.length = (b : Int) ∧ b < l.length ∧ dow l b = dow (sortL cmpT l) k := by
  have hmem : dow (sortL cmpT l) k ∈ l := (sortL_perm cmpT l).mem_iff.1 (dow_mem (by rw [sortL_len]; exact hk))
  obtain ⟨j, hj, ej⟩ := mem_dow hmem
  have hc := cand_next hd hk
  rcases bestT_inv (candT (sortL cmpT l) k) l l.length with ⟨_, h2⟩ | ⟨b, h1, h2, h3, h4⟩
  · have := h2 j hj; rw [ej, hc] at this; cases this
  · refine ⟨b, h1, h2, ?_⟩
    have hlt := h4 j hj (by rw [ej]; exact hc)
    rw [ej] at hlt
    obtain ⟨m, hm, em⟩ := mem_dow ((sortL_perm cmpT l).mem_iff.2 (dow_mem h2))
    rw [sortL_len] at hm
    rw [← em] at hlt h3 ⊢
    rcases Nat.lt_trichotomy m k with h | h | h
    · exfalso
      unfold candT at h3
      rw [Bool.or_eq_true, decide_eq_true_eq] at h3
      rcases h3 with h3 | h3
      · omega
      · by_cases e : m = k - 1
        · rw [e] at h3; rw [show aheadB (dow (sortL cmpT l) (k - 1)) (dow (sortL cmpT l) (k - 1)) = false from cmpT_swo.irrefl _] at h3; cases h3
        · rw [sort_at (l := l) (i := m) (j := k - 1) (by omega) (by omega)] at h3; cases h3
    · rw [h]
    · exact cmpT_tot _ _ (sort_at h hm) hlt
theorem take_next {l : List Cd} {k : Nat} (hk : k < l.length) : l.take k ++ [dow l k] = l.take (k + 1) := by rw [List.take_add_one, dow_some l hk]; rfl
end Go.Proofs.YtdllnneeopbmdaaDoor.D
namespace Go.Proofs.YtdllnneeopbmdaaDoor.F
open Go Go.Proofs.YtdllnneeopbmdaaDoor.A Go.Proofs.YtdllnneeopbmdaaDoor.D
theorem e74 (a b : Cd) : LV E 74 [.agg (dav a), .agg (dav b)] = some (.bool (aheadB a b)) := by
  have hb : aheadB a b = decide (b.c.by' < a.c.by' ∨ (b.c.by' = a.c.by' ∧ (b.c.pk < a.c.pk ∨ (b.c.pk = a.c.pk ∧ cmpP a.p b.p < 0)))) := by
    rw [Bool.eq_iff_iff, decide_eq_true_eq]; exact cmpT_lt a b
  rw [hb, LV_R (fn := f74) rfl rfl rfl]
  simp only [f74, RB, pickV, eqbV, notV, negV, convV, faddrV, fldV, idxV, eqaggV, iaddrV, isnilV, nilckV, cloV, extrV, slenV, minV, sidxV, abin, cmpInt, params, growLists, fillCells, newAt, rdPtr, wrPtr, AV.cells, asVal, lenOf, boundOf, rowsOf, argIds, freshIn, scalar1, setAll, AV.isData, AV.isYld, Nat.reduceAdd, Nat.reduceMul, Nat.reduceSub, Nat.reduceEqDiff, Nat.reduceLeDiff, Nat.reduceLT, Int.reduceNeg, ↓reduceIte, reduceCtorEq, Int.reduceEq, Int.reduceLT, Int.reduceLE, Int.reduceBEq, Int.reduceBNe, Int.reduceToNat, IntKind.bits, Int.reduceAdd, Int.reduceSub, Int.reduceMul, Int.reduceTDiv, Int.reduceTMod, DB, DB2, DB3, R7B]
  by_cases h1 : a.c.by' = b.c.by'
  · by_cases h2 : a.c.pk = b.c.pk
    · simp only [RB, pickV, eqbV, notV, negV, convV, faddrV, fldV, idxV, eqaggV, iaddrV, isnilV, nilckV, cloV, extrV, slenV, minV, sidxV, abin, cmpInt, params, growLists, fillCells, newAt, rdPtr, wrPtr, AV.cells, asVal, lenOf, boundOf, rowsOf, argIds, freshIn, scalar1, setAll, AV.isData, AV.isYld, Nat.reduceAdd, Nat.reduceMul, Nat.reduceSub, Nat.reduceEqDiff, Nat.reduceLeDiff, Nat.reduceLT, Int.reduceNeg, ↓reduceIte, reduceCtorEq, Int.reduceEq, Int.reduceLT, Int.reduceLE, Int.reduceBEq, Int.reduceBNe, Int.reduceToNat, IntKind.bits, Int.reduceAdd, Int.reduceSub, Int.reduceMul, Int.reduceTDiv, Int.reduceTMod, DB, DB2, DB3, R7B, h1, h2, bne_self_eq_false, e_ref05_Compare, Option.some.injEq, AV.bool.injEq, decide_eq_decide]
      omega
    · simp only [RB, pickV, eqbV, notV, negV, convV, faddrV, fldV, idxV, eqaggV, iaddrV, isnilV, nilckV, cloV, extrV, slenV, minV, sidxV, abin, cmpInt, params, growLists, fillCells, newAt, rdPtr, wrPtr, AV.cells, asVal, lenOf, boundOf, rowsOf, argIds, freshIn, scalar1, setAll, AV.isData, AV.isYld, Nat.reduceAdd, Nat.reduceMul, Nat.reduceSub, Nat.reduceEqDiff, Nat.reduceLeDiff, Nat.reduceLT, Int.reduceNeg, ↓reduceIte, reduceCtorEq, Int.reduceEq, Int.reduceLT, Int.reduceLE, Int.reduceBEq, Int.reduceBNe, Int.reduceToNat, IntKind.bits, Int.reduceAdd, Int.reduceSub, Int.reduceMul, Int.reduceTDiv, Int.reduceTMod, DB, DB2, DB3, R7B, h1, bne_self_eq_false, bne_iff_ne.2 h2, Option.some.injEq, AV.bool.injEq, decide_eq_decide]
      omega
  · simp only [RB, pickV, eqbV, notV, negV, convV, faddrV, fldV, idxV, eqaggV, iaddrV, isnilV, nilckV, cloV, extrV, slenV, minV, sidxV, abin, cmpInt, params, growLists, fillCells, newAt, rdPtr, wrPtr, AV.cells, asVal, lenOf, boundOf, rowsOf, argIds, freshIn, scalar1, setAll, AV.isData, AV.isYld, Nat.reduceAdd, Nat.reduceMul, Nat.reduceSub, Nat.reduceEqDiff, Nat.reduceLeDiff, Nat.reduceLT, Int.reduceNeg, ↓reduceIte, reduceCtorEq, Int.reduceEq, Int.reduceLT, Int.reduceLE, Int.reduceBEq, Int.reduceBNe, Int.reduceToNat, IntKind.bits, Int.reduceAdd, Int.reduceSub, Int.reduceMul, Int.reduceTDiv, Int.reduceTMod, DB, DB2, DB3, R7B, bne_iff_ne.2 h1, Option.some.injEq, AV.bool.injEq, decide_eq_decide]
    omega
end Go.Proofs.YtdllnneeopbmdaaDoor.F

/- The rows with the most bytes, as the document tells them. No condition. -/
set_option linter.unusedSimpArgs false
namespace Go.Proofs.YtdllnneeopbmdaaDoor.F
open Go Go.Proofs.YtdllnneeopbmdaaDoor.A Go.Proofs.YtdllnneeopbmdaaDoor.D
set_option maxHeartbeats 1000000 in
theorem e37 (l : List Cd) (c : Cnt) (n : Int) (hl : l.length ≤ 1000000) (hd : l.Nodup) : LV E 37 [.agg (.ro (drows l) :: nav c), .int .i64 n] = some (.ro (drows ((sortL cmpT l).take n.toNat))) := by
  obtain ⟨S, hS⟩ : ∃ S, S = sortL cmpT l := ⟨_, rfl⟩
  have hSl : S.length = l.length := by rw [hS, sortL_len]
  rw [← hS, LV_R (fn := f37) rfl rfl rfl]
  simp only [f37, ← dav_zer, RB, pickV, eqbV, notV, negV, convV, faddrV, fldV, idxV, eqaggV, iaddrV, isnilV, nilckV, cloV, extrV, slenV, minV, sidxV, abin, cmpInt, params, growLists, fillCells, newAt, rdPtr, wrPtr, AV.cells, asVal, lenOf, boundOf, rowsOf, argIds, freshIn, scalar1, setAll, AV.isData, AV.isYld, Nat.reduceAdd, Nat.reduceMul, Nat.reduceSub, Nat.reduceEqDiff, Nat.reduceLeDiff, Nat.reduceLT, Int.reduceNeg, ↓reduceIte, reduceCtorEq, Int.reduceEq, Int.reduceLT, Int.reduceLE, Int.reduceBEq, Int.reduceBNe, Int.reduceToNat, IntKind.bits, Int.reduceAdd, Int.reduceSub, Int.reduceMul, Int.reduceTDiv, Int.reduceTMod, DB, DB2, DB3, R7B]
  refine (W_rec2 (β := AV) (ι := {k : Nat // k ≤ l.length ∧ (k = 0 ∨ (k : Int) ≤ n)}) (M := fun k => [(1, .int .i64 n), (2, .ptr 0 0 0 0), (5, .lis 2 k.1 0 k.1)]) (H := fun k => ⟨[.box 0 27 (.ro (drows l) :: nav c), .lst 0 0 60 20 [], .lst 0 k.1 60 20 (drows (S.take k.1))], []⟩)
    (r := fun _ => some (.ro (drows (S.take n.toNat)))) (μ := fun k => l.length - k.1) (fun k => ?_) (fun k ih => ?_) ⟨0, Nat.zero_le _, .inl rfl⟩ rfl (by simp [drows]))
  · simp [LPB, nav_below]
  · obtain ⟨k, hk, hkn⟩ := k
    simp only at ih ⊢
    by_cases h1 : (k : Int) < n
    · by_cases h2 : k < l.length
      · have h2' : (k : Int) < (l.length : Int) := by omega
        have hZ : (S.take k).length = k := by rw [List.length_take]; omega
        simp only [RB, pickV, eqbV, notV, negV, convV, faddrV, fldV, idxV, eqaggV, iaddrV, isnilV, nilckV, cloV, extrV, slenV, minV, sidxV, abin, cmpInt, params, growLists, fillCells, newAt, rdPtr, wrPtr, AV.cells, asVal, lenOf, boundOf, rowsOf, argIds, freshIn, scalar1, setAll, AV.isData, AV.isYld, Nat.reduceAdd, Nat.reduceMul, Nat.reduceSub, Nat.reduceEqDiff, Nat.reduceLeDiff, Nat.reduceLT, Int.reduceNeg, ↓reduceIte, reduceCtorEq, Int.reduceEq, Int.reduceLT, Int.reduceLE, Int.reduceBEq, Int.reduceBNe, Int.reduceToNat, IntKind.bits, Int.reduceAdd, Int.reduceSub, Int.reduceMul, Int.reduceTDiv, Int.reduceTMod, DB, DB2, DB3, R7B, take_add, List.append_assoc, List.length_append, Nat.add_assoc, shrink_lit, ball_app, RG, LPB, h1, h2']
        refine (W_rec2 (β := AV) (ι := {i : Nat // i ≤ l.length}) (M := fun i => [(1, .int .i64 n), (2, .ptr 0 0 0 0), (5, .lis 2 k 0 k), (6, .int .i64 (bestT (candT S k) l i.1)), (7, .int .i64 (i.1 : Int))]) (H := fun _ => ⟨[.box 0 27 (.ro (drows l) :: nav c), .lst 0 0 60 20 [], .lst 0 k 60 20 (drows (S.take k))], []⟩)
          (r := fun _ => some (.ro (drows (S.take n.toNat)))) (μ := fun i => l.length - i.1) (fun i => ?_) (fun i ih2 => ?_) ⟨0, Nat.zero_le _⟩ rfl rfl)
        · simp [LPB, nav_below]
        · obtain ⟨i, hil⟩ := i
          simp only at ih2 ⊢
          by_cases hi : i < l.length
          · have f1 : (i : Int) < (l.length : Int) := by omega
            have f2 : (0 : Int) ≤ (i : Int) := by omega
            have f6 : IntKind.i64.wrap ((i : Int) + 1) = ((i + 1 : Nat) : Int) := by rw [IntWalk.i64_in _ (by omega)] <;> omega
            have g1 := drows_get l hi
            have ih2 := ih2 ⟨i + 1, hi⟩ (by simp only; omega)
            simp only [bestT] at ih2
            have hbl := bestT_inv (candT S k) l i
            generalize bestT (candT S k) l i = b at *
            have hcB : ∀ x : Cd, aheadB (dow l i) x = aheadB (dow l i) x := fun _ => rfl
            by_cases h0 : k = 0
            · subst h0
              have hc : candT S 0 (dow l i) = true := rfl
              rcases hbl with ⟨hb, _⟩ | ⟨b', hb, hb2, _⟩
              · subst hb
                rw [show stepB (candT S 0) l (-1) i = (i : Int) from if_pos ⟨hc, .inl (by decide)⟩] at ih2
                simp only [RB, pickV, eqbV, notV, negV, convV, faddrV, fldV, idxV, eqaggV, iaddrV, isnilV, nilckV, cloV, extrV, slenV, minV, sidxV, abin, cmpInt, params, growLists, fillCells, newAt, rdPtr, wrPtr, AV.cells, asVal, lenOf, boundOf, rowsOf, argIds, freshIn, scalar1, setAll, AV.isData, AV.isYld, Nat.reduceAdd, Nat.reduceMul, Nat.reduceSub, Nat.reduceEqDiff, Nat.reduceLeDiff, Nat.reduceLT, Int.reduceNeg, ↓reduceIte, reduceCtorEq, Int.reduceEq, Int.reduceLT, Int.reduceLE, Int.reduceBEq, Int.reduceBNe, Int.reduceToNat, IntKind.bits, Int.reduceAdd, Int.reduceSub, Int.reduceMul, Int.reduceTDiv, Int.reduceTMod, DB, DB2, DB3, R7B, take_add, List.append_assoc, List.length_append, Nat.add_assoc, shrink_lit, ball_app, RG, LPB, f1, f2, f6, g1, Int.natCast_zero, Int.lt_irrefl]
                exact ih2
              · subst hb
                have g2 := drows_get l (show b' < l.length by omega)
                have f3 : ¬ ((b' : Int) < 0) := by omega
                have f4 : (0 : Int) ≤ (b' : Int) := by omega
                cases ha : aheadB (dow l i) (dow l b') with
                | true =>
                  rw [show stepB (candT S 0) l (b' : Int) i = (i : Int) from if_pos ⟨hc, .inr (by simpa using ha)⟩] at ih2
                  simp only [RB, pickV, eqbV, notV, negV, convV, faddrV, fldV, idxV, eqaggV, iaddrV, isnilV, nilckV, cloV, extrV, slenV, minV, sidxV, abin, cmpInt, params, growLists, fillCells, newAt, rdPtr, wrPtr, AV.cells, asVal, lenOf, boundOf, rowsOf, argIds, freshIn, scalar1, setAll, AV.isData, AV.isYld, Nat.reduceAdd, Nat.reduceMul, Nat.reduceSub, Nat.reduceEqDiff, Nat.reduceLeDiff, Nat.reduceLT, Int.reduceNeg, ↓reduceIte, reduceCtorEq, Int.reduceEq, Int.reduceLT, Int.reduceLE, Int.reduceBEq, Int.reduceBNe, Int.reduceToNat, IntKind.bits, Int.reduceAdd, Int.reduceSub, Int.reduceMul, Int.reduceTDiv, Int.reduceTMod, DB, DB2, DB3, R7B, take_add, List.append_assoc, List.length_append, Nat.add_assoc, shrink_lit, ball_app, RG, LPB, f1, f2, f3, f4, f6, g1, g2, e74, ha, Int.natCast_zero, Int.lt_irrefl]
                  exact ih2
                | false =>
                  rw [show stepB (candT S 0) l (b' : Int) i = (b' : Int) from if_neg (fun h => by rcases h.2 with h | h; exact f3 h; rw [Int.toNat_natCast, ha] at h; cases h)] at ih2
                  simp only [RB, pickV, eqbV, notV, negV, convV, faddrV, fldV, idxV, eqaggV, iaddrV, isnilV, nilckV, cloV, extrV, slenV, minV, sidxV, abin, cmpInt, params, growLists, fillCells, newAt, rdPtr, wrPtr, AV.cells, asVal, lenOf, boundOf, rowsOf, argIds, freshIn, scalar1, setAll, AV.isData, AV.isYld, Nat.reduceAdd, Nat.reduceMul, Nat.reduceSub, Nat.reduceEqDiff, Nat.reduceLeDiff, Nat.reduceLT, Int.reduceNeg, ↓reduceIte, reduceCtorEq, Int.reduceEq, Int.reduceLT, Int.reduceLE, Int.reduceBEq, Int.reduceBNe, Int.reduceToNat, IntKind.bits, Int.reduceAdd, Int.reduceSub, Int.reduceMul, Int.reduceTDiv, Int.reduceTMod, DB, DB2, DB3, R7B, take_add, List.append_assoc, List.length_append, Nat.add_assoc, shrink_lit, ball_app, RG, LPB, f1, f2, f3, f4, f6, g1, g2, e74, ha, Int.natCast_zero, Int.lt_irrefl]
                  exact ih2
            · obtain ⟨q, rfl⟩ : ∃ q, k = q + 1 := ⟨k - 1, by omega⟩
              have k1 : (0 : Int) < ((q + 1 : Nat) : Int) := by omega
              have k2 : IntKind.i64.wrap (((q + 1 : Nat) : Int) - 1) = (q : Int) := by rw [IntWalk.i64_in _ (by omega)]; omega
              have k3 : (0 : Int) ≤ (q : Int) := by omega
              have k4 : q < q + 1 := by omega
              have k5 : (drows (S.take (q + 1)))[q]? = some (dav (dow S q)) := by
                rw [drows_get _ (by omega)]
                congr 2
                unfold dow
                rw [List.getD_eq_getElem?_getD, List.getD_eq_getElem?_getD, List.getElem?_take, if_pos k4]
              cases hA : aheadB (dow S q) (dow l i) with
              | false =>
                have hc : candT S (q + 1) (dow l i) = false := by unfold candT; rw [show q + 1 - 1 = q from rfl, hA]; simp
                rw [show stepB (candT S (q + 1)) l b i = b from if_neg (fun h => by rw [hc] at h; cases h.1)] at ih2
                simp only [RB, pickV, eqbV, notV, negV, convV, faddrV, fldV, idxV, eqaggV, iaddrV, isnilV, nilckV, cloV, extrV, slenV, minV, sidxV, abin, cmpInt, params, growLists, fillCells, newAt, rdPtr, wrPtr, AV.cells, asVal, lenOf, boundOf, rowsOf, argIds, freshIn, scalar1, setAll, AV.isData, AV.isYld, Nat.reduceAdd, Nat.reduceMul, Nat.reduceSub, Nat.reduceEqDiff, Nat.reduceLeDiff, Nat.reduceLT, Int.reduceNeg, ↓reduceIte, reduceCtorEq, Int.reduceEq, Int.reduceLT, Int.reduceLE, Int.reduceBEq, Int.reduceBNe, Int.reduceToNat, IntKind.bits, Int.reduceAdd, Int.reduceSub, Int.reduceMul, Int.reduceTDiv, Int.reduceTMod, DB, DB2, DB3, R7B, take_add, List.append_assoc, List.length_append, Nat.add_assoc, shrink_lit, ball_app, RG, LPB, f1, f2, f6, g1, k1, k2, k3, k4, k5, lisFits, Nat.zero_add, e74, hA]
                exact ih2
              | true =>
                have hc : candT S (q + 1) (dow l i) = true := by unfold candT; rw [show q + 1 - 1 = q from rfl, hA]; simp
                rcases hbl with ⟨hb, _⟩ | ⟨b', hb, hb2, _⟩
                · subst hb
                  rw [show stepB (candT S (q + 1)) l (-1) i = (i : Int) from if_pos ⟨hc, .inl (by decide)⟩] at ih2
                  simp only [RB, pickV, eqbV, notV, negV, convV, faddrV, fldV, idxV, eqaggV, iaddrV, isnilV, nilckV, cloV, extrV, slenV, minV, sidxV, abin, cmpInt, params, growLists, fillCells, newAt, rdPtr, wrPtr, AV.cells, asVal, lenOf, boundOf, rowsOf, argIds, freshIn, scalar1, setAll, AV.isData, AV.isYld, Nat.reduceAdd, Nat.reduceMul, Nat.reduceSub, Nat.reduceEqDiff, Nat.reduceLeDiff, Nat.reduceLT, Int.reduceNeg, ↓reduceIte, reduceCtorEq, Int.reduceEq, Int.reduceLT, Int.reduceLE, Int.reduceBEq, Int.reduceBNe, Int.reduceToNat, IntKind.bits, Int.reduceAdd, Int.reduceSub, Int.reduceMul, Int.reduceTDiv, Int.reduceTMod, DB, DB2, DB3, R7B, take_add, List.append_assoc, List.length_append, Nat.add_assoc, shrink_lit, ball_app, RG, LPB, f1, f2, f6, g1, k1, k2, k3, k4, k5, lisFits, Nat.zero_add, e74, hA]
                  exact ih2
                · subst hb
                  have g2 := drows_get l (show b' < l.length by omega)
                  have f3 : ¬ ((b' : Int) < 0) := by omega
                  have f4 : (0 : Int) ≤ (b' : Int) := by omega
                  cases ha : aheadB (dow l i) (dow l b') with
                  | true =>
                    rw [show stepB (candT S (q + 1)) l (b' : Int) i = (i : Int) from if_pos ⟨hc, .inr (by simpa using ha)⟩] at ih2
                    simp only [RB, pickV, eqbV, notV, negV, convV, faddrV, fldV, idxV, eqaggV, iaddrV, isnilV, nilckV, cloV, extrV, slenV, minV, sidxV, abin, cmpInt, params, growLists, fillCells, newAt, rdPtr, wrPtr, AV.cells, asVal, lenOf, boundOf, rowsOf, argIds, freshIn, scalar1, setAll, AV.isData, AV.isYld, Nat.reduceAdd, Nat.reduceMul, Nat.reduceSub, Nat.reduceEqDiff, Nat.reduceLeDiff, Nat.reduceLT, Int.reduceNeg, ↓reduceIte, reduceCtorEq, Int.reduceEq, Int.reduceLT, Int.reduceLE, Int.reduceBEq, Int.reduceBNe, Int.reduceToNat, IntKind.bits, Int.reduceAdd, Int.reduceSub, Int.reduceMul, Int.reduceTDiv, Int.reduceTMod, DB, DB2, DB3, R7B, take_add, List.append_assoc, List.length_append, Nat.add_assoc, shrink_lit, ball_app, RG, LPB, f1, f2, f3, f4, f6, g1, g2, k1, k2, k3, k4, k5, lisFits, Nat.zero_add, e74, hA, ha]
                    exact ih2
                  | false =>
                    rw [show stepB (candT S (q + 1)) l (b' : Int) i = (b' : Int) from if_neg (fun h => by rcases h.2 with h | h; exact f3 h; rw [Int.toNat_natCast, ha] at h; cases h)] at ih2
                    simp only [RB, pickV, eqbV, notV, negV, convV, faddrV, fldV, idxV, eqaggV, iaddrV, isnilV, nilckV, cloV, extrV, slenV, minV, sidxV, abin, cmpInt, params, growLists, fillCells, newAt, rdPtr, wrPtr, AV.cells, asVal, lenOf, boundOf, rowsOf, argIds, freshIn, scalar1, setAll, AV.isData, AV.isYld, Nat.reduceAdd, Nat.reduceMul, Nat.reduceSub, Nat.reduceEqDiff, Nat.reduceLeDiff, Nat.reduceLT, Int.reduceNeg, ↓reduceIte, reduceCtorEq, Int.reduceEq, Int.reduceLT, Int.reduceLE, Int.reduceBEq, Int.reduceBNe, Int.reduceToNat, IntKind.bits, Int.reduceAdd, Int.reduceSub, Int.reduceMul, Int.reduceTDiv, Int.reduceTMod, DB, DB2, DB3, R7B, take_add, List.append_assoc, List.length_append, Nat.add_assoc, shrink_lit, ball_app, RG, LPB, f1, f2, f3, f4, f6, g1, g2, k1, k2, k3, k4, k5, lisFits, Nat.zero_add, e74, hA, ha]
                    exact ih2
          · have e : i = l.length := by omega
            subst e
            obtain ⟨b, hb, hb1, hb2⟩ := best_next hd h2
            rw [← hS] at hb hb2
            have g2 := drows_get l hb1
            have f4 : (0 : Int) ≤ (b : Int) := by omega
            have ih := ih ⟨k + 1, h2, .inr (by omega)⟩ (by simp only; omega)
            simp only [← take_next (l := S) (show k < S.length by omega)] at ih
            have f7 : (k + 1) * 48 ≤ 140737488355328 := by omega
            have f8 : k ≤ 4611686018427387903 := by omega
            have f12 : ∀ r, headFits 20 [dav r] = true := fun r => drows_fit [r]
            have f13 : (S.take k).take k = S.take k := by rw [List.take_take, Nat.min_self]
            simp only [RB, pickV, eqbV, notV, negV, convV, faddrV, fldV, idxV, eqaggV, iaddrV, isnilV, nilckV, cloV, extrV, slenV, minV, sidxV, abin, cmpInt, params, growLists, fillCells, newAt, rdPtr, wrPtr, AV.cells, asVal, lenOf, boundOf, rowsOf, argIds, freshIn, scalar1, setAll, AV.isData, AV.isYld, Nat.reduceAdd, Nat.reduceMul, Nat.reduceSub, Nat.reduceEqDiff, Nat.reduceLeDiff, Nat.reduceLT, Int.reduceNeg, ↓reduceIte, reduceCtorEq, Int.reduceEq, Int.reduceLT, Int.reduceLE, Int.reduceBEq, Int.reduceBNe, Int.reduceToNat, IntKind.bits, Int.reduceAdd, Int.reduceSub, Int.reduceMul, Int.reduceTDiv, Int.reduceTMod, DB, DB2, DB3, R7B, take_add, List.append_assoc, List.length_append, Nat.add_assoc, shrink_lit, ball_app, RG, LPB, show ¬ (l.length : Int) < (l.length : Int) by omega, hb, f4, g2, hb2, O_buildSlq, quietOk, aop_buildSl, fillRows, asData, aappend, f7, f8, f12, f13, hZ, Nat.le_refl]
            exact ih
      · have e : k = l.length := by omega
        subst e
        have e2 : S.take n.toNat = S.take l.length := by rw [List.take_of_length_le (by omega), List.take_of_length_le (by omega)]
        rw [e2]
        simp only [RB, pickV, eqbV, notV, negV, convV, faddrV, fldV, idxV, eqaggV, iaddrV, isnilV, nilckV, cloV, extrV, slenV, minV, sidxV, abin, cmpInt, params, growLists, fillCells, newAt, rdPtr, wrPtr, AV.cells, asVal, lenOf, boundOf, rowsOf, argIds, freshIn, scalar1, setAll, AV.isData, AV.isYld, Nat.reduceAdd, Nat.reduceMul, Nat.reduceSub, Nat.reduceEqDiff, Nat.reduceLeDiff, Nat.reduceLT, Int.reduceNeg, ↓reduceIte, reduceCtorEq, Int.reduceEq, Int.reduceLT, Int.reduceLE, Int.reduceBEq, Int.reduceBNe, Int.reduceToNat, IntKind.bits, Int.reduceAdd, Int.reduceSub, Int.reduceMul, Int.reduceTDiv, Int.reduceTMod, DB, DB2, DB3, R7B, take_add, List.append_assoc, List.length_append, Nat.add_assoc, shrink_lit, ball_app, RG, LPB, h1, show ¬ (l.length : Int) < (l.length : Int) by omega, expCell, List.nodup_cons, List.nodup_nil, List.not_mem_nil, not_false_eq_true, not_true_eq_false, and_true, and_false, if_false, List.mem_cons, mutIds, List.length_take, hSl, Nat.min_self, Nat.le_refl, List.take_take]
    · have e2 : S.take n.toNat = S.take k := by
        rcases hkn with rfl | h
        · rw [show n.toNat = 0 by omega]
        · rw [show n.toNat = k by omega]
      rw [e2]
      simp only [RB, pickV, eqbV, notV, negV, convV, faddrV, fldV, idxV, eqaggV, iaddrV, isnilV, nilckV, cloV, extrV, slenV, minV, sidxV, abin, cmpInt, params, growLists, fillCells, newAt, rdPtr, wrPtr, AV.cells, asVal, lenOf, boundOf, rowsOf, argIds, freshIn, scalar1, setAll, AV.isData, AV.isYld, Nat.reduceAdd, Nat.reduceMul, Nat.reduceSub, Nat.reduceEqDiff, Nat.reduceLeDiff, Nat.reduceLT, Int.reduceNeg, ↓reduceIte, reduceCtorEq, Int.reduceEq, Int.reduceLT, Int.reduceLE, Int.reduceBEq, Int.reduceBNe, Int.reduceToNat, IntKind.bits, Int.reduceAdd, Int.reduceSub, Int.reduceMul, Int.reduceTDiv, Int.reduceTMod, DB, DB2, DB3, R7B, take_add, List.append_assoc, List.length_append, Nat.add_assoc, shrink_lit, ball_app, RG, LPB, h1, expCell, List.nodup_cons, List.nodup_nil, List.not_mem_nil, not_false_eq_true, not_true_eq_false, and_true, and_false, if_false, List.mem_cons, mutIds, List.length_take, hSl, Nat.min_eq_left hk, Nat.le_refl, List.take_take, Nat.min_self]
end Go.Proofs.YtdllnneeopbmdaaDoor.F

/- What is within a prefix of a tally; the rows with the most bytes: by the program. No condition. -/
set_option linter.unusedSimpArgs false
namespace Go.Proofs.YtdllnneeopbmdaaDoor.D
open Go Go.Proofs.YtdllnneeopbmdaaDoor.A
def addIn (p : Pfx) (s : Cnt) (r : Cd) : Cnt := if Holds p r.p then plusN s r.c else s
def withS (l : List Cd) (p : Pfx) : Cnt := l.foldl (addIn p) zerN
end Go.Proofs.YtdllnneeopbmdaaDoor.D
namespace Go.Proofs.YtdllnneeopbmdaaDoor.F
open Go Go.Proofs.YtdllnneeopbmdaaDoor.A Go.Proofs.YtdllnneeopbmdaaDoor.D
theorem e33 (l : List Cd) (n : Cnt) (p : Pfx) (hl : l.length ≤ 1000000) : LV E 33 [.agg (.ro (drows l) :: nav n), .agg (pav p)] = some (if TalOk l n then if PfxOk p then .tup [.agg (nav (withS l p)), .int .i64 0] else .tup [.agg (nav zerN), .int .i64 151] else .tup [.agg (nav zerN), .int .i64 410]) := by
  rw [LV_R (fn := f33) rfl rfl rfl]
  have h31 := e31 l n (by omega)
  simp only [f33, ← nav_zer, ← pav_zer, RB, pickV, eqbV, notV, negV, convV, faddrV, fldV, idxV, eqaggV, iaddrV, isnilV, nilckV, cloV, extrV, slenV, minV, sidxV, abin, cmpInt, params, growLists, fillCells, newAt, rdPtr, wrPtr, AV.cells, asVal, lenOf, boundOf, rowsOf, argIds, freshIn, scalar1, setAll, AV.isData, AV.isYld, Nat.reduceAdd, Nat.reduceMul, Nat.reduceSub, Nat.reduceEqDiff, Nat.reduceLeDiff, Nat.reduceLT, Int.reduceNeg, ↓reduceIte, reduceCtorEq, Int.reduceEq, Int.reduceLT, Int.reduceLE, Int.reduceBEq, Int.reduceBNe, Int.reduceToNat, IntKind.bits, Int.reduceAdd, Int.reduceSub, Int.reduceMul, Int.reduceTDiv, Int.reduceTMod, DB, DB2, DB3, h31]
  by_cases h1 : TalOk l n
  · by_cases h2 : PfxOk p
    · simp only [RB, pickV, eqbV, notV, negV, convV, faddrV, fldV, idxV, eqaggV, iaddrV, isnilV, nilckV, cloV, extrV, slenV, minV, sidxV, abin, cmpInt, params, growLists, fillCells, newAt, rdPtr, wrPtr, AV.cells, asVal, lenOf, boundOf, rowsOf, argIds, freshIn, scalar1, setAll, AV.isData, AV.isYld, Nat.reduceAdd, Nat.reduceMul, Nat.reduceSub, Nat.reduceEqDiff, Nat.reduceLeDiff, Nat.reduceLT, Int.reduceNeg, ↓reduceIte, reduceCtorEq, Int.reduceEq, Int.reduceLT, Int.reduceLE, Int.reduceBEq, Int.reduceBNe, Int.reduceToNat, IntKind.bits, Int.reduceAdd, Int.reduceSub, Int.reduceMul, Int.reduceTDiv, Int.reduceTMod, DB, DB2, DB3, R7B, h1, h2, bne_self_eq_false, r65, e_prefix_Check]
      rw [R_range (g := 91) (caps := [.ptr 4 0 0 0]) (by simp only [RB, pickV, eqbV, notV, negV, convV, faddrV, fldV, idxV, eqaggV, iaddrV, isnilV, nilckV, cloV, extrV, slenV, minV, sidxV, abin, cmpInt, params, growLists, fillCells, newAt, rdPtr, wrPtr, AV.cells, asVal, lenOf, boundOf, rowsOf, argIds, freshIn, scalar1, setAll, AV.isData, AV.isYld, Nat.reduceAdd, Nat.reduceMul, Nat.reduceSub, Nat.reduceEqDiff, Nat.reduceLeDiff, Nat.reduceLT, Int.reduceNeg, ↓reduceIte, reduceCtorEq, Int.reduceEq, Int.reduceLT, Int.reduceLE, Int.reduceBEq, Int.reduceBNe, Int.reduceToNat, IntKind.bits, Int.reduceAdd, Int.reduceSub, Int.reduceMul, Int.reduceTDiv, Int.reduceTMod]) rfl]
      simp only [RB, pickV, eqbV, notV, negV, convV, faddrV, fldV, idxV, eqaggV, iaddrV, isnilV, nilckV, cloV, extrV, slenV, minV, sidxV, abin, cmpInt, params, growLists, fillCells, newAt, rdPtr, wrPtr, AV.cells, asVal, lenOf, boundOf, rowsOf, argIds, freshIn, scalar1, setAll, AV.isData, AV.isYld, Nat.reduceAdd, Nat.reduceMul, Nat.reduceSub, Nat.reduceEqDiff, Nat.reduceLeDiff, Nat.reduceLT, Int.reduceNeg, ↓reduceIte, reduceCtorEq, Int.reduceEq, Int.reduceLT, Int.reduceLE, Int.reduceBEq, Int.reduceBNe, Int.reduceToNat, IntKind.bits, Int.reduceAdd, Int.reduceSub, Int.reduceMul, Int.reduceTDiv, Int.reduceTMod, R7B]
      refine r91_bind (d := 0) (S := fun s : Cnt => ⟨[.box 0 27 (.ro (drows l) :: nav n), .box 0 58 (pav p), .box 0 25 (nav zerN), .box 0 100 (nav s), .box 0 27 (.ro (drows l) :: nav n)], [none]⟩) (m := 5) (a := 4) (l := l) (n := n) (step := addIn p) zerN (by omega) _ rfl (fun s => rfl) (fun s => ?_) (fun s => rfl) (fun s r => ?_) fun ext => ?_
      · simp [LPB, nav_below]
      · rw [handler_run rfl rfl]
        unfold addIn
        by_cases h3 : Holds p r.p
        · simp only [RB, pickV, eqbV, notV, negV, convV, faddrV, fldV, idxV, eqaggV, iaddrV, isnilV, nilckV, cloV, extrV, slenV, minV, sidxV, abin, cmpInt, params, growLists, fillCells, newAt, rdPtr, wrPtr, AV.cells, asVal, lenOf, boundOf, rowsOf, argIds, freshIn, scalar1, setAll, AV.isData, AV.isYld, Nat.reduceAdd, Nat.reduceMul, Nat.reduceSub, Nat.reduceEqDiff, Nat.reduceLeDiff, Nat.reduceLT, Int.reduceNeg, ↓reduceIte, reduceCtorEq, Int.reduceEq, Int.reduceLT, Int.reduceLE, Int.reduceBEq, Int.reduceBNe, Int.reduceToNat, IntKind.bits, Int.reduceAdd, Int.reduceSub, Int.reduceMul, Int.reduceTDiv, Int.reduceTMod, DB, DB2, DB3, R7B, take_add, List.append_assoc, List.length_append, Nat.add_assoc, shrink_lit, ball_app, RG, LPB, e51, e_prefix_Holds, h3]
          exact ⟨_, rfl⟩
        · simp only [RB, pickV, eqbV, notV, negV, convV, faddrV, fldV, idxV, eqaggV, iaddrV, isnilV, nilckV, cloV, extrV, slenV, minV, sidxV, abin, cmpInt, params, growLists, fillCells, newAt, rdPtr, wrPtr, AV.cells, asVal, lenOf, boundOf, rowsOf, argIds, freshIn, scalar1, setAll, AV.isData, AV.isYld, Nat.reduceAdd, Nat.reduceMul, Nat.reduceSub, Nat.reduceEqDiff, Nat.reduceLeDiff, Nat.reduceLT, Int.reduceNeg, ↓reduceIte, reduceCtorEq, Int.reduceEq, Int.reduceLT, Int.reduceLE, Int.reduceBEq, Int.reduceBNe, Int.reduceToNat, IntKind.bits, Int.reduceAdd, Int.reduceSub, Int.reduceMul, Int.reduceTDiv, Int.reduceTMod, DB, DB2, DB3, R7B, take_add, List.append_assoc, List.length_append, Nat.add_assoc, shrink_lit, ball_app, RG, LPB, e51, e_prefix_Holds, h3]
          exact ⟨_, rfl⟩
      · simp only [RB, pickV, eqbV, notV, negV, convV, faddrV, fldV, idxV, eqaggV, iaddrV, isnilV, nilckV, cloV, extrV, slenV, minV, sidxV, abin, cmpInt, params, growLists, fillCells, newAt, rdPtr, wrPtr, AV.cells, asVal, lenOf, boundOf, rowsOf, argIds, freshIn, scalar1, setAll, AV.isData, AV.isYld, Nat.reduceAdd, Nat.reduceMul, Nat.reduceSub, Nat.reduceEqDiff, Nat.reduceLeDiff, Nat.reduceLT, Int.reduceNeg, ↓reduceIte, reduceCtorEq, Int.reduceEq, Int.reduceLT, Int.reduceLE, Int.reduceBEq, Int.reduceBNe, Int.reduceToNat, IntKind.bits, Int.reduceAdd, Int.reduceSub, Int.reduceMul, Int.reduceTDiv, Int.reduceTMod, DB, DB2, DB3, R7B, take_add, List.append_assoc, List.length_append, Nat.add_assoc, shrink_lit, ball_app, RG, LPB, expCell, List.nodup_cons, List.nodup_nil, List.not_mem_nil, not_false_eq_true, not_true_eq_false, and_true, and_false, if_false, List.mem_cons, mutIds, withS]
    · simp only [RB, pickV, eqbV, notV, negV, convV, faddrV, fldV, idxV, eqaggV, iaddrV, isnilV, nilckV, cloV, extrV, slenV, minV, sidxV, abin, cmpInt, params, growLists, fillCells, newAt, rdPtr, wrPtr, AV.cells, asVal, lenOf, boundOf, rowsOf, argIds, freshIn, scalar1, setAll, AV.isData, AV.isYld, Nat.reduceAdd, Nat.reduceMul, Nat.reduceSub, Nat.reduceEqDiff, Nat.reduceLeDiff, Nat.reduceLT, Int.reduceNeg, ↓reduceIte, reduceCtorEq, Int.reduceEq, Int.reduceLT, Int.reduceLE, Int.reduceBEq, Int.reduceBNe, Int.reduceToNat, IntKind.bits, Int.reduceAdd, Int.reduceSub, Int.reduceMul, Int.reduceTDiv, Int.reduceTMod, DB, DB2, DB3, R7B, take_add, List.append_assoc, List.length_append, Nat.add_assoc, shrink_lit, ball_app, RG, LPB, h1, h2, expCell, List.nodup_cons, List.nodup_nil, List.not_mem_nil, not_false_eq_true, not_true_eq_false, and_true, and_false, if_false, List.mem_cons, mutIds, e_prefix_Check, bne_self_eq_false]
  · simp only [RB, pickV, eqbV, notV, negV, convV, faddrV, fldV, idxV, eqaggV, iaddrV, isnilV, nilckV, cloV, extrV, slenV, minV, sidxV, abin, cmpInt, params, growLists, fillCells, newAt, rdPtr, wrPtr, AV.cells, asVal, lenOf, boundOf, rowsOf, argIds, freshIn, scalar1, setAll, AV.isData, AV.isYld, Nat.reduceAdd, Nat.reduceMul, Nat.reduceSub, Nat.reduceEqDiff, Nat.reduceLeDiff, Nat.reduceLT, Int.reduceNeg, ↓reduceIte, reduceCtorEq, Int.reduceEq, Int.reduceLT, Int.reduceLE, Int.reduceBEq, Int.reduceBNe, Int.reduceToNat, IntKind.bits, Int.reduceAdd, Int.reduceSub, Int.reduceMul, Int.reduceTDiv, Int.reduceTMod, DB, DB2, DB3, R7B, take_add, List.append_assoc, List.length_append, Nat.add_assoc, shrink_lit, ball_app, RG, LPB, h1, expCell, List.nodup_cons, List.nodup_nil, List.not_mem_nil, not_false_eq_true, not_true_eq_false, and_true, and_false, if_false, List.mem_cons, mutIds]
theorem e32 (l : List Cd) (c : Cnt) (n : Int) (hl : l.length ≤ 1000000) : LV E 32 [.agg (.ro (drows l) :: nav c), .int .i64 n] = some (if TalOk l c then if n < 0 then .tup [.ro [], .int .i64 2] else .tup [.ro (drows ((sortL cmpT l).take n.toNat)), .int .i64 0] else .tup [.ro [], .int .i64 410]) := by
  rw [LV_R (fn := f32) rfl rfl rfl]
  have h31 := e31 l c (by omega)
  simp only [f32, ← nav_zer, ← pav_zer, RB, pickV, eqbV, notV, negV, convV, faddrV, fldV, idxV, eqaggV, iaddrV, isnilV, nilckV, cloV, extrV, slenV, minV, sidxV, abin, cmpInt, params, growLists, fillCells, newAt, rdPtr, wrPtr, AV.cells, asVal, lenOf, boundOf, rowsOf, argIds, freshIn, scalar1, setAll, AV.isData, AV.isYld, Nat.reduceAdd, Nat.reduceMul, Nat.reduceSub, Nat.reduceEqDiff, Nat.reduceLeDiff, Nat.reduceLT, Int.reduceNeg, ↓reduceIte, reduceCtorEq, Int.reduceEq, Int.reduceLT, Int.reduceLE, Int.reduceBEq, Int.reduceBNe, Int.reduceToNat, IntKind.bits, Int.reduceAdd, Int.reduceSub, Int.reduceMul, Int.reduceTDiv, Int.reduceTMod, DB, DB2, DB3, R7B, h31]
  by_cases h1 : TalOk l c
  · by_cases h2 : n < 0
    · simp only [RB, pickV, eqbV, notV, negV, convV, faddrV, fldV, idxV, eqaggV, iaddrV, isnilV, nilckV, cloV, extrV, slenV, minV, sidxV, abin, cmpInt, params, growLists, fillCells, newAt, rdPtr, wrPtr, AV.cells, asVal, lenOf, boundOf, rowsOf, argIds, freshIn, scalar1, setAll, AV.isData, AV.isYld, Nat.reduceAdd, Nat.reduceMul, Nat.reduceSub, Nat.reduceEqDiff, Nat.reduceLeDiff, Nat.reduceLT, Int.reduceNeg, ↓reduceIte, reduceCtorEq, Int.reduceEq, Int.reduceLT, Int.reduceLE, Int.reduceBEq, Int.reduceBNe, Int.reduceToNat, IntKind.bits, Int.reduceAdd, Int.reduceSub, Int.reduceMul, Int.reduceTDiv, Int.reduceTMod, DB, DB2, DB3, R7B, take_add, List.append_assoc, List.length_append, Nat.add_assoc, shrink_lit, ball_app, RG, LPB, h1, h2, bne_self_eq_false, expCell, List.nodup_cons, List.nodup_nil, List.not_mem_nil, not_false_eq_true, not_true_eq_false, and_true, and_false, if_false, List.mem_cons, mutIds]
    · have hS : LR E [] 67 [.lis 2 0 0 l.length, .clo 68 []] ⟨[.box 0 27 (.ro (drows l) :: nav c), .lst 0 0 60 20 [], .lst 0 0 60 20 (drows l)], []⟩ = some (.tup [], ⟨[.box 0 27 (.ro (drows l) :: nav c), .lst 0 0 60 20 [], .lst 0 0 60 20 (drows (sortL cmpT l))], []⟩) := sort_call rfl dav_inj rfl rfl (by omega)
      have hSl := sortL_len cmpT l
      have m1 : aminmax false .i64 n [.int .i64 (l.length : Int)] = some (.int .i64 ((min n.toNat l.length : Nat) : Int)) := by
        by_cases h : (l.length : Int) < n
        · simp only [aminmax, Bool.false_eq_true, if_false, if_pos h, Option.some.injEq, AV.int.injEq, true_and]; omega
        · simp only [aminmax, Bool.false_eq_true, if_false, if_neg h, Option.some.injEq, AV.int.injEq, true_and]; omega
      have m2 : min n.toNat l.length ≤ l.length := Nat.min_le_right _ _
      have m3 : (drows (sortL cmpT l)).take (min n.toNat l.length) = drows ((sortL cmpT l).take n.toNat) := by
        rw [drows_take, ← hSl, ← List.take_eq_take_min]
      simp only [RB, pickV, eqbV, notV, negV, convV, faddrV, fldV, idxV, eqaggV, iaddrV, isnilV, nilckV, cloV, extrV, slenV, minV, sidxV, abin, cmpInt, params, growLists, fillCells, newAt, rdPtr, wrPtr, AV.cells, asVal, lenOf, boundOf, rowsOf, argIds, freshIn, scalar1, setAll, AV.isData, AV.isYld, Nat.reduceAdd, Nat.reduceMul, Nat.reduceSub, Nat.reduceEqDiff, Nat.reduceLeDiff, Nat.reduceLT, Int.reduceNeg, ↓reduceIte, reduceCtorEq, Int.reduceEq, Int.reduceLT, Int.reduceLE, Int.reduceBEq, Int.reduceBNe, Int.reduceToNat, IntKind.bits, Int.reduceAdd, Int.reduceSub, Int.reduceMul, Int.reduceTDiv, Int.reduceTMod, DB, DB2, DB3, R7B, take_add, List.append_assoc, List.length_append, Nat.add_assoc, shrink_lit, ball_app, RG, LPB, h1, h2, bne_self_eq_false, expCell, List.nodup_cons, List.nodup_nil, List.not_mem_nil, not_false_eq_true, not_true_eq_false, and_true, and_false, if_false, List.mem_cons, mutIds, e40 l hl, drows_len, hS, m1, aslice, boundOf, lisFits, m2, hSl, m3]
  · simp only [RB, pickV, eqbV, notV, negV, convV, faddrV, fldV, idxV, eqaggV, iaddrV, isnilV, nilckV, cloV, extrV, slenV, minV, sidxV, abin, cmpInt, params, growLists, fillCells, newAt, rdPtr, wrPtr, AV.cells, asVal, lenOf, boundOf, rowsOf, argIds, freshIn, scalar1, setAll, AV.isData, AV.isYld, Nat.reduceAdd, Nat.reduceMul, Nat.reduceSub, Nat.reduceEqDiff, Nat.reduceLeDiff, Nat.reduceLT, Int.reduceNeg, ↓reduceIte, reduceCtorEq, Int.reduceEq, Int.reduceLT, Int.reduceLE, Int.reduceBEq, Int.reduceBNe, Int.reduceToNat, IntKind.bits, Int.reduceAdd, Int.reduceSub, Int.reduceMul, Int.reduceTDiv, Int.reduceTMod, DB, DB2, DB3, R7B, take_add, List.append_assoc, List.length_append, Nat.add_assoc, shrink_lit, ball_app, RG, LPB, h1, bne_self_eq_false, expCell, List.nodup_cons, List.nodup_nil, List.not_mem_nil, not_false_eq_true, not_true_eq_false, and_true, and_false, if_false, List.mem_cons, mutIds]
end Go.Proofs.YtdllnneeopbmdaaDoor.F
