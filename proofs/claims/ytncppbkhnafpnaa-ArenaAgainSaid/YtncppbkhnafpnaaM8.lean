/- Part 8 of the proofs of these statements. No condition. -/
import Derived.Test.YtncppbkhnafpnaaM7
set_option linter.unusedVariables false
set_option linter.unusedSimpArgs false
/- Which sizes may be; a nil arena tells nothing. No condition. -/
set_option linter.unusedSimpArgs false
namespace Go.Proofs.Ytncppbkhnafpnaa.D
open Go Go.Proofs.Ytncppbkhnafpnaa.A
def nums (l : List Int) : List (List AV) := l.map fun n => [.int .i64 n]
theorem nums_len (l : List Int) : (nums l).length = l.length := by simp [nums]
def nrow (l : List Int) (i : Nat) : Int := l.getD i 0
theorem nrow_some (l : List Int) {i : Nat} (h : i < l.length) : l[i]? = some (nrow l i) := by simp [nrow, List.getD_eq_getElem?_getD, h]
theorem nums_get (l : List Int) {i : Nat} (h : i < l.length) : (nums l)[i]? = some [.int .i64 (nrow l i)] := by
  rw [nums, List.getElem?_map, nrow_some l h]; rfl
theorem nrow_fit (l : List Int) (h : ∀ x ∈ l, -9223372036854775808 ≤ x ∧ x ≤ 9223372036854775807) {i : Nat} (hi : i < l.length) : -9223372036854775808 ≤ nrow l i ∧ nrow l i ≤ 9223372036854775807 := by
  refine h _ ?_
  unfold nrow; rw [List.getD_eq_getElem?_getD, List.getElem?_eq_getElem hi]; exact List.getElem_mem hi
theorem two64_new {n : Nat} (h : 64 ≤ n) {i : Nat} (hi : 1 ≤ i) (hi' : i + 1 < 15) : two64 (newL n) i = 0 := by
  unfold two64
  rw [wrd_newL h, wrd_newL h, if_neg (by omega), if_neg (by omega), if_neg (by omega), if_neg (by omega)]; rfl
end Go.Proofs.Ytncppbkhnafpnaa.D
namespace Go.Proofs.Ytncppbkhnafpnaa.F
open Go Go.Proofs.Ytncppbkhnafpnaa.A Go.Proofs.Ytncppbkhnafpnaa.D
section
variable {bs : List Blk}
theorem n11 (c : Int) : LR E [] 11 [.nilp, .int .i64 c] ⟨bs, []⟩ = some (.tup [.int .i64 0, .int .i64 1], ⟨bs, []⟩) := by
  rw [LR_R (fn := f11) rfl rfl rfl]; simp only [f11, RB, pickV, eqbV, notV, negV, convV, faddrV, fldV, idxV, eqaggV, iaddrV, isnilV, nilckV, pnilV, cloV, extrV, slenV, minV, sidxV, abin, cmpInt, params, growLists, fillCells, newAt, rdPtr, wrPtr, AV.cells, asVal, lenOf, boundOf, rowsOf, argIds, freshIn, scalar1, setAll, AV.isData, AV.isYld, Nat.reduceAdd, Nat.reduceMul, Nat.reduceSub, Nat.reduceEqDiff, Nat.reduceLeDiff, Nat.reduceLT, Int.reduceNeg, ↓reduceIte, reduceCtorEq, Int.reduceEq, Int.reduceLT, Int.reduceLE, Int.reduceBEq, Int.reduceBNe, Int.reduceToNat, IntKind.bits, Int.reduceAdd, Int.reduceSub, Int.reduceMul, Int.reduceTDiv, Int.reduceTMod, R7B, take_add, List.append_assoc, List.length_append, Nat.add_assoc, shrink_lit, ball_app, RG, LPB, wrows_len, q2_0, o2_0, q2_1, o2_1, q2_w, o2_w, q4_0, o4_0, q4_1, o4_1, q4_2, o4_2, q4_3, o4_3, q4_w, o4_w, q7_0, q7_1, q7_2, q7_3, q7_4, q7_5, q7_6, q7_w, o7_w]
theorem n36 (p i : Int) : LR E [] 36 [.nilp, .int .i64 p, .int .i64 i] ⟨bs, []⟩ = some (.tup [.nilp, .int .i64 1], ⟨bs, []⟩) := by
  rw [LR_R (fn := f36) rfl rfl rfl]; simp only [f36, RB, pickV, eqbV, notV, negV, convV, faddrV, fldV, idxV, eqaggV, iaddrV, isnilV, nilckV, pnilV, cloV, extrV, slenV, minV, sidxV, abin, cmpInt, params, growLists, fillCells, newAt, rdPtr, wrPtr, AV.cells, asVal, lenOf, boundOf, rowsOf, argIds, freshIn, scalar1, setAll, AV.isData, AV.isYld, Nat.reduceAdd, Nat.reduceMul, Nat.reduceSub, Nat.reduceEqDiff, Nat.reduceLeDiff, Nat.reduceLT, Int.reduceNeg, ↓reduceIte, reduceCtorEq, Int.reduceEq, Int.reduceLT, Int.reduceLE, Int.reduceBEq, Int.reduceBNe, Int.reduceToNat, IntKind.bits, Int.reduceAdd, Int.reduceSub, Int.reduceMul, Int.reduceTDiv, Int.reduceTMod, R7B, take_add, List.append_assoc, List.length_append, Nat.add_assoc, shrink_lit, ball_app, RG, LPB, wrows_len, q2_0, o2_0, q2_1, o2_1, q2_w, o2_w, q4_0, o4_0, q4_1, o4_1, q4_2, o4_2, q4_3, o4_3, q4_w, o4_w, q7_0, q7_1, q7_2, q7_3, q7_4, q7_5, q7_6, q7_w, o7_w, show resV .nilp = some .nilp from rfl]
theorem n15 (p i : Int) : LR E [] 15 [.nilp, .int .i64 p, .int .i64 i] ⟨bs, []⟩ = some (.tup [.int .u32 0, .int .i64 1], ⟨bs, []⟩) := by
  rw [LR_R (fn := f15) rfl rfl rfl]; simp only [f15, RB, pickV, eqbV, notV, negV, convV, faddrV, fldV, idxV, eqaggV, iaddrV, isnilV, nilckV, pnilV, cloV, extrV, slenV, minV, sidxV, abin, cmpInt, params, growLists, fillCells, newAt, rdPtr, wrPtr, AV.cells, asVal, lenOf, boundOf, rowsOf, argIds, freshIn, scalar1, setAll, AV.isData, AV.isYld, Nat.reduceAdd, Nat.reduceMul, Nat.reduceSub, Nat.reduceEqDiff, Nat.reduceLeDiff, Nat.reduceLT, Int.reduceNeg, ↓reduceIte, reduceCtorEq, Int.reduceEq, Int.reduceLT, Int.reduceLE, Int.reduceBEq, Int.reduceBNe, Int.reduceToNat, IntKind.bits, Int.reduceAdd, Int.reduceSub, Int.reduceMul, Int.reduceTDiv, Int.reduceTMod, R7B, take_add, List.append_assoc, List.length_append, Nat.add_assoc, shrink_lit, ball_app, RG, LPB, wrows_len, q2_0, o2_0, q2_1, o2_1, q2_w, o2_w, q4_0, o4_0, q4_1, o4_1, q4_2, o4_2, q4_3, o4_3, q4_w, o4_w, q7_0, q7_1, q7_2, q7_3, q7_4, q7_5, q7_6, q7_w, o7_w, n36]
theorem n12 (p i x : Int) : LR E [] 12 [.nilp, .int .i64 p, .int .i64 i, .int .u32 x] ⟨bs, []⟩ = some (.int .i64 1, ⟨bs, []⟩) := by
  rw [LR_R (fn := f12) rfl rfl rfl]; simp only [f12, RB, pickV, eqbV, notV, negV, convV, faddrV, fldV, idxV, eqaggV, iaddrV, isnilV, nilckV, pnilV, cloV, extrV, slenV, minV, sidxV, abin, cmpInt, params, growLists, fillCells, newAt, rdPtr, wrPtr, AV.cells, asVal, lenOf, boundOf, rowsOf, argIds, freshIn, scalar1, setAll, AV.isData, AV.isYld, Nat.reduceAdd, Nat.reduceMul, Nat.reduceSub, Nat.reduceEqDiff, Nat.reduceLeDiff, Nat.reduceLT, Int.reduceNeg, ↓reduceIte, reduceCtorEq, Int.reduceEq, Int.reduceLT, Int.reduceLE, Int.reduceBEq, Int.reduceBNe, Int.reduceToNat, IntKind.bits, Int.reduceAdd, Int.reduceSub, Int.reduceMul, Int.reduceTDiv, Int.reduceTMod, R7B, take_add, List.append_assoc, List.length_append, Nat.add_assoc, shrink_lit, ball_app, RG, LPB, wrows_len, q2_0, o2_0, q2_1, o2_1, q2_w, o2_w, q4_0, o4_0, q4_1, o4_1, q4_2, o4_2, q4_3, o4_3, q4_w, o4_w, q7_0, q7_1, q7_2, q7_3, q7_4, q7_5, q7_6, q7_w, o7_w, n36]
theorem n20 (p : Int) : LR E [] 20 [.nilp, .int .i64 p] ⟨bs, []⟩ = some (.tup [.int .i64 0, .bool false], ⟨bs, []⟩) := by
  rw [LR_R (fn := f20) rfl rfl rfl]; simp only [f20, RB, pickV, eqbV, notV, negV, convV, faddrV, fldV, idxV, eqaggV, iaddrV, isnilV, nilckV, pnilV, cloV, extrV, slenV, minV, sidxV, abin, cmpInt, params, growLists, fillCells, newAt, rdPtr, wrPtr, AV.cells, asVal, lenOf, boundOf, rowsOf, argIds, freshIn, scalar1, setAll, AV.isData, AV.isYld, Nat.reduceAdd, Nat.reduceMul, Nat.reduceSub, Nat.reduceEqDiff, Nat.reduceLeDiff, Nat.reduceLT, Int.reduceNeg, ↓reduceIte, reduceCtorEq, Int.reduceEq, Int.reduceLT, Int.reduceLE, Int.reduceBEq, Int.reduceBNe, Int.reduceToNat, IntKind.bits, Int.reduceAdd, Int.reduceSub, Int.reduceMul, Int.reduceTDiv, Int.reduceTMod, R7B, take_add, List.append_assoc, List.length_append, Nat.add_assoc, shrink_lit, ball_app, RG, LPB, wrows_len, q2_0, o2_0, q2_1, o2_1, q2_w, o2_w, q4_0, o4_0, q4_1, o4_1, q4_2, o4_2, q4_3, o4_3, q4_w, o4_w, q7_0, q7_1, q7_2, q7_3, q7_4, q7_5, q7_6, q7_w, o7_w]
theorem n21 (p : Int) : LR E [] 21 [.nilp, .int .i64 p] ⟨bs, []⟩ = some (.int .i64 1, ⟨bs, []⟩) := by
  rw [LR_R (fn := f21) rfl rfl rfl]; simp only [f21, RB, pickV, eqbV, notV, negV, convV, faddrV, fldV, idxV, eqaggV, iaddrV, isnilV, nilckV, pnilV, cloV, extrV, slenV, minV, sidxV, abin, cmpInt, params, growLists, fillCells, newAt, rdPtr, wrPtr, AV.cells, asVal, lenOf, boundOf, rowsOf, argIds, freshIn, scalar1, setAll, AV.isData, AV.isYld, Nat.reduceAdd, Nat.reduceMul, Nat.reduceSub, Nat.reduceEqDiff, Nat.reduceLeDiff, Nat.reduceLT, Int.reduceNeg, ↓reduceIte, reduceCtorEq, Int.reduceEq, Int.reduceLT, Int.reduceLE, Int.reduceBEq, Int.reduceBNe, Int.reduceToNat, IntKind.bits, Int.reduceAdd, Int.reduceSub, Int.reduceMul, Int.reduceTDiv, Int.reduceTMod, R7B, take_add, List.append_assoc, List.length_append, Nat.add_assoc, shrink_lit, ball_app, RG, LPB, wrows_len, q2_0, o2_0, q2_1, o2_1, q2_w, o2_w, q4_0, o4_0, q4_1, o4_1, q4_2, o4_2, q4_3, o4_3, q4_w, o4_w, q7_0, q7_1, q7_2, q7_3, q7_4, q7_5, q7_6, q7_w, o7_w]
theorem n22 (a b c d : Int) : LR E [] 22 [.nilp, .agg [.int .u64 a, .int .u64 b, .int .i64 c, .int .i64 d]] ⟨bs, []⟩ = some (.int .i64 1, ⟨bs ++ [.box 0 46 [.int .u64 a, .int .u64 b, .int .i64 c, .int .i64 d]], []⟩) := by
  rw [LR_R (fn := f22) rfl rfl rfl]; simp only [f22, RB, pickV, eqbV, notV, negV, convV, faddrV, fldV, idxV, eqaggV, iaddrV, isnilV, nilckV, pnilV, cloV, extrV, slenV, minV, sidxV, abin, cmpInt, params, growLists, fillCells, newAt, rdPtr, wrPtr, AV.cells, asVal, lenOf, boundOf, rowsOf, argIds, freshIn, scalar1, setAll, AV.isData, AV.isYld, Nat.reduceAdd, Nat.reduceMul, Nat.reduceSub, Nat.reduceEqDiff, Nat.reduceLeDiff, Nat.reduceLT, Int.reduceNeg, ↓reduceIte, reduceCtorEq, Int.reduceEq, Int.reduceLT, Int.reduceLE, Int.reduceBEq, Int.reduceBNe, Int.reduceToNat, IntKind.bits, Int.reduceAdd, Int.reduceSub, Int.reduceMul, Int.reduceTDiv, Int.reduceTMod, R7B, take_add, List.append_assoc, List.length_append, Nat.add_assoc, shrink_lit, ball_app, RG, LPB, wrows_len, q2_0, o2_0, q2_1, o2_1, q2_w, o2_w, q4_0, o4_0, q4_1, o4_1, q4_2, o4_2, q4_3, o4_3, q4_w, o4_w, q7_0, q7_1, q7_2, q7_3, q7_4, q7_5, q7_6, q7_w, o7_w]
theorem n23 (x : Int) : LR E [] 23 [.nilp, .int .u64 x] ⟨bs, []⟩ = some (.int .i64 1, ⟨bs, []⟩) := by
  rw [LR_R (fn := f23) rfl rfl rfl]; simp only [f23, RB, pickV, eqbV, notV, negV, convV, faddrV, fldV, idxV, eqaggV, iaddrV, isnilV, nilckV, pnilV, cloV, extrV, slenV, minV, sidxV, abin, cmpInt, params, growLists, fillCells, newAt, rdPtr, wrPtr, AV.cells, asVal, lenOf, boundOf, rowsOf, argIds, freshIn, scalar1, setAll, AV.isData, AV.isYld, Nat.reduceAdd, Nat.reduceMul, Nat.reduceSub, Nat.reduceEqDiff, Nat.reduceLeDiff, Nat.reduceLT, Int.reduceNeg, ↓reduceIte, reduceCtorEq, Int.reduceEq, Int.reduceLT, Int.reduceLE, Int.reduceBEq, Int.reduceBNe, Int.reduceToNat, IntKind.bits, Int.reduceAdd, Int.reduceSub, Int.reduceMul, Int.reduceTDiv, Int.reduceTMod, R7B, take_add, List.append_assoc, List.length_append, Nat.add_assoc, shrink_lit, ball_app, RG, LPB, wrows_len, q2_0, o2_0, q2_1, o2_1, q2_w, o2_w, q4_0, o4_0, q4_1, o4_1, q4_2, o4_2, q4_3, o4_3, q4_w, o4_w, q7_0, q7_1, q7_2, q7_3, q7_4, q7_5, q7_6, q7_w, o7_w]
theorem n24 : LR E [] 24 [.nilp] ⟨bs, []⟩ = some (.int .u64 0, ⟨bs, []⟩) := by
  rw [LR_R (fn := f24) rfl rfl rfl]; simp only [f24, RB, pickV, eqbV, notV, negV, convV, faddrV, fldV, idxV, eqaggV, iaddrV, isnilV, nilckV, pnilV, cloV, extrV, slenV, minV, sidxV, abin, cmpInt, params, growLists, fillCells, newAt, rdPtr, wrPtr, AV.cells, asVal, lenOf, boundOf, rowsOf, argIds, freshIn, scalar1, setAll, AV.isData, AV.isYld, Nat.reduceAdd, Nat.reduceMul, Nat.reduceSub, Nat.reduceEqDiff, Nat.reduceLeDiff, Nat.reduceLT, Int.reduceNeg, ↓reduceIte, reduceCtorEq, Int.reduceEq, Int.reduceLT, Int.reduceLE, Int.reduceBEq, Int.reduceBNe, Int.reduceToNat, IntKind.bits, Int.reduceAdd, Int.reduceSub, Int.reduceMul, Int.reduceTDiv, Int.reduceTMod, R7B, take_add, List.append_assoc, List.length_append, Nat.add_assoc, shrink_lit, ball_app, RG, LPB, wrows_len, q2_0, o2_0, q2_1, o2_1, q2_w, o2_w, q4_0, o4_0, q4_1, o4_1, q4_2, o4_2, q4_3, o4_3, q4_w, o4_w, q7_0, q7_1, q7_2, q7_3, q7_4, q7_5, q7_6, q7_w, o7_w]
theorem n19 : LR E [] 19 [.nilp] ⟨bs, []⟩ = some (.agg [.int .u64 0, .int .u64 0, .int .i64 0, .int .i64 0], ⟨bs ++ [.box 0 46 [.int .u64 0, .int .u64 0, .int .i64 0, .int .i64 0]], []⟩) := by
  rw [LR_R (fn := f19) rfl rfl rfl]; simp only [f19, RB, pickV, eqbV, notV, negV, convV, faddrV, fldV, idxV, eqaggV, iaddrV, isnilV, nilckV, pnilV, cloV, extrV, slenV, minV, sidxV, abin, cmpInt, params, growLists, fillCells, newAt, rdPtr, wrPtr, AV.cells, asVal, lenOf, boundOf, rowsOf, argIds, freshIn, scalar1, setAll, AV.isData, AV.isYld, Nat.reduceAdd, Nat.reduceMul, Nat.reduceSub, Nat.reduceEqDiff, Nat.reduceLeDiff, Nat.reduceLT, Int.reduceNeg, ↓reduceIte, reduceCtorEq, Int.reduceEq, Int.reduceLT, Int.reduceLE, Int.reduceBEq, Int.reduceBNe, Int.reduceToNat, IntKind.bits, Int.reduceAdd, Int.reduceSub, Int.reduceMul, Int.reduceTDiv, Int.reduceTMod, R7B, take_add, List.append_assoc, List.length_append, Nat.add_assoc, shrink_lit, ball_app, RG, LPB, wrows_len, q2_0, o2_0, q2_1, o2_1, q2_w, o2_w, q4_0, o4_0, q4_1, o4_1, q4_2, o4_2, q4_3, o4_3, q4_w, o4_w, q7_0, q7_1, q7_2, q7_3, q7_4, q7_5, q7_6, q7_w, o7_w, fillCells]
theorem n16 : LR E [] 16 [.nilp] ⟨bs, []⟩ = some (.int .i64 0, ⟨bs, []⟩) := by
  rw [LR_R (fn := f16) rfl rfl rfl]; simp only [f16, RB, pickV, eqbV, notV, negV, convV, faddrV, fldV, idxV, eqaggV, iaddrV, isnilV, nilckV, pnilV, cloV, extrV, slenV, minV, sidxV, abin, cmpInt, params, growLists, fillCells, newAt, rdPtr, wrPtr, AV.cells, asVal, lenOf, boundOf, rowsOf, argIds, freshIn, scalar1, setAll, AV.isData, AV.isYld, Nat.reduceAdd, Nat.reduceMul, Nat.reduceSub, Nat.reduceEqDiff, Nat.reduceLeDiff, Nat.reduceLT, Int.reduceNeg, ↓reduceIte, reduceCtorEq, Int.reduceEq, Int.reduceLT, Int.reduceLE, Int.reduceBEq, Int.reduceBNe, Int.reduceToNat, IntKind.bits, Int.reduceAdd, Int.reduceSub, Int.reduceMul, Int.reduceTDiv, Int.reduceTMod, R7B, take_add, List.append_assoc, List.length_append, Nat.add_assoc, shrink_lit, ball_app, RG, LPB, wrows_len, q2_0, o2_0, q2_1, o2_1, q2_w, o2_w, q4_0, o4_0, q4_1, o4_1, q4_2, o4_2, q4_3, o4_3, q4_w, o4_w, q7_0, q7_1, q7_2, q7_3, q7_4, q7_5, q7_6, q7_w, o7_w]
theorem n37 (t : Bool) : ∃ ext n, LR E [] 37 [.nilp, .bool t] ⟨bs, []⟩ = some (.lis n 0 0 0, ⟨bs ++ ext, []⟩) ∧ ∀ m, belowAll m ext = true := by
  rw [LR_R (fn := f37) rfl rfl rfl]; simp only [f37, RB, pickV, eqbV, notV, negV, convV, faddrV, fldV, idxV, eqaggV, iaddrV, isnilV, nilckV, pnilV, cloV, extrV, slenV, minV, sidxV, abin, cmpInt, params, growLists, fillCells, newAt, rdPtr, wrPtr, AV.cells, asVal, lenOf, boundOf, rowsOf, argIds, freshIn, scalar1, setAll, AV.isData, AV.isYld, Nat.reduceAdd, Nat.reduceMul, Nat.reduceSub, Nat.reduceEqDiff, Nat.reduceLeDiff, Nat.reduceLT, Int.reduceNeg, ↓reduceIte, reduceCtorEq, Int.reduceEq, Int.reduceLT, Int.reduceLE, Int.reduceBEq, Int.reduceBNe, Int.reduceToNat, IntKind.bits, Int.reduceAdd, Int.reduceSub, Int.reduceMul, Int.reduceTDiv, Int.reduceTMod, R7B, take_add, List.append_assoc, List.length_append, Nat.add_assoc, shrink_lit, ball_app, RG, LPB, wrows_len, q2_0, o2_0, q2_1, o2_1, q2_w, o2_w, q4_0, o4_0, q4_1, o4_1, q4_2, o4_2, q4_3, o4_3, q4_w, o4_w, q7_0, q7_1, q7_2, q7_3, q7_4, q7_5, q7_6, q7_w, o7_w]
  exact ⟨_, _, rfl, fun m => by simp only [LPB, Bool.and_self]⟩
theorem n17 : ∃ ext n, LR E [] 17 [.nilp] ⟨bs, []⟩ = some (.lis n 0 0 0, ⟨bs ++ ext, []⟩) ∧ ∀ m, belowAll m ext = true := by
  obtain ⟨x, n, h, hb⟩ := n37 (bs := bs ++ [.lst 0 0 58 2 []]) true
  rw [LR_R (fn := f17) rfl rfl rfl]; simp only [f17, RB, pickV, eqbV, notV, negV, convV, faddrV, fldV, idxV, eqaggV, iaddrV, isnilV, nilckV, pnilV, cloV, extrV, slenV, minV, sidxV, abin, cmpInt, params, growLists, fillCells, newAt, rdPtr, wrPtr, AV.cells, asVal, lenOf, boundOf, rowsOf, argIds, freshIn, scalar1, setAll, AV.isData, AV.isYld, Nat.reduceAdd, Nat.reduceMul, Nat.reduceSub, Nat.reduceEqDiff, Nat.reduceLeDiff, Nat.reduceLT, Int.reduceNeg, ↓reduceIte, reduceCtorEq, Int.reduceEq, Int.reduceLT, Int.reduceLE, Int.reduceBEq, Int.reduceBNe, Int.reduceToNat, IntKind.bits, Int.reduceAdd, Int.reduceSub, Int.reduceMul, Int.reduceTDiv, Int.reduceTMod, R7B, take_add, List.append_assoc, List.length_append, Nat.add_assoc, shrink_lit, ball_app, RG, LPB, wrows_len, q2_0, o2_0, q2_1, o2_1, q2_w, o2_w, q4_0, o4_0, q4_1, o4_1, q4_2, o4_2, q4_3, o4_3, q4_w, o4_w, q7_0, q7_1, q7_2, q7_3, q7_4, q7_5, q7_6, q7_w, o7_w, h]
  exact ⟨_, _, rfl, fun m => by simp only [LPB, Bool.and_self, hb]⟩
theorem n18 : ∃ ext n, LR E [] 18 [.nilp] ⟨bs, []⟩ = some (.lis n 0 0 0, ⟨bs ++ ext, []⟩) ∧ ∀ m, belowAll m ext = true := by
  obtain ⟨x, n, h, hb⟩ := n37 (bs := bs ++ [.lst 0 0 58 2 []]) false
  rw [LR_R (fn := f18) rfl rfl rfl]; simp only [f18, RB, pickV, eqbV, notV, negV, convV, faddrV, fldV, idxV, eqaggV, iaddrV, isnilV, nilckV, pnilV, cloV, extrV, slenV, minV, sidxV, abin, cmpInt, params, growLists, fillCells, newAt, rdPtr, wrPtr, AV.cells, asVal, lenOf, boundOf, rowsOf, argIds, freshIn, scalar1, setAll, AV.isData, AV.isYld, Nat.reduceAdd, Nat.reduceMul, Nat.reduceSub, Nat.reduceEqDiff, Nat.reduceLeDiff, Nat.reduceLT, Int.reduceNeg, ↓reduceIte, reduceCtorEq, Int.reduceEq, Int.reduceLT, Int.reduceLE, Int.reduceBEq, Int.reduceBNe, Int.reduceToNat, IntKind.bits, Int.reduceAdd, Int.reduceSub, Int.reduceMul, Int.reduceTDiv, Int.reduceTMod, R7B, take_add, List.append_assoc, List.length_append, Nat.add_assoc, shrink_lit, ball_app, RG, LPB, wrows_len, q2_0, o2_0, q2_1, o2_1, q2_w, o2_w, q4_0, o4_0, q4_1, o4_1, q4_2, o4_2, q4_3, o4_3, q4_w, o4_w, q7_0, q7_1, q7_2, q7_3, q7_4, q7_5, q7_6, q7_w, o7_w, h]
  exact ⟨_, _, rfl, fun m => by simp only [LPB, Bool.and_self, hb]⟩
theorem n25 : ∃ ext n, LR E [] 25 [.nilp] ⟨bs, []⟩ = some (.lis n 0 0 0, ⟨bs ++ ext, []⟩) := by
  rw [LR_R (fn := f25) rfl rfl rfl]; simp only [f25, RB, pickV, eqbV, notV, negV, convV, faddrV, fldV, idxV, eqaggV, iaddrV, isnilV, nilckV, pnilV, cloV, extrV, slenV, minV, sidxV, abin, cmpInt, params, growLists, fillCells, newAt, rdPtr, wrPtr, AV.cells, asVal, lenOf, boundOf, rowsOf, argIds, freshIn, scalar1, setAll, AV.isData, AV.isYld, Nat.reduceAdd, Nat.reduceMul, Nat.reduceSub, Nat.reduceEqDiff, Nat.reduceLeDiff, Nat.reduceLT, Int.reduceNeg, ↓reduceIte, reduceCtorEq, Int.reduceEq, Int.reduceLT, Int.reduceLE, Int.reduceBEq, Int.reduceBNe, Int.reduceToNat, IntKind.bits, Int.reduceAdd, Int.reduceSub, Int.reduceMul, Int.reduceTDiv, Int.reduceTMod, R7B, take_add, List.append_assoc, List.length_append, Nat.add_assoc, shrink_lit, ball_app, RG, LPB, wrows_len, q2_0, o2_0, q2_1, o2_1, q2_w, o2_w, q4_0, o4_0, q4_1, o4_1, q4_2, o4_2, q4_3, o4_3, q4_w, o4_w, q7_0, q7_1, q7_2, q7_3, q7_4, q7_5, q7_6, q7_w, o7_w]
  exact ⟨_, _, rfl⟩
end
end Go.Proofs.Ytncppbkhnafpnaa.F

/- Bytes of words. No condition. -/
set_option linter.unusedSimpArgs false
namespace Go.Proofs.Ytncppbkhnafpnaa.D
open Go Go.Proofs.Ytncppbkhnafpnaa.A
def brows (l : List Int) : List (List AV) := l.map fun n => [.int .u8 n]
theorem brows_len (l : List Int) : (brows l).length = l.length := by simp [brows]
theorem brows_sn (l : List Int) (n : Int) : brows (l ++ [n]) = brows l ++ [[.int .u8 n]] := by simp [brows]
theorem brows_all (l : List Int) : (brows l).take l.length = brows l := by rw [← brows_len, List.take_length]
theorem brows_one (l : List Int) : ((brows l).all fun r => r.length == 1) = true := by simp [brows]
def gB (x : Int) (k : Nat) : Int := IntKind.u8.wrap (IntKind.u64.wrap ((BitVec.ofInt 64 (x.fdiv (2 ^ Nat.min (24 - 8 * k) 64)) &&& BitVec.ofInt 64 255).toNat))
def gBs (x : Int) (k : Nat) : List Int := (List.range k).map (gB x)
theorem gBs_next (x : Int) (k : Nat) : gBs x (k + 1) = gBs x k ++ [gB x k] := by unfold gBs; rw [List.range_succ, List.map_append]; rfl
theorem gBs_len (x : Int) (k : Nat) : (gBs x k).length = k := by simp [gBs]
theorem and_255 (a : Int) : bits2 .and .u64 a 255 = some (IntKind.u64.wrap ((BitVec.ofInt 64 a &&& BitVec.ofInt 64 255).toNat)) := rfl
end Go.Proofs.Ytncppbkhnafpnaa.D
namespace Go.Proofs.Ytncppbkhnafpnaa.F
open Go Go.Proofs.Ytncppbkhnafpnaa.A Go.Proofs.Ytncppbkhnafpnaa.D
theorem e74 (l : List Int) (h : l.length ≤ 140737488355328) : LV E 74 [.ro (brows l)] = some (.fresh 5 1 (brows l)) := by
  rw [LV_prim (p := pClone 5 1 1) rfl]
  simp only [pClone, rowsOf, brows_one, brows_len, Nat.mul_one, h, true_and, show 0 < 1 by omega, and_self, if_true, Option.bind_some, expRes_lis, expCell, List.getElem?_cons_zero, Nat.zero_add, Nat.le_refl, List.drop_zero, brows_all]
theorem e85 (l : List Int) : LV E 85 [.ro (brows l)] = some (.ro (brows l)) := by
  rw [LV_R (fn := f85) rfl rfl rfl]
  have hf : rowFits 1 0 l.length (brows l) = true := by
    unfold rowFits
    cases l <;> simp [brows]
  simp only [f85, RB, pickV, eqbV, notV, negV, convV, faddrV, fldV, idxV, eqaggV, iaddrV, isnilV, nilckV, pnilV, cloV, extrV, slenV, minV, sidxV, abin, cmpInt, params, growLists, fillCells, newAt, rdPtr, wrPtr, AV.cells, asVal, lenOf, boundOf, rowsOf, argIds, freshIn, scalar1, setAll, AV.isData, AV.isYld, Nat.reduceAdd, Nat.reduceMul, Nat.reduceSub, Nat.reduceEqDiff, Nat.reduceLeDiff, Nat.reduceLT, Int.reduceNeg, ↓reduceIte, reduceCtorEq, Int.reduceEq, Int.reduceLT, Int.reduceLE, Int.reduceBEq, Int.reduceBNe, Int.reduceToNat, IntKind.bits, Int.reduceAdd, Int.reduceSub, Int.reduceMul, Int.reduceTDiv, Int.reduceTMod, R7B, take_add, List.append_assoc, List.length_append, Nat.add_assoc, shrink_lit, ball_app, RG, LPB, wrows_len, q2_0, o2_0, q2_1, o2_1, q2_w, o2_w, q4_0, o4_0, q4_1, o4_1, q4_2, o4_2, q4_3, o4_3, q4_w, o4_w, q7_0, q7_1, q7_2, q7_3, q7_4, q7_5, q7_6, q7_w, o7_w, brows_len, brows_sn, aslice, lenOf, boundOf, hf, Nat.le_refl, brows_all, List.drop_zero, expCell, List.nodup_cons, List.nodup_nil, List.not_mem_nil, not_false_eq_true, not_true_eq_false, and_true, and_false, if_false, List.mem_cons, mutIds]
  done
end Go.Proofs.Ytncppbkhnafpnaa.F

/- Encode. No condition. -/
set_option linter.unusedSimpArgs false
namespace Go.Proofs.Ytncppbkhnafpnaa.D
open Go Go.Proofs.Ytncppbkhnafpnaa.A
/-- A word's bytes behind others, for all words. -/
def encB (l : List Int) : List Int := l.flatMap fun x => gBs (IntKind.u64.wrap x) 4
theorem encB_next (l : List Int) {k : Nat} (hk : k < l.length) : encB (l.take (k + 1)) = encB (l.take k) ++ gBs (IntKind.u64.wrap (wrd l k)) 4 := by
  unfold encB
  rw [List.take_add_one, wrd_some l hk, List.flatMap_append]; simp
theorem encB_len (l : List Int) : (encB l).length = 4 * l.length := by
  unfold encB
  induction l with
  | nil => rfl
  | cons a l ih => rw [List.flatMap_cons, List.length_append, ih, gBs_len, List.length_cons]; omega
end Go.Proofs.Ytncppbkhnafpnaa.D
namespace Go.Proofs.Ytncppbkhnafpnaa.F
open Go Go.Proofs.Ytncppbkhnafpnaa.A Go.Proofs.Ytncppbkhnafpnaa.D
theorem e69 (l : List Int) (x : Int) (h : l.length ≤ 1000000) : LV E 69 [.ro (brows l), .int .u64 x, .int .i64 4] = some (.ro (brows (l ++ gBs x 4))) := by
  rw [LV_R (fn := f69) rfl rfl rfl]
  have h74 := e74 l (by omega)
  have h85 := e85 (l ++ gBs x 4)
  have h84 : LR E [] 84 [.lis 1 0 0 l.length, .int .i64 4] ⟨[.lst 0 0 5 1 [], .lst 0 0 5 1 (brows l)], []⟩ = some (.lis 1 1 0 l.length, ⟨[.lst 0 0 5 1 [], .lst 0 1 5 1 (brows l)], []⟩) := by
    rw [LR_prim (p := pGrow 5 1 1) rfl rfl]
    unfold pGrow
    simp only [List.getElem?_cons_succ, List.getElem?_cons_zero]
    rw [if_pos ⟨⟨trivial, trivial, trivial, brows_len l⟩, by decide, by show (l.length + 4) * 1 ≤ _; omega, by show l.length + 4 ≤ _; omega⟩]
    rfl
  simp only [f69, RB, pickV, eqbV, notV, negV, convV, faddrV, fldV, idxV, eqaggV, iaddrV, isnilV, nilckV, pnilV, cloV, extrV, slenV, minV, sidxV, abin, cmpInt, params, growLists, fillCells, newAt, rdPtr, wrPtr, AV.cells, asVal, lenOf, boundOf, rowsOf, argIds, freshIn, scalar1, setAll, AV.isData, AV.isYld, Nat.reduceAdd, Nat.reduceMul, Nat.reduceSub, Nat.reduceEqDiff, Nat.reduceLeDiff, Nat.reduceLT, Int.reduceNeg, ↓reduceIte, reduceCtorEq, Int.reduceEq, Int.reduceLT, Int.reduceLE, Int.reduceBEq, Int.reduceBNe, Int.reduceToNat, IntKind.bits, Int.reduceAdd, Int.reduceSub, Int.reduceMul, Int.reduceTDiv, Int.reduceTMod, R7B, take_add, List.append_assoc, List.length_append, Nat.add_assoc, shrink_lit, ball_app, RG, LPB, wrows_len, q2_0, o2_0, q2_1, o2_1, q2_w, o2_w, q4_0, o4_0, q4_1, o4_1, q4_2, o4_2, q4_3, o4_3, q4_w, o4_w, q7_0, q7_1, q7_2, q7_3, q7_4, q7_5, q7_6, q7_w, o7_w, brows_len, brows_sn, h74, h84]
  refine (W_rec2 (β := AV) (ι := {k : Nat // k ≤ 4}) (M := fun k => [(1, .int .u64 x), (2, .int .i64 4), (7, .lis 1 (1 + k.1) 0 (l.length + k.1)), (13, .int .i64 4), (14, .int .i64 (k.1 : Int))])
    (H := fun k => ⟨[.lst 0 0 5 1 [], .lst 0 (1 + k.1) 5 1 (brows (l ++ gBs x k.1))], []⟩) (r := fun _ => some (.ro (brows (l ++ gBs x 4)))) (μ := fun k => 4 - k.1) (fun i => ?_) (fun k ih => ?_) ⟨0, by decide⟩ rfl (by simp [gBs]))
  · simp [LPB]
  · obtain ⟨k, hk4⟩ := k
    simp only at ih ⊢
    have hlen : (l ++ gBs x k).length = l.length + k := by rw [List.length_append, gBs_len]
    by_cases hk : k < 4
    · have f1 : (k : Int) < 4 := by omega
      have f6 : IntKind.i64.wrap ((k : Int) + 1) = ((k + 1 : Nat) : Int) := by rw [IntWalk.i64_in _ (by omega)]; omega
      have b1 : IntKind.i64.wrap (8 * (k : Int)) = ((8 * k : Nat) : Int) := by rw [IntWalk.i64_in _ (by omega)]; omega
      have b2 : IntKind.i64.wrap (24 - ((8 * k : Nat) : Int)) = ((24 - 8 * k : Nat) : Int) := by rw [IntWalk.i64_in _ (by omega)]; omega
      have b3 : (0 : Int) ≤ ((24 - 8 * k : Nat) : Int) := by omega
      have ih := ih ⟨k + 1, by omega⟩ (by simp only; omega)
      rw [gBs_next x k, ← List.append_assoc, brows_sn] at ih
      have hal := brows_all (l ++ gBs x k)
      rw [hlen] at hal
      have f7 : l.length + (k + 1) ≤ 140737488355328 := by omega
      have f8 : l.length + (k + 1) ≤ 4611686018427387904 := by omega
      have f12 : ∀ n : Int, headFits 1 [[AV.int .u8 n]] = true := fun _ => rfl
      simp only [RB, pickV, eqbV, notV, negV, convV, faddrV, fldV, idxV, eqaggV, iaddrV, isnilV, nilckV, pnilV, cloV, extrV, slenV, minV, sidxV, abin, cmpInt, params, growLists, fillCells, newAt, rdPtr, wrPtr, AV.cells, asVal, lenOf, boundOf, rowsOf, argIds, freshIn, scalar1, setAll, AV.isData, AV.isYld, Nat.reduceAdd, Nat.reduceMul, Nat.reduceSub, Nat.reduceEqDiff, Nat.reduceLeDiff, Nat.reduceLT, Int.reduceNeg, ↓reduceIte, reduceCtorEq, Int.reduceEq, Int.reduceLT, Int.reduceLE, Int.reduceBEq, Int.reduceBNe, Int.reduceToNat, IntKind.bits, Int.reduceAdd, Int.reduceSub, Int.reduceMul, Int.reduceTDiv, Int.reduceTMod, R7B, take_add, List.append_assoc, List.length_append, Nat.add_assoc, shrink_lit, ball_app, RG, LPB, wrows_len, q2_0, o2_0, q2_1, o2_1, q2_w, o2_w, q4_0, o4_0, q4_1, o4_1, q4_2, o4_2, q4_3, o4_3, q4_w, o4_w, q7_0, q7_1, q7_2, q7_3, q7_4, q7_5, q7_6, q7_w, o7_w, brows_len, brows_sn, f1, f6, b1, b2, b3, hlen, hal, and_255, O_buildSlq, quietOk, aop_buildSl, fillRows, asData, aappend, f7, f8, f12, Nat.le_refl]
      exact ih
    · have e : k = 4 := by omega
      subst e
      clear ih
      have hal := brows_all (l ++ gBs x 4)
      rw [hlen] at hal
      simp only [RB, pickV, eqbV, notV, negV, convV, faddrV, fldV, idxV, eqaggV, iaddrV, isnilV, nilckV, pnilV, cloV, extrV, slenV, minV, sidxV, abin, cmpInt, params, growLists, fillCells, newAt, rdPtr, wrPtr, AV.cells, asVal, lenOf, boundOf, rowsOf, argIds, freshIn, scalar1, setAll, AV.isData, AV.isYld, Nat.reduceAdd, Nat.reduceMul, Nat.reduceSub, Nat.reduceEqDiff, Nat.reduceLeDiff, Nat.reduceLT, Int.reduceNeg, ↓reduceIte, reduceCtorEq, Int.reduceEq, Int.reduceLT, Int.reduceLE, Int.reduceBEq, Int.reduceBNe, Int.reduceToNat, IntKind.bits, Int.reduceAdd, Int.reduceSub, Int.reduceMul, Int.reduceTDiv, Int.reduceTMod, R7B, take_add, List.append_assoc, List.length_append, Nat.add_assoc, shrink_lit, ball_app, RG, LPB, wrows_len, q2_0, o2_0, q2_1, o2_1, q2_w, o2_w, q4_0, o4_0, q4_1, o4_1, q4_2, o4_2, q4_3, o4_3, q4_w, o4_w, q7_0, q7_1, q7_2, q7_3, q7_4, q7_5, q7_6, q7_w, o7_w, brows_len, brows_sn, hlen, hal, h85, Nat.le_refl, expCell, List.nodup_cons, List.nodup_nil, List.not_mem_nil, not_false_eq_true, not_true_eq_false, and_true, and_false, if_false, List.mem_cons, mutIds, CW_some, scalar, scalar1, lockAll, lockAt, reduceCtorEq, extrV, List.all_cons, List.all_nil, pairOk, AV.ids, List.contains_cons, List.contains_nil, Nat.reduceBEq, List.all_cons, List.all_nil, Bool.or_self, Bool.not_false, Bool.and_self, Bool.or_false]
      done
theorem e43 (l : List Int) (x : Int) (h : l.length ≤ 1000000) : LV E 43 [.ro (brows l), .int .u32 x] = some (.ro (brows (l ++ gBs (IntKind.u64.wrap x) 4))) := by
  rw [LV_R (fn := f43) rfl rfl rfl]
  have h69 := e69 l (IntKind.u64.wrap x) h
  simp only [f43, RB, pickV, eqbV, notV, negV, convV, faddrV, fldV, idxV, eqaggV, iaddrV, isnilV, nilckV, pnilV, cloV, extrV, slenV, minV, sidxV, abin, cmpInt, params, growLists, fillCells, newAt, rdPtr, wrPtr, AV.cells, asVal, lenOf, boundOf, rowsOf, argIds, freshIn, scalar1, setAll, AV.isData, AV.isYld, Nat.reduceAdd, Nat.reduceMul, Nat.reduceSub, Nat.reduceEqDiff, Nat.reduceLeDiff, Nat.reduceLT, Int.reduceNeg, ↓reduceIte, reduceCtorEq, Int.reduceEq, Int.reduceLT, Int.reduceLE, Int.reduceBEq, Int.reduceBNe, Int.reduceToNat, IntKind.bits, Int.reduceAdd, Int.reduceSub, Int.reduceMul, Int.reduceTDiv, Int.reduceTMod, R7B, take_add, List.append_assoc, List.length_append, Nat.add_assoc, shrink_lit, ball_app, RG, LPB, wrows_len, q2_0, o2_0, q2_1, o2_1, q2_w, o2_w, q4_0, o4_0, q4_1, o4_1, q4_2, o4_2, q4_3, o4_3, q4_w, o4_w, q7_0, q7_1, q7_2, q7_3, q7_4, q7_5, q7_6, q7_w, o7_w, brows_len, brows_sn, h69, expCell, List.nodup_cons, List.nodup_nil, List.not_mem_nil, not_false_eq_true, not_true_eq_false, and_true, and_false, if_false, List.mem_cons, mutIds, CW_some, scalar, scalar1, lockAll, lockAt, reduceCtorEq, extrV, List.all_cons, List.all_nil, pairOk, AV.ids, List.contains_cons, List.contains_nil, Nat.reduceBEq, List.all_cons, List.all_nil, Bool.or_self, Bool.not_false, Bool.and_self, Bool.or_false]
  done
theorem r25 {l : List Int} {lk lk1 : Nat} {rest : List Blk} (hlow : belowAll (rest.length + 2) rest = true) (hlo : 64 ≤ l.length) (hhi : l.length ≤ 16384) :
    LR E [] 25 [.ptr 1 0 0 0] ⟨.lst lk 0 23 1 (wrows l) :: .box lk1 78 [.lis 0 0 0 l.length] :: rest, []⟩ = some (.ro (brows (encB l)), ⟨.lst lk 0 23 1 (wrows l) :: .box lk1 78 [.lis 0 0 0 l.length] :: (rest ++ [.lst 0 0 5 1 [], .lst 2 0 5 1 []]), []⟩) := by
  rw [LR_R (fn := f25) rfl rfl rfl]
  simp only [f25, RB, pickV, eqbV, notV, negV, convV, faddrV, fldV, idxV, eqaggV, iaddrV, isnilV, nilckV, pnilV, cloV, extrV, slenV, minV, sidxV, abin, cmpInt, params, growLists, fillCells, newAt, rdPtr, wrPtr, AV.cells, asVal, lenOf, boundOf, rowsOf, argIds, freshIn, scalar1, setAll, AV.isData, AV.isYld, Nat.reduceAdd, Nat.reduceMul, Nat.reduceSub, Nat.reduceEqDiff, Nat.reduceLeDiff, Nat.reduceLT, Int.reduceNeg, ↓reduceIte, reduceCtorEq, Int.reduceEq, Int.reduceLT, Int.reduceLE, Int.reduceBEq, Int.reduceBNe, Int.reduceToNat, IntKind.bits, Int.reduceAdd, Int.reduceSub, Int.reduceMul, Int.reduceTDiv, Int.reduceTMod, R7B, take_add, List.append_assoc, List.length_append, Nat.add_assoc, shrink_lit, ball_app, RG, LPB, wrows_len, q2_0, o2_0, q2_1, o2_1, q2_w, o2_w, q4_0, o4_0, q4_1, o4_1, q4_2, o4_2, q4_3, o4_3, q4_w, o4_w, q7_0, q7_1, q7_2, q7_3, q7_4, q7_5, q7_6, q7_w, o7_w, brows_len, brows_sn]
  have hl4 : belowAll (rest.length + 4) rest = true := belowAll_mono (by omega) hlow
  refine (W_rec2 (β := AV × Hp) (ι := {k : Nat // k ≤ l.length}) (M := fun k => [(3, match k.1 with
      | 0 => .lis (rest.length + 3) 0 0 0
      | j + 1 => .ro (brows (encB (l.take (j + 1))))), (11, .lis 0 0 0 l.length), (12, .int .i64 (l.length : Int)), (13, .int .i64 (k.1 : Int))])
    (H := fun k => ⟨.lst lk 0 23 1 (wrows l) :: .box lk1 78 [.lis 0 0 0 l.length] :: (rest ++ [.lst 0 0 5 1 [], .lst (match k.1 with
      | 0 => 0
      | _ + 1 => 2) 0 5 1 []]), []⟩) (r := fun _ => _) (μ := fun k => l.length - k.1) (fun i => ?_) (fun k ih => ?_) ⟨0, Nat.zero_le _⟩ rfl rfl)
  · obtain ⟨k, hk⟩ := i
    have z2 : 0 < rest.length + 4 := by omega
    have z3 : rest.length + 3 < rest.length + 4 := by omega
    cases k <;> simp [LPB, hl4, z3, ball_app]
  · obtain ⟨k, hkl⟩ := k
    simp only at ih ⊢
    by_cases hk : k < l.length
    · have f1 : (k : Int) < (l.length : Int) := by omega
      have f2 : (0 : Int) ≤ (k : Int) := by omega
      have f6 : IntKind.i64.wrap ((k : Int) + 1) = ((k + 1 : Nat) : Int) := by rw [IntWalk.i64_in _ (by omega)]; omega
      have gg := wrows_get l hk
      have ih := ih ⟨k + 1, hk⟩ (by simp only; omega)
      simp only at ih
      have h43 := e43 (encB (l.take k)) (wrd l k) (by rw [encB_len, List.length_take]; omega)
      rw [← encB_next l hk] at h43
      cases k with
      | zero =>
        simp only [List.take_zero, show encB [] = [] from rfl, show brows [] = [] from rfl, Nat.zero_add] at h43 ih f6
        have f1 : (0 : Int) < (l.length : Int) := by omega
        have f6 : IntKind.i64.wrap (0 + 1) = 1 := by decide
        simp only [RB, pickV, eqbV, notV, negV, convV, faddrV, fldV, idxV, eqaggV, iaddrV, isnilV, nilckV, pnilV, cloV, extrV, slenV, minV, sidxV, abin, cmpInt, params, growLists, fillCells, newAt, rdPtr, wrPtr, AV.cells, asVal, lenOf, boundOf, rowsOf, argIds, freshIn, scalar1, setAll, AV.isData, AV.isYld, Nat.reduceAdd, Nat.reduceMul, Nat.reduceSub, Nat.reduceEqDiff, Nat.reduceLeDiff, Nat.reduceLT, Int.reduceNeg, ↓reduceIte, reduceCtorEq, Int.reduceEq, Int.reduceLT, Int.reduceLE, Int.reduceBEq, Int.reduceBNe, Int.reduceToNat, IntKind.bits, Int.reduceAdd, Int.reduceSub, Int.reduceMul, Int.reduceTDiv, Int.reduceTMod, R7B, take_add, List.append_assoc, List.length_append, Nat.add_assoc, shrink_lit, ball_app, RG, LPB, wrows_len, q2_0, o2_0, q2_1, o2_1, q2_w, o2_w, q4_0, o4_0, q4_1, o4_1, q4_2, o4_2, q4_3, o4_3, q4_w, o4_w, q7_0, q7_1, q7_2, q7_3, q7_4, q7_5, q7_6, q7_w, o7_w, brows_len, brows_sn, f1, f6, hk, gg, h43, lisFits, CW_some, scalar, scalar1, lockAll, lockAt, reduceCtorEq, extrV, List.all_cons, List.all_nil, pairOk, AV.ids, List.contains_cons, List.contains_nil, Nat.reduceBEq, List.all_cons, List.all_nil, Bool.or_self, Bool.not_false, Bool.and_self, Bool.or_false]
        exact ih
      | succ k =>
        simp only [RB, pickV, eqbV, notV, negV, convV, faddrV, fldV, idxV, eqaggV, iaddrV, isnilV, nilckV, pnilV, cloV, extrV, slenV, minV, sidxV, abin, cmpInt, params, growLists, fillCells, newAt, rdPtr, wrPtr, AV.cells, asVal, lenOf, boundOf, rowsOf, argIds, freshIn, scalar1, setAll, AV.isData, AV.isYld, Nat.reduceAdd, Nat.reduceMul, Nat.reduceSub, Nat.reduceEqDiff, Nat.reduceLeDiff, Nat.reduceLT, Int.reduceNeg, ↓reduceIte, reduceCtorEq, Int.reduceEq, Int.reduceLT, Int.reduceLE, Int.reduceBEq, Int.reduceBNe, Int.reduceToNat, IntKind.bits, Int.reduceAdd, Int.reduceSub, Int.reduceMul, Int.reduceTDiv, Int.reduceTMod, R7B, take_add, List.append_assoc, List.length_append, Nat.add_assoc, shrink_lit, ball_app, RG, LPB, wrows_len, q2_0, o2_0, q2_1, o2_1, q2_w, o2_w, q4_0, o4_0, q4_1, o4_1, q4_2, o4_2, q4_3, o4_3, q4_w, o4_w, q7_0, q7_1, q7_2, q7_3, q7_4, q7_5, q7_6, q7_w, o7_w, brows_len, brows_sn, f1, f2, f6, hk, gg, h43, lisFits, CW_some, scalar, scalar1, lockAll, lockAt, reduceCtorEq, extrV, List.all_cons, List.all_nil, pairOk, AV.ids, List.contains_cons, List.contains_nil, Nat.reduceBEq, List.all_cons, List.all_nil, Bool.or_self, Bool.not_false, Bool.and_self, Bool.or_false]
        exact ih
    · have e : k = l.length := by omega
      subst e
      clear ih
      have hs : ∀ n, 64 ≤ n → (match n with
        | 0 => AV.lis (rest.length + 3) 0 0 0
        | j + 1 => .ro (brows (encB (l.take (j + 1))))) = .ro (brows (encB (l.take n))) := fun n hn => by cases n with
        | zero => omega
        | succ n => rfl
      have hs2 : ∀ n, 64 ≤ n → (match n with
        | 0 => 0
        | _ + 1 => 2) = 2 := fun n hn => by cases n with
        | zero => omega
        | succ n => rfl
      rw [hs _ hlo, hs2 _ hlo, List.take_length]
      simp only [RB, pickV, eqbV, notV, negV, convV, faddrV, fldV, idxV, eqaggV, iaddrV, isnilV, nilckV, pnilV, cloV, extrV, slenV, minV, sidxV, abin, cmpInt, params, growLists, fillCells, newAt, rdPtr, wrPtr, AV.cells, asVal, lenOf, boundOf, rowsOf, argIds, freshIn, scalar1, setAll, AV.isData, AV.isYld, Nat.reduceAdd, Nat.reduceMul, Nat.reduceSub, Nat.reduceEqDiff, Nat.reduceLeDiff, Nat.reduceLT, Int.reduceNeg, ↓reduceIte, reduceCtorEq, Int.reduceEq, Int.reduceLT, Int.reduceLE, Int.reduceBEq, Int.reduceBNe, Int.reduceToNat, IntKind.bits, Int.reduceAdd, Int.reduceSub, Int.reduceMul, Int.reduceTDiv, Int.reduceTMod, R7B, take_add, List.append_assoc, List.length_append, Nat.add_assoc, shrink_lit, ball_app, RG, LPB, wrows_len, q2_0, o2_0, q2_1, o2_1, q2_w, o2_w, q4_0, o4_0, q4_1, o4_1, q4_2, o4_2, q4_3, o4_3, q4_w, o4_w, q7_0, q7_1, q7_2, q7_3, q7_4, q7_5, q7_6, q7_w, o7_w, brows_len, brows_sn, show ¬ (l.length : Int) < (l.length : Int) by omega]
end Go.Proofs.Ytncppbkhnafpnaa.F

/- Blocks taken in turn, given back in turn. No condition. -/
set_option linter.unusedSimpArgs false
namespace Go.Proofs.Ytncppbkhnafpnaa.D
open Go Go.Proofs.Ytncppbkhnafpnaa.A
def tt (A : List Nat) : List Bk := A.map fun c => (c, true)
def ff (B : List Nat) : List Bk := B.map fun c => (c, false)
def endB : Nat → List Bk → Nat
  | p, [] => p
  | p, b :: bs => endB (p + 1 + 2 ^ b.1) bs
def rowC (c : Nat) : Nat → List Nat → List Nat
  | _, [] => []
  | p, d :: B => if c = d then (p + 1) :: rowC c (p + 1 + 2 ^ d) B else rowC c (p + 1 + 2 ^ d) B
theorem endB_le : ∀ (bs : List Bk) (p : Nat), p ≤ endB p bs
  | [], p => Nat.le_refl p
  | b :: bs, p => by have := endB_le bs (p + 1 + 2 ^ b.1); have := pow_pos' b.1; show p ≤ endB (p + 1 + 2 ^ b.1) bs; exact Nat.le_trans (by omega) (endB_le bs (p + 1 + 2 ^ b.1))
theorem endB_app : ∀ (X Y : List Bk) (p : Nat), endB p (X ++ Y) = endB (endB p X) Y
  | [], Y, p => rfl
  | b :: X, Y, p => endB_app X Y _
theorem pcs_app2 : ∀ (X Y : List Bk) (p : Nat), pcs p (X ++ Y) = pcs p X ++ pcs (endB p X) Y
  | [], Y, p => rfl
  | b :: X, Y, p => by show _ :: pcs _ (X ++ Y) = _; rw [pcs_app2 X Y]; rfl
theorem chn_end {l : List Int} : ∀ {bs : List Bk} {p e : Nat}, Chn l p bs e → e = endB p bs
  | [], p, e, h => Eq.symm h
  | b :: bs, p, e, h => chn_end (bs := bs) h.2.2
theorem pcs_in {x : Nat × Bk} : ∀ {bs : List Bk} {p : Nat}, x ∈ pcs p bs → p + 1 ≤ x.1 ∧ x.1 + 2 ^ x.2.1 ≤ endB p bs
  | [], p, h => by cases h
  | b :: bs, p, h => by
    rcases List.mem_cons.1 h with rfl | h
    · exact ⟨Nat.le_refl _, endB_le bs _⟩
    · have := pcs_in h; have := pow_pos' b.1
      exact ⟨by omega, (pcs_in h).2⟩
theorem chn_cov : ∀ {bs : List Bk} {p i : Nat}, p ≤ i → i < endB p bs → ∃ x ∈ pcs p bs, i + 1 = x.1 ∨ (x.1 ≤ i ∧ i < x.1 + 2 ^ x.2.1)
  | [], p, i, h1, h2 => by have : endB p [] = p := rfl; omega
  | b :: bs, p, i, h1, h2 => by
    by_cases h : i < p + 1 + 2 ^ b.1
    · exact ⟨(p + 1, b), by simp [pcs], by simp only; omega⟩
    · obtain ⟨x, hx, k⟩ := chn_cov (bs := bs) (p := p + 1 + 2 ^ b.1) (i := i) (by omega) h2
      exact ⟨x, List.mem_cons_of_mem _ hx, k⟩
theorem flp_off (q : Nat) (t : Bool) : ∀ (bs : List Bk) (p : Nat), q < p + 1 → flp q t p bs = bs
  | [], p, h => rfl
  | b :: bs, p, h => by
    show (if p + 1 = q then (b.1, t) else b) :: flp q t (p + 1 + 2 ^ b.1) bs = b :: bs
    have := pow_pos' b.1
    rw [if_neg (by omega), flp_off q t bs _ (by omega)]
theorem flp_at (t : Bool) (c : Nat) (u : Bool) (Y : List Bk) : ∀ (X : List Bk) (p : Nat), flp (endB p X + 1) t p (X ++ (c, u) :: Y) = X ++ (c, t) :: Y
  | [], p => by
    show (if p + 1 = p + 1 then (c, t) else (c, u)) :: flp (p + 1) t (p + 1 + 2 ^ c) Y = (c, t) :: Y
    have := pow_pos' c
    rw [if_pos rfl, flp_off _ _ _ _ (by omega)]
  | b :: X, p => by
    have h := endB_le X (p + 1 + 2 ^ b.1)
    have := pow_pos' b.1
    show (if p + 1 = endB (p + 1 + 2 ^ b.1) X + 1 then (b.1, t) else b) :: flp (endB (p + 1 + 2 ^ b.1) X + 1) t (p + 1 + 2 ^ b.1) (X ++ (c, u) :: Y) = b :: (X ++ (c, t) :: Y)
    rw [if_neg (by omega), flp_at t c u Y X]
theorem tt_sn (A : List Nat) (c : Nat) : tt (A ++ [c]) = tt A ++ [(c, true)] := by simp [tt]
theorem tt_cons (A B : List Nat) (c : Nat) : tt (A ++ [c]) ++ ff B = tt A ++ (c, true) :: ff B := by rw [tt_sn, List.append_assoc]; rfl
/-- The arena n with the blocks A taken, B free, all else empty. -/
structure Rr (n : Nat) (A B : List Nat) (l : List Int) : Prop where
  gd : Gd l (tt A ++ ff B) (fun c => rowC c (endB 16 (tt A)) B)
  len : l.length = n
  z0 : wrd l 0 = n
  lo : ∀ i, 1 ≤ i → i ≤ 8 → wrd l i = 0
  zb : ∀ x ∈ pcs 16 (tt A ++ ff B), ∀ j, x.1 ≤ j → j < x.1 + 2 ^ x.2.1 → (x.2.2 = true ∨ j ≠ x.1) → wrd l j = 0
  hi : ∀ i, (wrd l 15).toNat ≤ i → 16 ≤ i → wrd l i = 0
theorem Rr.new {n : Nat} (h1 : 64 ≤ n) (h2 : n ≤ 16384) : Rr n [] [] (newL n) := by
  have W := wrd_newL h1
  refine ⟨gd_new h1 h2, newL_len n, by rw [W]; simp, fun i a b => by rw [W, if_neg (by omega), if_neg (by omega)], (fun x hx => by cases hx), fun i a b => by rw [W, if_neg (by omega), if_neg (by omega)]⟩
theorem Rr.ext {n : Nat} {A : List Nat} {l l' : List Int} (h : Rr n A [] l) (h' : Rr n A [] l') : l = l' := by
  have e1 := chn_end h.gd.ar.chn
  have e2 := chn_end h'.gd.ar.chn
  have w1 := h.gd.ar.w 15
  have w2 := h'.gd.ar.w 15
  have key : ∀ i, wrd l i = wrd l' i := fun i => by
    by_cases i0 : i = 0
    · rw [i0, h.z0, h'.z0]
    by_cases i8 : i ≤ 8
    · rw [h.lo i (by omega) i8, h'.lo i (by omega) i8]
    by_cases i14 : i ≤ 14
    · have a := h.gd.lnk (i - 9) (by omega)
      have b := h'.gd.lnk (i - 9) (by omega)
      rw [show 9 + (i - 9) = i by omega] at a b
      exact (show wrd l i = 0 from a).trans (show wrd l' i = 0 from b).symm
    by_cases i15 : i = 15
    · subst i15; omega
    by_cases ie : i < endB 16 (tt A ++ ff [])
    · obtain ⟨x, hx, k | ⟨k1, k2⟩⟩ := chn_cov (p := 16) (by omega) ie
      · have a := (h.gd.blk hx).2.2.2.2
        have b := (h'.gd.blk hx).2.2.2.2
        rw [show x.1 - 1 = i by omega] at a b
        rw [a, b]
      · have ht : x.2.2 = true := by
          rw [show ff [] = [] from rfl, List.append_nil] at hx
          have : ∀ (A : List Nat) (p : Nat), ∀ x ∈ pcs p (tt A), x.2.2 = true := fun A => by
            induction A with
            | nil => intro p x hx; cases hx
            | cons a A ih =>
              intro p x hx
              rcases List.mem_cons.1 hx with rfl | hx
              · rfl
              · exact ih _ x hx
          exact this A 16 x hx
        rw [h.zb x hx i k1 k2 (.inl ht), h'.zb x hx i k1 k2 (.inl ht)]
    · rw [h.hi i (by omega) (by omega), h'.hi i (by omega) (by omega)]
  refine List.ext_getElem (by rw [h.len, h'.len]) fun i a b => ?_
  have := key i
  unfold wrd at this
  simpa [List.getD_eq_getElem?_getD, a, b] using this
end Go.Proofs.Ytncppbkhnafpnaa.D

/- One block more, one block back, one block again. No condition. -/
set_option linter.unusedSimpArgs false
namespace Go.Proofs.Ytncppbkhnafpnaa.D
open Go Go.Proofs.Ytncppbkhnafpnaa.A
def plc (A : List Nat) : Nat := endB 16 (tt A) + 1
theorem plc_sn (A : List Nat) (c : Nat) : endB 16 (tt (A ++ [c])) = plc A + 2 ^ c := by
  rw [tt_sn, endB_app]; rfl
theorem plc_mem (A B : List Nat) (c : Nat) : (plc A, (c, true)) ∈ pcs 16 (tt (A ++ [c]) ++ ff B) := by
  rw [tt_cons, pcs_app2]; exact List.mem_append_right _ (by simp [pcs, plc])
theorem plc_ge (A : List Nat) : 17 ≤ plc A := by have := endB_le (tt A) 16; unfold plc; omega
theorem row_nil (p : Nat) : (fun c => rowC c p []) = fun _ => [] := rfl
theorem Rr.alloc {n : Nat} {A : List Nat} {l : List Int} (h : Rr n A [] l) {c : Nat} (hc : c ≤ 5) :
    allocS l (c : Int) = (0, 6, l) ∨ ∃ l', allocS l (c : Int) = (((plc A : Nat) : Int), 0, l') ∧ Rr n (A ++ [c]) [] l' := by
  have e := chn_end h.gd.ar.chn
  have w := h.gd.ar.w 15
  have ee : (wrd l 15).toNat = endB 16 (tt A) := by rw [e]; simp [ff]
  have hlk : wrd l (9 + c) = 0 := h.gd.lnk c hc
  have hge := endB_le (tt A) 16
  unfold allocS
  rw [if_pos (by omega), Int.toNat_natCast]
  unfold allocN
  rw [if_neg (not_not_intro hlk)]
  by_cases hfit : (wrd l 15).toNat + 1 + 2 ^ c ≤ l.length
  · rw [if_pos hfit]
    obtain ⟨g1, _, _⟩ := h.gd.new hc hfit
    have hp := pow_pos' c
    have hlen : (wrd l 15).toNat + 1 + 2 ^ c ≤ (l.set 15 (((wrd l 15).toNat + 1 + 2 ^ c : Nat) : Int)).length := by rw [List.length_set]; exact hfit
    have hlo := h.gd.ar.lo
    have W : ∀ i, wrd (takeL' (l.set 15 (((wrd l 15).toNat + 1 + 2 ^ c : Nat) : Int)) c ((wrd l 15).toNat + 1)) i = if (wrd l 15).toNat + 1 ≤ i ∧ i < (wrd l 15).toNat + 1 + 2 ^ c then 0 else if i = (wrd l 15).toNat then 17 + 2 * (c : Int) else if i = 15 then (((wrd l 15).toNat + 1 + 2 ^ c : Nat) : Int) else wrd l i := fun i => by
      rw [wrd_take hlen (by omega), wrd_set _ (show 15 < l.length by omega)]
      simp only [show (15 = i) = (i = 15) from propext ⟨Eq.symm, Eq.symm⟩, show (i + 1 = (wrd l 15).toNat + 1) = (i = (wrd l 15).toNat) from propext ⟨fun h => by omega, fun h => by omega⟩]
    have eb : tt (A ++ [c]) ++ ff [] = tt A ++ ff [] ++ [(c, true)] := by rw [tt_sn]; simp [ff]
    refine .inr ⟨_, by rw [show (wrd l 15 : Int) + 1 = ((plc A : Nat) : Int) by unfold plc; omega], ?_, ?_, ?_, ?_, ?_, ?_⟩
    · rw [eb]; exact g1
    · rw [take_len hlen, List.length_set]; exact h.len
    · rw [W, if_neg (by omega), if_neg (by omega), if_neg (by omega)]; exact h.z0
    · intro i a b
      rw [W, if_neg (by omega), if_neg (by omega), if_neg (by omega)]; exact h.lo i a b
    · intro x hx j j1 j2 j3
      rw [W]
      by_cases hj : (wrd l 15).toNat + 1 ≤ j ∧ j < (wrd l 15).toNat + 1 + 2 ^ c
      · rw [if_pos hj]
      · rw [if_neg hj]
        rw [eb, pcs_app2] at hx
        rcases List.mem_append.1 hx with hx | hx
        · obtain ⟨y1, y2⟩ := pcs_in hx
          rw [if_neg (by omega), if_neg (by omega)]; exact h.zb x hx j j1 j2 j3
        · simp only [pcs, List.mem_singleton] at hx
          subst hx
          simp only at j1 j2
          omega
    · intro i a b
      have e15 : wrd (takeL' (l.set 15 (((wrd l 15).toNat + 1 + 2 ^ c : Nat) : Int)) c ((wrd l 15).toNat + 1)) 15 = (((wrd l 15).toNat + 1 + 2 ^ c : Nat) : Int) := by rw [W, if_neg (by omega), if_neg (by omega), if_pos rfl]
      rw [e15, Int.toNat_natCast] at a
      rw [W, if_neg (by omega), if_neg (by omega), if_neg (by omega)]; exact h.hi i (by omega) b
  · rw [if_neg hfit]; exact .inl rfl
theorem Rr.down {n : Nat} {A B : List Nat} {l : List Int} {c : Nat} (h : Rr n (A ++ [c]) B l) :
    Gd (l.set (plc A) 7) (tt (A ++ [c]) ++ ff B) (fun d => rowC d (endB 16 (tt (A ++ [c]))) B) ∧
    freeS (l.set (plc A) 7) (tt (A ++ [c]) ++ ff B) (plc A : Nat) = (0, giveL (l.set (plc A) 7) c (plc A)) ∧
    Rr n A (c :: B) (giveL (l.set (plc A) 7) c (plc A)) := by
  have hm := plc_mem A B c
  obtain ⟨b1, b2, b3, hc, b5⟩ := h.gd.blk hm
  simp only at b1 b2 b3 hc b5
  have hp := pow_pos' c
  have hlo := h.gd.ar.lo
  obtain ⟨g1, _⟩ := h.gd.store hm rfl (j := plc A) (Nat.le_refl _) (by simp only; omega) (v := 7) (by decide)
  have hs : ∀ i, wrd (l.set (plc A) 7) i = if plc A = i then 7 else wrd l i := fun i => wrd_set _ (by omega)
  obtain ⟨g2, _⟩ := g1.give hm
  have hfit : plc A + 2 ^ c ≤ (l.set (plc A) 7).length := by rw [List.length_set]; exact b3
  have W := fun i => wrd_give (l := l.set (plc A) 7) (i := i) hc hfit b1
  have eb : flp (plc A) false 16 (tt (A ++ [c]) ++ ff B) = tt A ++ ff (c :: B) := by
    rw [tt_cons]; exact flp_at false c true (ff B) (tt A) 16
  have efl : (fun d => if d = c then plc A :: rowC c (endB 16 (tt (A ++ [c]))) B else rowC d (endB 16 (tt (A ++ [c]))) B) = fun d => rowC d (endB 16 (tt A)) (c :: B) := by
    funext d
    rw [plc_sn]
    show _ = if d = c then (endB 16 (tt A) + 1) :: rowC d (endB 16 (tt A) + 1 + 2 ^ c) B else rowC d (endB 16 (tt A) + 1 + 2 ^ c) B
    by_cases hd : d = c
    · subst hd; rw [if_pos rfl, if_pos rfl]; rfl
    · rw [if_neg hd, if_neg hd]; rfl
  rw [eb, efl] at g2
  have lw : ∀ i, i ≤ 8 → wrd (giveL (l.set (plc A) 7) c (plc A)) i = wrd l i := fun i hi => by
    rw [W, if_neg (by omega), if_neg (by omega), if_neg (by omega), if_neg (by omega), hs, if_neg (by omega)]
  have e15 : wrd (giveL (l.set (plc A) 7) c (plc A)) 15 = wrd l 15 := by
    rw [W, if_neg (by omega), if_neg (by omega), if_neg (by omega), if_neg (by omega), hs, if_neg (by omega)]
  refine ⟨g1, ?_, g2, ?_, ?_, ?_, ?_, ?_⟩
  · unfold freeS
    rw [g1.fnd hm]
    simp only
    have l5 := h.lo 5 (by decide) (by decide)
    have l6 := h.lo 6 (by decide) (by decide)
    have s5 : wrd (l.set (plc A) 7) 5 = 0 := by rw [hs, if_neg (by omega), l5]
    have s6 : wrd (l.set (plc A) 7) 6 = 0 := by rw [hs, if_neg (by omega), l6]
    rw [s5, s6, if_neg (by omega)]
  · rw [give_len hfit, List.length_set]; exact h.len
  · rw [lw 0 (by omega)]; exact h.z0
  · intro i a b; rw [lw i b]; exact h.lo i a b
  · intro x hx j j1 j2 j3
    have hx' : x = (plc A, (c, false)) ∨ (x.1 ≠ plc A ∧ x ∈ pcs 16 (tt (A ++ [c]) ++ ff B)) := by
      rw [← eb, pcs_flp] at hx
      obtain ⟨y, hy, rfl⟩ := List.mem_map.1 hx
      by_cases hq : y.1 = plc A
      · left
        have := h.gd.one (q := plc A) (a := y.2) (b := (c, true)) (by rw [← hq]; exact hy) hm
        unfold flx; rw [if_pos hq, this, hq]
      · right; rw [flx_ne hq]; exact ⟨hq, hy⟩
    rcases hx' with rfl | ⟨hn, hx'⟩
    · simp only at j1 j2 j3
      have j4 : j ≠ plc A := by rcases j3 with e | e; cases e; exact e
      rw [W, if_neg (by omega), if_neg (by omega), if_neg j4, if_pos ⟨j1, j2⟩]
    · obtain ⟨y1, y2, y3, y4, y5⟩ := h.gd.blk hx'
      have ap : x.1 + 2 ^ x.2.1 + 1 ≤ plc A ∨ plc A + 2 ^ c + 1 ≤ x.1 := by
        rcases pcs_apart h.gd.ar.chn hm hx' with e | e | e
        · exact absurd (by rw [← e]) hn
        · exact .inr e
        · exact .inl e
      have hz := h.zb x hx' j j1 j2 j3
      rcases ap with e | e
      · rw [W, if_neg (by omega), if_neg (by omega), if_neg (by omega), if_neg (by omega), hs, if_neg (by omega)]; exact hz
      · rw [W, if_neg (by omega), if_neg (by omega), if_neg (by omega), if_neg (by omega), hs, if_neg (by omega)]; exact hz
  · intro i a b
    rw [e15] at a
    rw [W, if_neg (by omega), if_neg (by omega), if_neg (by omega), if_neg (by omega), hs, if_neg (by omega)]; exact h.hi i a b
theorem Rr.up {n : Nat} {A B : List Nat} {l : List Int} {c : Nat} (hc : c ≤ 5) (h : Rr n A (c :: B) l) :
    ∃ l', allocS l (c : Int) = (((plc A : Nat) : Int), 0, l') ∧ Rr n (A ++ [c]) B l' ∧ wrd l' (plc A) = 0 := by
  have hf : (fun d => rowC d (endB 16 (tt A)) (c :: B)) c = plc A :: rowC c (endB 16 (tt A) + 1 + 2 ^ c) B := by
    show (if c = c then _ else _) = _
    rw [if_pos rfl]; rfl
  have hm := h.gd.mem c hc (plc A) (by rw [show rowC c (endB 16 (tt A)) (c :: B) = plc A :: _ from hf]; simp)
  obtain ⟨b1, b2, b3, _, b5⟩ := h.gd.blk hm
  simp only at b1 b2 b3 b5
  have hp := pow_pos' c
  have hlo := h.gd.ar.lo
  have hlk := h.gd.lnk c hc
  rw [show rowC c (endB 16 (tt A)) (c :: B) = plc A :: _ from hf] at hlk
  have e0 : wrd l (9 + c) = ((plc A : Nat) : Int) := hlk.1
  obtain ⟨g1, _, g3⟩ := h.gd.pop hc hf
  have hfit : plc A + 2 ^ c ≤ (l.set (9 + c) (wrd l (plc A))).length := by rw [List.length_set]; exact b3
  have W : ∀ i, wrd (takeL' (l.set (9 + c) (wrd l (plc A))) c (plc A)) i = if plc A ≤ i ∧ i < plc A + 2 ^ c then 0 else if i + 1 = plc A then 17 + 2 * (c : Int) else if 9 + c = i then wrd l (plc A) else wrd l i := fun i => by
    rw [wrd_take hfit (by omega), wrd_set _ (by omega)]
  have eb : flp (plc A) true 16 (tt A ++ ff (c :: B)) = tt (A ++ [c]) ++ ff B := by
    rw [tt_cons]; exact flp_at true c false (ff B) (tt A) 16
  have efl : (fun d => if d = c then rowC c (endB 16 (tt A) + 1 + 2 ^ c) B else (fun d => rowC d (endB 16 (tt A)) (c :: B)) d) = fun d => rowC d (endB 16 (tt (A ++ [c]))) B := by
    funext d
    rw [plc_sn]
    by_cases hd : d = c
    · subst hd; rw [if_pos rfl]; rfl
    · rw [if_neg hd]
      show (if d = c then (endB 16 (tt A) + 1) :: rowC d (endB 16 (tt A) + 1 + 2 ^ c) B else rowC d (endB 16 (tt A) + 1 + 2 ^ c) B) = _
      rw [if_neg hd]; rfl
  rw [eb, efl] at g1
  rw [eb] at g3
  have e15 : wrd (takeL' (l.set (9 + c) (wrd l (plc A))) c (plc A)) 15 = wrd l 15 := by
    rw [W, if_neg (by omega), if_neg (by omega), if_neg (by omega)]
  have ea : allocS l (c : Int) = (((plc A : Nat) : Int), 0, takeL' (l.set (9 + c) (wrd l (plc A))) c (plc A)) := by
    unfold allocS
    rw [if_pos (by omega), Int.toNat_natCast]
    unfold allocN
    rw [e0, if_pos (by omega), Int.toNat_natCast]
  refine ⟨_, ea, ⟨g1, ?_, ?_, ?_, ?_, ?_⟩, by rw [W, if_pos (by omega)]⟩
  · rw [take_len hfit, List.length_set]; exact h.len
  · rw [W, if_neg (by omega), if_neg (by omega), if_neg (by omega)]; exact h.z0
  · intro i a b; rw [W, if_neg (by omega), if_neg (by omega), if_neg (by omega)]; exact h.lo i a b
  · intro x hx j j1 j2 j3
    by_cases hq : x.1 = plc A
    · have := g1.one (q := plc A) (a := x.2) (b := (c, true)) (by rw [← hq]; exact hx) g3
      rw [this, hq] at j2
      rw [hq] at j1
      rw [W, if_pos ⟨j1, j2⟩]
    · have hx' : x ∈ pcs 16 (tt A ++ ff (c :: B)) := by
        rw [← eb, pcs_flp] at hx
        obtain ⟨y, hy, rfl⟩ := List.mem_map.1 hx
        have hy' : y.1 ≠ plc A := by
          intro e; apply hq; unfold flx; rw [if_pos e]; exact e
        rw [flx_ne hy']; exact hy
      obtain ⟨y1, y2, y3, y4, y5⟩ := h.gd.blk hx'
      have ap : x.1 + 2 ^ x.2.1 + 1 ≤ plc A ∨ plc A + 2 ^ c + 1 ≤ x.1 := by
        rcases pcs_apart h.gd.ar.chn hm hx' with e | e | e
        · exact absurd (by rw [← e]) hq
        · exact .inr e
        · exact .inl e
      have hz := h.zb x hx' j j1 j2 j3
      rcases ap with e | e
      · rw [W, if_neg (by omega), if_neg (by omega), if_neg (by omega)]; exact hz
      · rw [W, if_neg (by omega), if_neg (by omega), if_neg (by omega)]; exact hz
  · intro i a b
    rw [e15] at a
    rw [W, if_neg (by omega), if_neg (by omega), if_neg (by omega)]; exact h.hi i a b
end Go.Proofs.Ytncppbkhnafpnaa.D

/- Equal bytes; a number that is not there; the places in turn. No condition. -/
set_option linter.unusedSimpArgs false
namespace Go.Proofs.Ytncppbkhnafpnaa.D
open Go Go.Proofs.Ytncppbkhnafpnaa.A
theorem bytes_some : ∀ l : List Int, ∃ b, bytesOf (brows l) = some b
  | [] => ⟨[], rfl⟩
  | n :: l => by
    obtain ⟨b, h⟩ := bytes_some l
    refine ⟨UInt8.ofNat n.toNat :: b, ?_⟩
    show (bytesOf (brows l)).map _ = _
    rw [h]; rfl
/-- The places of the blocks A, in turn. -/
def pls (A : List Nat) : List Int := (List.range A.length).map fun i => ((plc (A.take i) : Nat) : Int)
theorem pls_len (A : List Nat) : (pls A).length = A.length := by simp [pls]
theorem pls_sn (A : List Nat) (c : Nat) : pls (A ++ [c]) = pls A ++ [((plc A : Nat) : Int)] := by
  unfold pls
  rw [List.length_append, List.length_singleton, List.range_succ, List.map_append]
  congr 1
  · refine List.map_congr_left fun i hi => ?_
    have := List.mem_range.1 hi
    rw [List.take_append_of_le_length (by omega)]
  · simp
theorem pls_at (A B : List Nat) (c : Nat) : nrow (pls (A ++ c :: B)) A.length = ((plc A : Nat) : Int) := by
  unfold nrow pls
  rw [List.getD_eq_getElem?_getD, List.getElem?_map, List.getElem?_range (by simp)]
  simp
theorem plc_up (A B : List Nat) : plc A ≤ plc (A ++ B) := by
  unfold plc
  have e : tt (A ++ B) = tt A ++ tt B := by simp [tt]
  rw [e, endB_app]
  have := endB_le (tt B) (endB 16 (tt A))
  omega
theorem pls_new (A : List Nat) : ∀ x ∈ pls A, x ≠ ((plc A : Nat) : Int) := fun x hx => by
  unfold pls at hx
  obtain ⟨i, hi, rfl⟩ := List.mem_map.1 hx
  have hi := List.mem_range.1 hi
  have e : A = A.take i ++ A[i] :: A.drop (i + 1) := by rw [← List.drop_eq_getElem_cons hi, List.take_append_drop]
  have h1 := plc_up (A.take i ++ [A[i]]) (A.drop (i + 1))
  rw [List.append_assoc, List.singleton_append, ← e] at h1
  have h2 : plc (A.take i ++ [A[i]]) = plc (A.take i) + 2 ^ A[i] + 1 := by unfold plc; rw [plc_sn]; rfl
  have := pow_pos' A[i]
  omega
theorem pcs_ff : ∀ (B : List Nat) (p : Nat), pcsOf true (pcs p (ff B)) = [] ∧ (pcsOf false (pcs p (ff B))).length = B.length
  | [], p => ⟨rfl, rfl⟩
  | c :: B, p => by
    obtain ⟨h1, h2⟩ := pcs_ff B (p + 1 + 2 ^ c)
    refine ⟨?_, ?_⟩
    · show pcsOf true ((p + 1, (c, false)) :: pcs (p + 1 + 2 ^ c) (ff B)) = []
      unfold pcsOf at h1 ⊢
      simpa using h1
    · show (pcsOf false ((p + 1, (c, false)) :: pcs (p + 1 + 2 ^ c) (ff B))).length = _
      unfold pcsOf at h2 ⊢
      simpa using h2
theorem pcs_cls (c : Nat) (B : List Nat) : ∀ (A : List Nat) (p : Nat), (nthP (pcsOf false (pcs p (ff (A ++ c :: B)))) A.length).2 = c
  | [], p => by simp [nthP, pcsOf, pcs, ff]
  | a :: A, p => by
    have h := pcs_cls c B A (p + 1 + 2 ^ a)
    have e : pcsOf false (pcs p (ff (a :: A ++ c :: B))) = (p + 1, a) :: pcsOf false (pcs (p + 1 + 2 ^ a) (ff (A ++ c :: B))) := rfl
    rw [e]
    unfold nthP at h ⊢
    simpa using h
theorem nums_sn (l : List Int) (x : Int) : nums (l ++ [x]) = nums l ++ [[.int .i64 x]] := by simp [nums]
theorem wS {l : List Int} {bks : List Bk} {fl : Nat → List Nat} (h : Gd l bks fl) {p c : Nat} (hp : (p, (c, true)) ∈ pcs 16 bks) : wordS bks (p : Int) 0 = (0, some p) := by
  have := pow_pos' c
  unfold wordS
  rw [h.fnd hp]
  simp only
  rw [if_neg (by omega)]; rfl
theorem free2 {l : List Int} {bks : List Bk} {fl : Nat → List Nat} (h : Gd l bks fl) {p c : Nat} (hp : (p, (c, false)) ∈ pcs 16 bks) : freeS l bks (p : Int) = (4, l) := by
  have e : fnd (p : Int) (pcs 16 bks) = none := by
    unfold fnd
    refine List.find?_eq_none.2 fun x hx => ?_
    intro hh
    simp only [Bool.and_eq_true, beq_iff_eq] at hh
    obtain ⟨h1, h2⟩ := hh
    have e : x.1 = p := by omega
    have := h.one (q := p) (a := x.2) (b := (c, false)) (by rw [← e]; exact hx) hp
    rw [this] at h1; cases h1
  unfold freeS
  rw [e]
theorem plc_mem2 (A B : List Nat) (c : Nat) : (plc A, (c, false)) ∈ pcs 16 (tt A ++ ff (c :: B)) := by
  rw [pcs_app2]; exact List.mem_append_right _ (by simp [pcs, plc, ff])
end Go.Proofs.Ytncppbkhnafpnaa.D
namespace Go.Proofs.Ytncppbkhnafpnaa.F
open Go Go.Proofs.Ytncppbkhnafpnaa.A Go.Proofs.Ytncppbkhnafpnaa.D
theorem e27 (l : List Int) : LV E 27 [.ro (brows l), .ro (brows l)] = some (.bool true) := by
  obtain ⟨b, hb⟩ := bytes_some l
  rw [LV_R (fn := f27) rfl rfl rfl]
  simp only [f27, RB, pickV, eqbV, notV, negV, convV, faddrV, fldV, idxV, eqaggV, iaddrV, isnilV, nilckV, pnilV, cloV, extrV, slenV, minV, sidxV, abin, cmpInt, params, growLists, fillCells, newAt, rdPtr, wrPtr, AV.cells, asVal, lenOf, boundOf, rowsOf, argIds, freshIn, scalar1, setAll, AV.isData, AV.isYld, Nat.reduceAdd, Nat.reduceMul, Nat.reduceSub, Nat.reduceEqDiff, Nat.reduceLeDiff, Nat.reduceLT, Int.reduceNeg, ↓reduceIte, reduceCtorEq, Int.reduceEq, Int.reduceLT, Int.reduceLE, Int.reduceBEq, Int.reduceBNe, Int.reduceToNat, IntKind.bits, Int.reduceAdd, Int.reduceSub, Int.reduceMul, Int.reduceTDiv, Int.reduceTMod, R7B, take_add, List.append_assoc, List.length_append, Nat.add_assoc, shrink_lit, ball_app, RG, LPB, wrows_len, q2_0, o2_0, q2_1, o2_1, q2_w, o2_w, q4_0, o4_0, q4_1, o4_1, q4_2, o4_2, q4_3, o4_3, q4_w, o4_w, q7_0, q7_1, q7_2, q7_3, q7_4, q7_5, q7_6, q7_w, o7_w, rowsOf, hb, expCell, List.nodup_cons, List.nodup_nil, List.not_mem_nil, not_false_eq_true, not_true_eq_false, and_true, and_false, if_false, List.mem_cons, mutIds]
theorem e44 (l : List Int) (p : Int) (h : ∀ x ∈ l, x ≠ p) (hl : l.length ≤ 1000) : LV E 44 [.ro (nums l), .int .i64 p] = some (.int .i64 (-1)) := by
  rw [LV_R (fn := f44) rfl rfl rfl]
  simp only [f44, RB, pickV, eqbV, notV, negV, convV, faddrV, fldV, idxV, eqaggV, iaddrV, isnilV, nilckV, pnilV, cloV, extrV, slenV, minV, sidxV, abin, cmpInt, params, growLists, fillCells, newAt, rdPtr, wrPtr, AV.cells, asVal, lenOf, boundOf, rowsOf, argIds, freshIn, scalar1, setAll, AV.isData, AV.isYld, Nat.reduceAdd, Nat.reduceMul, Nat.reduceSub, Nat.reduceEqDiff, Nat.reduceLeDiff, Nat.reduceLT, Int.reduceNeg, ↓reduceIte, reduceCtorEq, Int.reduceEq, Int.reduceLT, Int.reduceLE, Int.reduceBEq, Int.reduceBNe, Int.reduceToNat, IntKind.bits, Int.reduceAdd, Int.reduceSub, Int.reduceMul, Int.reduceTDiv, Int.reduceTMod, R7B, take_add, List.append_assoc, List.length_append, Nat.add_assoc, shrink_lit, ball_app, RG, LPB, wrows_len, q2_0, o2_0, q2_1, o2_1, q2_w, o2_w, q4_0, o4_0, q4_1, o4_1, q4_2, o4_2, q4_3, o4_3, q4_w, o4_w, q7_0, q7_1, q7_2, q7_3, q7_4, q7_5, q7_6, q7_w, o7_w, nums_len]
  refine (W_rec2 (β := AV) (ι := {k : Nat // k ≤ l.length}) (M := fun k => [(0, .ro (nums l)), (1, .int .i64 p), (7, .int .i64 (l.length : Int)), (8, .int .i64 (k.1 : Int))]) (H := fun _ => ⟨[], []⟩) (r := fun _ => some (.int .i64 (-1))) (μ := fun k => l.length - k.1) (fun s => ?_) (fun s ih => ?_) ⟨0, Nat.zero_le _⟩ rfl rfl)
  · simp [LPB]
  · obtain ⟨k, hkl⟩ := s
    simp only at ih ⊢
    by_cases hk : k < l.length
    · have f1 : (k : Int) < (l.length : Int) := by omega
      have f2 : (0 : Int) ≤ (k : Int) := by omega
      have f6 : IntKind.i64.wrap ((k : Int) + 1) = ((k + 1 : Nat) : Int) := by rw [IntWalk.i64_in _ (by omega)]; omega
      have gg := nums_get l hk
      have ne : (p == nrow l k) = false := by
        rw [beq_eq_false_iff_ne]
        intro e
        refine h _ ?_ e.symm
        unfold nrow; rw [List.getD_eq_getElem?_getD, List.getElem?_eq_getElem hk]; exact List.getElem_mem hk
      have ih := ih ⟨k + 1, hk⟩ (by simp only; omega)
      simp only at ih
      simp only [RB, pickV, eqbV, notV, negV, convV, faddrV, fldV, idxV, eqaggV, iaddrV, isnilV, nilckV, pnilV, cloV, extrV, slenV, minV, sidxV, abin, cmpInt, params, growLists, fillCells, newAt, rdPtr, wrPtr, AV.cells, asVal, lenOf, boundOf, rowsOf, argIds, freshIn, scalar1, setAll, AV.isData, AV.isYld, Nat.reduceAdd, Nat.reduceMul, Nat.reduceSub, Nat.reduceEqDiff, Nat.reduceLeDiff, Nat.reduceLT, Int.reduceNeg, ↓reduceIte, reduceCtorEq, Int.reduceEq, Int.reduceLT, Int.reduceLE, Int.reduceBEq, Int.reduceBNe, Int.reduceToNat, IntKind.bits, Int.reduceAdd, Int.reduceSub, Int.reduceMul, Int.reduceTDiv, Int.reduceTMod, R7B, take_add, List.append_assoc, List.length_append, Nat.add_assoc, shrink_lit, ball_app, RG, LPB, wrows_len, q2_0, o2_0, q2_1, o2_1, q2_w, o2_w, q4_0, o4_0, q4_1, o4_1, q4_2, o4_2, q4_3, o4_3, q4_w, o4_w, q7_0, q7_1, q7_2, q7_3, q7_4, q7_5, q7_6, q7_w, o7_w, f1, f2, f6, gg, ne]
      exact ih
    · have f1 : ¬ (k : Int) < (l.length : Int) := by omega
      clear ih
      simp only [RB, pickV, eqbV, notV, negV, convV, faddrV, fldV, idxV, eqaggV, iaddrV, isnilV, nilckV, pnilV, cloV, extrV, slenV, minV, sidxV, abin, cmpInt, params, growLists, fillCells, newAt, rdPtr, wrPtr, AV.cells, asVal, lenOf, boundOf, rowsOf, argIds, freshIn, scalar1, setAll, AV.isData, AV.isYld, Nat.reduceAdd, Nat.reduceMul, Nat.reduceSub, Nat.reduceEqDiff, Nat.reduceLeDiff, Nat.reduceLT, Int.reduceNeg, ↓reduceIte, reduceCtorEq, Int.reduceEq, Int.reduceLT, Int.reduceLE, Int.reduceBEq, Int.reduceBNe, Int.reduceToNat, IntKind.bits, Int.reduceAdd, Int.reduceSub, Int.reduceMul, Int.reduceTDiv, Int.reduceTMod, R7B, take_add, List.append_assoc, List.length_append, Nat.add_assoc, shrink_lit, ball_app, RG, LPB, wrows_len, q2_0, o2_0, q2_1, o2_1, q2_w, o2_w, q4_0, o4_0, q4_1, o4_1, q4_2, o4_2, q4_3, o4_3, q4_w, o4_w, q7_0, q7_1, q7_2, q7_3, q7_4, q7_5, q7_6, q7_w, o7_w, f1, expCell, List.nodup_cons, List.nodup_nil, List.not_mem_nil, not_false_eq_true, not_true_eq_false, and_true, and_false, if_false, List.mem_cons, mutIds]
theorem e26 (l : List Int) (p : Int) (h : ∀ x ∈ l, x ≠ p) (hl : l.length ≤ 1000) : LV E 26 [.ro (nums l), .int .i64 p] = some (.bool false) := by
  rw [LV_R (fn := f26) rfl rfl rfl]
  simp only [f26, RB, pickV, eqbV, notV, negV, convV, faddrV, fldV, idxV, eqaggV, iaddrV, isnilV, nilckV, pnilV, cloV, extrV, slenV, minV, sidxV, abin, cmpInt, params, growLists, fillCells, newAt, rdPtr, wrPtr, AV.cells, asVal, lenOf, boundOf, rowsOf, argIds, freshIn, scalar1, setAll, AV.isData, AV.isYld, Nat.reduceAdd, Nat.reduceMul, Nat.reduceSub, Nat.reduceEqDiff, Nat.reduceLeDiff, Nat.reduceLT, Int.reduceNeg, ↓reduceIte, reduceCtorEq, Int.reduceEq, Int.reduceLT, Int.reduceLE, Int.reduceBEq, Int.reduceBNe, Int.reduceToNat, IntKind.bits, Int.reduceAdd, Int.reduceSub, Int.reduceMul, Int.reduceTDiv, Int.reduceTMod, R7B, take_add, List.append_assoc, List.length_append, Nat.add_assoc, shrink_lit, ball_app, RG, LPB, wrows_len, q2_0, o2_0, q2_1, o2_1, q2_w, o2_w, q4_0, o4_0, q4_1, o4_1, q4_2, o4_2, q4_3, o4_3, q4_w, o4_w, q7_0, q7_1, q7_2, q7_3, q7_4, q7_5, q7_6, q7_w, o7_w, e44 l p h hl, expCell, List.nodup_cons, List.nodup_nil, List.not_mem_nil, not_false_eq_true, not_true_eq_false, and_true, and_false, if_false, List.mem_cons, mutIds]
  try simp
end Go.Proofs.Ytncppbkhnafpnaa.F

/- ArenaAgain's run. No condition. -/
set_option linter.unusedSimpArgs false
namespace Go.Proofs.Ytncppbkhnafpnaa.F
open Go Go.Proofs.Ytncppbkhnafpnaa.A Go.Proofs.Ytncppbkhnafpnaa.D
set_option maxRecDepth 20000 in
set_option maxHeartbeats 4000000 in
theorem again (n : Int) (cs : List Int) : LV E 5 [.int .i64 n, .ro (nums cs)] = some (.bool true) := by
  rw [LV_R (fn := f5) rfl rfl rfl]
  have hu := u64_in n
  obtain ⟨k, hk⟩ : ∃ k : Nat, (IntKind.u64.wrap n).tmod 200 = (k : Int) ∧ k < 200 := by
    rw [Int.tmod_eq_emod_of_nonneg hu.1]
    exact ⟨(IntKind.u64.wrap n % 200).toNat, by omega, by omega⟩
  have k1 : IntKind.i64.wrap ((k : Nat) : Int) = ((k : Nat) : Int) := IntWalk.i64_in _ (by omega)
  have k2 : IntKind.i64.wrap (64 + ((k : Nat) : Int)) = ((64 + k : Nat) : Int) := by rw [IntWalk.i64_in _ (by omega)]; omega
  have h10 := r10 (pend := []) ((64 + k : Nat) : Int)
  rw [if_pos (by omega), Int.toNat_natCast] at h10
  have g0 := Rr.new (n := 64 + k) (by omega) (by omega)
  generalize newL (64 + k) = l0 at *
  simp only [f5, RB, pickV, eqbV, notV, negV, convV, faddrV, fldV, idxV, eqaggV, iaddrV, isnilV, nilckV, pnilV, cloV, extrV, slenV, minV, sidxV, abin, cmpInt, params, growLists, fillCells, newAt, rdPtr, wrPtr, AV.cells, asVal, lenOf, boundOf, rowsOf, argIds, freshIn, scalar1, setAll, AV.isData, AV.isYld, Nat.reduceAdd, Nat.reduceMul, Nat.reduceSub, Nat.reduceEqDiff, Nat.reduceLeDiff, Nat.reduceLT, Int.reduceNeg, ↓reduceIte, reduceCtorEq, Int.reduceEq, Int.reduceLT, Int.reduceLE, Int.reduceBEq, Int.reduceBNe, Int.reduceToNat, IntKind.bits, Int.reduceAdd, Int.reduceSub, Int.reduceMul, Int.reduceTDiv, Int.reduceTMod, R7B, take_add, List.append_assoc, List.length_append, Nat.add_assoc, shrink_lit, ball_app, RG, LPB, wrows_len, q2_0, o2_0, q2_1, o2_1, q2_w, o2_w, q4_0, o4_0, q4_1, o4_1, q4_2, o4_2, q4_3, o4_3, q4_w, o4_w, q7_0, q7_1, q7_2, q7_3, q7_4, q7_5, q7_6, q7_w, o7_w, e9, nums_len, hk.1, k1, k2, h10, bne_self_eq_false, LPB]
  refine (W_rec2 (β := AV) (ι := {s : Nat × List Nat × List Int // (s.1 ≤ cs.length ∧ s.1 ≤ 20 ∧ s.2.1.length ≤ s.1) ∧ Rr (64 + k) s.2.1 [] s.2.2})
    (M := fun s => [(5, .ptr 1 0 0 0), (7, .lis 2 s.1.2.1.length 0 s.1.2.1.length), (39, .ro (nums cs)), (40, .int .i64 (cs.length : Int)), (41, .int .i64 (s.1.1 : Int))])
    (H := fun s => ⟨[.lst 0 0 23 1 (wrows s.1.2.2), .box 0 78 [.lis 0 0 0 (64 + k)], .lst 0 s.1.2.1.length 3 1 (nums (pls s.1.2.1))], []⟩) (r := fun _ => some (.bool true)) (μ := fun s => cs.length - s.1.1) (fun s => ?_) (fun s ih => ?_) ⟨(0, [], l0), ⟨Nat.zero_le _, Nat.zero_le _, Nat.le_refl _⟩, g0⟩ rfl rfl)
  · simp [LPB]
  · obtain ⟨⟨i, A, l⟩, ⟨hil, hi20, hA⟩, g⟩ := s
    simp only at ih hil hi20 hA g ⊢
    by_cases hgo : i < cs.length ∧ i ≠ 20
    · obtain ⟨hi, h20⟩ := hgo
      have f1 : (i : Int) < (cs.length : Int) := by omega
      have f2 : (0 : Int) ≤ (i : Int) := by omega
      have n20 : ((i : Int) == 20) = false := by rw [beq_eq_false_iff_ne]; omega
      have f6 : IntKind.i64.wrap ((i : Int) + 1) = ((i + 1 : Nat) : Int) := by rw [IntWalk.i64_in _ (by omega)]; omega
      have gg := nums_get cs hi
      have hv := u64_in (nrow cs i)
      obtain ⟨c, hc⟩ : ∃ c : Nat, (IntKind.u64.wrap (nrow cs i)).tmod 6 = (c : Int) ∧ c ≤ 5 := by
        rw [Int.tmod_eq_emod_of_nonneg hv.1]
        exact ⟨(IntKind.u64.wrap (nrow cs i) % 6).toNat, by omega, by omega⟩
      have c1 : IntKind.i64.wrap ((c : Nat) : Int) = ((c : Nat) : Int) := IntWalk.i64_in _ (by omega)
      obtain ⟨x11, h11⟩ := r11 (lk1 := 0) (rest := [.lst 0 A.length 3 1 (nums (pls A))]) g.gd.ar rfl (c : Int) g.gd.hd
      rw [g.len] at h11
      simp only [List.cons_append, List.nil_append] at h11
      have hpl : (nums (pls A)).length = A.length := by rw [nums_len, pls_len]
      have hal : (nums (pls A)).take A.length = nums (pls A) := by rw [← hpl, List.take_length]
      have f7 : (A.length + 1) * 8 ≤ 140737488355328 := by omega
      have f8 : A.length + 1 ≤ 4611686018427387904 := by omega
      have f12 : ∀ n : Int, headFits 1 [[AV.int .i64 n]] = true := fun _ => rfl
      rcases g.alloc hc.2 with e | ⟨l', e, g'⟩
      · rw [e] at h11
        have ih := ih ⟨(i + 1, A, l), ⟨hi, by omega, Nat.le_succ_of_le hA⟩, g⟩ (by simp only; omega)
        simp only at ih h11
        simp only [RB, pickV, eqbV, notV, negV, convV, faddrV, fldV, idxV, eqaggV, iaddrV, isnilV, nilckV, pnilV, cloV, extrV, slenV, minV, sidxV, abin, cmpInt, params, growLists, fillCells, newAt, rdPtr, wrPtr, AV.cells, asVal, lenOf, boundOf, rowsOf, argIds, freshIn, scalar1, setAll, AV.isData, AV.isYld, Nat.reduceAdd, Nat.reduceMul, Nat.reduceSub, Nat.reduceEqDiff, Nat.reduceLeDiff, Nat.reduceLT, Int.reduceNeg, ↓reduceIte, reduceCtorEq, Int.reduceEq, Int.reduceLT, Int.reduceLE, Int.reduceBEq, Int.reduceBNe, Int.reduceToNat, IntKind.bits, Int.reduceAdd, Int.reduceSub, Int.reduceMul, Int.reduceTDiv, Int.reduceTMod, R7B, take_add, List.append_assoc, List.length_append, Nat.add_assoc, shrink_lit, ball_app, RG, LPB, wrows_len, q2_0, o2_0, q2_1, o2_1, q2_w, o2_w, q4_0, o4_0, q4_1, o4_1, q4_2, o4_2, q4_3, o4_3, q4_w, o4_w, q7_0, q7_1, q7_2, q7_3, q7_4, q7_5, q7_6, q7_w, o7_w, f1, f2, f6, n20, gg, hc.1, c1, h11, show ((6 : Int) == 0) = false from rfl, LPB]
        exact ih
      · rw [e] at h11
        have ih := ih ⟨(i + 1, A ++ [c], l'), ⟨hi, by omega, by rw [List.length_append, List.length_singleton]; omega⟩, g'⟩ (by simp only; omega)
        simp only [List.length_append, List.length_singleton, pls_sn, nums_sn] at ih
        simp only at h11
        simp only [RB, pickV, eqbV, notV, negV, convV, faddrV, fldV, idxV, eqaggV, iaddrV, isnilV, nilckV, pnilV, cloV, extrV, slenV, minV, sidxV, abin, cmpInt, params, growLists, fillCells, newAt, rdPtr, wrPtr, AV.cells, asVal, lenOf, boundOf, rowsOf, argIds, freshIn, scalar1, setAll, AV.isData, AV.isYld, Nat.reduceAdd, Nat.reduceMul, Nat.reduceSub, Nat.reduceEqDiff, Nat.reduceLeDiff, Nat.reduceLT, Int.reduceNeg, ↓reduceIte, reduceCtorEq, Int.reduceEq, Int.reduceLT, Int.reduceLE, Int.reduceBEq, Int.reduceBNe, Int.reduceToNat, IntKind.bits, Int.reduceAdd, Int.reduceSub, Int.reduceMul, Int.reduceTDiv, Int.reduceTMod, R7B, take_add, List.append_assoc, List.length_append, Nat.add_assoc, shrink_lit, ball_app, RG, LPB, wrows_len, q2_0, o2_0, q2_1, o2_1, q2_w, o2_w, q4_0, o4_0, q4_1, o4_1, q4_2, o4_2, q4_3, o4_3, q4_w, o4_w, q7_0, q7_1, q7_2, q7_3, q7_4, q7_5, q7_6, q7_w, o7_w, f1, f2, f6, n20, gg, hc.1, c1, h11, hpl, hal, f7, f8, f12, beq_self_eq_true, O_buildSlq, quietOk, aop_buildSl, fillRows, asData, aappend, Nat.le_refl, LPB]
        exact ih
    · have hA20 : A.length ≤ 20 := by omega
      clear ih
      have h25 := r25 (lk := 0) (lk1 := 0) (rest := [.lst 0 A.length 3 1 (nums (pls A))]) rfl (by rw [g.len]; omega) (by rw [g.len]; omega)
      rw [g.len] at h25
      simp only [List.cons_append, List.nil_append] at h25
      have s1 : IntKind.i64.wrap ((A.length : Int) - 1) = (A.length : Int) - 1 := IntWalk.i64_in _ (by omega)
      rcases (show (i : Nat) = cs.length ∨ (i < cs.length ∧ i = 20) by omega) with e | ⟨hi, e⟩
      all_goals
        first
        | have f1 : ¬ (i : Int) < (cs.length : Int) := by omega
          simp only [RB, pickV, eqbV, notV, negV, convV, faddrV, fldV, idxV, eqaggV, iaddrV, isnilV, nilckV, pnilV, cloV, extrV, slenV, minV, sidxV, abin, cmpInt, params, growLists, fillCells, newAt, rdPtr, wrPtr, AV.cells, asVal, lenOf, boundOf, rowsOf, argIds, freshIn, scalar1, setAll, AV.isData, AV.isYld, Nat.reduceAdd, Nat.reduceMul, Nat.reduceSub, Nat.reduceEqDiff, Nat.reduceLeDiff, Nat.reduceLT, Int.reduceNeg, ↓reduceIte, reduceCtorEq, Int.reduceEq, Int.reduceLT, Int.reduceLE, Int.reduceBEq, Int.reduceBNe, Int.reduceToNat, IntKind.bits, Int.reduceAdd, Int.reduceSub, Int.reduceMul, Int.reduceTDiv, Int.reduceTMod, R7B, take_add, List.append_assoc, List.length_append, Nat.add_assoc, shrink_lit, ball_app, RG, LPB, wrows_len, q2_0, o2_0, q2_1, o2_1, q2_w, o2_w, q4_0, o4_0, q4_1, o4_1, q4_2, o4_2, q4_3, o4_3, q4_w, o4_w, q7_0, q7_1, q7_2, q7_3, q7_4, q7_5, q7_6, q7_w, o7_w, f1, h25, s1, LPB]
        | have f1 : (i : Int) < (cs.length : Int) := by omega
          have f2 : (0 : Int) ≤ (i : Int) := by omega
          have gg := nums_get cs hi
          have n20 : ((i : Int) == 20) = true := by rw [beq_iff_eq]; omega
          simp only [RB, pickV, eqbV, notV, negV, convV, faddrV, fldV, idxV, eqaggV, iaddrV, isnilV, nilckV, pnilV, cloV, extrV, slenV, minV, sidxV, abin, cmpInt, params, growLists, fillCells, newAt, rdPtr, wrPtr, AV.cells, asVal, lenOf, boundOf, rowsOf, argIds, freshIn, scalar1, setAll, AV.isData, AV.isYld, Nat.reduceAdd, Nat.reduceMul, Nat.reduceSub, Nat.reduceEqDiff, Nat.reduceLeDiff, Nat.reduceLT, Int.reduceNeg, ↓reduceIte, reduceCtorEq, Int.reduceEq, Int.reduceLT, Int.reduceLE, Int.reduceBEq, Int.reduceBNe, Int.reduceToNat, IntKind.bits, Int.reduceAdd, Int.reduceSub, Int.reduceMul, Int.reduceTDiv, Int.reduceTMod, R7B, take_add, List.append_assoc, List.length_append, Nat.add_assoc, shrink_lit, ball_app, RG, LPB, wrows_len, q2_0, o2_0, q2_1, o2_1, q2_w, o2_w, q4_0, o4_0, q4_1, o4_1, q4_2, o4_2, q4_3, o4_3, q4_w, o4_w, q7_0, q7_1, q7_2, q7_3, q7_4, q7_5, q7_6, q7_w, o7_w, f1, f2, gg, n20, h25, s1, LPB]
      all_goals
        refine (W_rec2 (β := AV) (ι := {s : List Nat × List Nat × List Int // s.1 ++ s.2.1 = A ∧ Rr (64 + k) s.1 s.2.1 s.2.2})
          (M := fun s => [(5, .ptr 1 0 0 0), (7, .lis 2 A.length 0 A.length), (12, .ro (brows (encB l))), (13, .int .i64 ((s.1.1.length : Int) - 1))])
          (H := fun s => ⟨[.lst 0 0 23 1 (wrows s.1.2.2), .box 0 78 [.lis 0 0 0 (64 + k)], .lst 0 A.length 3 1 (nums (pls A)), .lst 0 0 5 1 [], .lst 2 0 5 1 []], []⟩) (r := fun _ => some (.bool true)) (μ := fun s => s.1.1.length) (fun s => ?_) (fun s ih => ?_) ⟨(A, [], l), List.append_nil A, g⟩ rfl rfl)
        · simp [LPB]
        · obtain ⟨⟨A1, B1, l1⟩, hAB, g1⟩ := s
          simp only at ih hAB g1 ⊢
          rcases List.eq_nil_or_concat A1 with rfl | ⟨A2, c, rfl⟩
          · have f1 : ¬ (0 : Int) ≤ ((0 : Nat) : Int) - 1 := by decide
            clear ih
            have hB : B1 = A := hAB
            subst hB
            obtain ⟨x17, j17, h17, _, hb17⟩ := r17 (lk := 0) (lk1 := 0) (rest := [.lst 0 B1.length 3 1 (nums (pls B1)), .lst 0 0 5 1 [], .lst 2 0 5 1 []]) g1.gd.ar rfl
            rw [show tt [] ++ ff B1 = ff B1 from rfl, (pcs_ff B1 16).1, g1.len] at h17
            obtain ⟨x18, j18, h18, _, hb18⟩ := r18 (lk := 0) (lk1 := 0) (rest := [.lst 0 B1.length 3 1 (nums (pls B1)), .lst 0 0 5 1 [], .lst 2 0 5 1 []] ++ x17) g1.gd.ar (by rw [ball_app]; simp only [List.length_append, List.length_cons, List.length_nil, Bool.and_eq_true]; exact ⟨rfl, belowAll_mono (by simp only [List.length_cons, List.length_nil]; omega) hb17⟩)
            rw [show tt [] ++ ff B1 = ff B1 from rfl, (pcs_ff B1 16).2, g1.len] at h18
            simp only [List.cons_append, List.nil_append, List.length_nil] at h17 h18
            have ga : ∀ (X Y T : List Blk) (z a b c d e : Blk), (a :: b :: c :: d :: e :: (X ++ (Y ++ z :: T)))[X.length + (Y.length + 5)]? = some z := fun X Y T z a b c d e => by
              rw [show X.length + (Y.length + 5) = (a :: b :: c :: d :: e :: (X ++ Y)).length by simp only [List.length_cons, List.length_append]; omega, ← List.append_assoc]
              rw [show a :: b :: c :: d :: e :: (X ++ Y ++ z :: T) = (a :: b :: c :: d :: e :: (X ++ Y)) ++ z :: T from rfl, List.getElem?_append_right (Nat.le_refl _), Nat.sub_self]; rfl
            have gs : ∀ (X Y T : List Blk) (z v a b c d e : Blk), (a :: b :: c :: d :: e :: (X ++ (Y ++ z :: T))).set (X.length + (Y.length + 5)) v = a :: b :: c :: d :: e :: (X ++ (Y ++ v :: T)) := fun X Y T z v a b c d e => by
              rw [show X.length + (Y.length + 5) = (a :: b :: c :: d :: e :: (X ++ Y)).length by simp only [List.length_cons, List.length_append]; omega, ← List.append_assoc, ← List.append_assoc]
              rw [show a :: b :: c :: d :: e :: (X ++ Y ++ z :: T) = (a :: b :: c :: d :: e :: (X ++ Y)) ++ z :: T from rfl, List.set_append_right _ _ (Nat.le_refl _), Nat.sub_self]; rfl
            obtain ⟨y18, i18, k18, n18, hy18⟩ := r18 (lk := 0) (lk1 := 0) (rest := .lst 0 B1.length 3 1 (nums (pls B1)) :: .lst 0 0 5 1 [] :: .lst 2 0 5 1 [] :: (x17 ++ (x18 ++ [.lst 0 0 3 1 []]))) g1.gd.ar (by
              simp only [belowAll, List.all_cons, List.all_append, Blk.refsLt, Bool.true_and, List.all_nil, Bool.and_true, Bool.and_eq_true]
              exact ⟨belowAll_mono (by simp only [List.length_cons, List.length_nil, List.length_append]; omega) hb17, belowAll_mono (by simp only [List.length_cons, List.length_nil, List.length_append]; omega) hb18⟩)
            rw [show tt [] ++ ff B1 = ff B1 from rfl, (pcs_ff B1 16).2, g1.len] at k18
            rw [show tt [] ++ ff B1 = ff B1 from rfl, (pcs_ff B1 16).2, g1.len] at n18
            simp only [List.cons_append, List.nil_append, List.length_nil, List.append_assoc] at k18 n18
            simp only [List.length_nil, RB, pickV, eqbV, notV, negV, convV, faddrV, fldV, idxV, eqaggV, iaddrV, isnilV, nilckV, pnilV, cloV, extrV, slenV, minV, sidxV, abin, cmpInt, params, growLists, fillCells, newAt, rdPtr, wrPtr, AV.cells, asVal, lenOf, boundOf, rowsOf, argIds, freshIn, scalar1, setAll, AV.isData, AV.isYld, Nat.reduceAdd, Nat.reduceMul, Nat.reduceSub, Nat.reduceEqDiff, Nat.reduceLeDiff, Nat.reduceLT, Int.reduceNeg, ↓reduceIte, reduceCtorEq, Int.reduceEq, Int.reduceLT, Int.reduceLE, Int.reduceBEq, Int.reduceBNe, Int.reduceToNat, IntKind.bits, Int.reduceAdd, Int.reduceSub, Int.reduceMul, Int.reduceTDiv, Int.reduceTMod, R7B, take_add, List.append_assoc, List.length_append, Nat.add_assoc, shrink_lit, ball_app, RG, LPB, wrows_len, q2_0, o2_0, q2_1, o2_1, q2_w, o2_w, q4_0, o4_0, q4_1, o4_1, q4_2, o4_2, q4_3, o4_3, q4_w, o4_w, q7_0, q7_1, q7_2, q7_3, q7_4, q7_5, q7_6, q7_w, o7_w, f1, h17, h18, k18, ga, gs, bne_self_eq_false, LPB]
            have low : ∀ n v, x17.length + x18.length + y18.length + 6 ≤ n → belowAll n (Blk.lst 0 B1.length 3 1 (nums (pls B1)) :: Blk.lst 0 0 5 1 [] :: Blk.lst 2 0 5 1 [] :: (x17 ++ (x18 ++ Blk.lst 0 (List.length v) 3 1 (nums v) :: y18))) = true := fun n v hn => by
              simp only [belowAll, List.all_cons, List.all_append, Blk.refsLt, Bool.true_and, List.all_nil, Bool.and_true, Bool.and_eq_true]
              simp only [List.length_cons, List.length_nil, List.length_append] at hb17 hb18 hy18
              exact ⟨belowAll_mono (by omega) hb17, belowAll_mono (by omega) hb18, belowAll_mono (by omega) hy18⟩
            have hi18 : i18 < x17.length + (x18.length + (y18.length + 6)) := by
              have := (List.getElem?_eq_some_iff.1 n18).1
              simp only [List.length_cons, List.length_nil, List.length_append] at this
              omega
            refine (W_rec2 (β := AV) (ι := {s : List Nat × List Nat × List Int // s.1 ++ s.2.1 = B1 ∧ Rr (64 + k) s.1 s.2.1 s.2.2})
              (M := fun s => [(5, .ptr 1 0 0 0), (12, .ro (brows (encB l))), (14, .lis (x17.length + (x18.length + 5)) (pls s.1.1).length 0 (pls s.1.1).length), (111, .lis i18 B1.length 0 B1.length), (112, .int .i64 (B1.length : Int)), (113, .int .i64 (s.1.1.length : Int))])
              (H := fun s => ⟨.lst 0 0 23 1 (wrows s.1.2.2) :: .box 0 78 [.lis 0 0 0 (64 + k)] :: .lst 0 B1.length 3 1 (nums (pls B1)) :: .lst 0 0 5 1 [] :: .lst 2 0 5 1 [] :: (x17 ++ (x18 ++ .lst 0 (pls s.1.1).length 3 1 (nums (pls s.1.1)) :: y18)), []⟩) (r := fun _ => some (.bool true)) (μ := fun s => s.1.2.1.length) (fun s => ?_) (fun s ih => ?_) ⟨([], B1, l1), rfl, g1⟩ rfl rfl)
            · have lw := low (x17.length + (x18.length + (y18.length + 6))) (pls s.1.1) (by omega)
              have z0 : 0 < x17.length + (x18.length + (y18.length + 6)) := by omega
              have z1 : x17.length + (x18.length + 5) < x17.length + (x18.length + (y18.length + 6)) := by omega
              simp only [LPB] at lw ⊢
              simp only [Bool.true_and] at lw
              simp [z0, z1, hi18, belowL, AV.refsLt, lw]
              try omega
            · obtain ⟨⟨A2, B2, l2⟩, hAB2, g2⟩ := s
              simp only at ih hAB2 g2 ⊢
              cases B2 with
              | nil =>
                have hA2 : A2 = B1 := by simpa using hAB2
                subst hA2
                have f1 : ¬ ((A2.length : Nat) : Int) < (A2.length : Int) := by omega
                clear ih
                have hl := g2.ext g
                subst hl
                have k25 := r25 (lk := 0) (lk1 := 0) (l := l2) (rest := .lst 0 A2.length 3 1 (nums (pls A2)) :: .lst 0 0 5 1 [] :: .lst 2 0 5 1 [] :: (x17 ++ (x18 ++ .lst 0 (pls A2).length 3 1 (nums (pls A2)) :: y18))) (low _ _ (by simp only [List.length_cons, List.length_append]; omega)) (by rw [g.len]; omega) (by rw [g.len]; omega)
                rw [g.len] at k25
                simp only [RB, pickV, eqbV, notV, negV, convV, faddrV, fldV, idxV, eqaggV, iaddrV, isnilV, nilckV, pnilV, cloV, extrV, slenV, minV, sidxV, abin, cmpInt, params, growLists, fillCells, newAt, rdPtr, wrPtr, AV.cells, asVal, lenOf, boundOf, rowsOf, argIds, freshIn, scalar1, setAll, AV.isData, AV.isYld, Nat.reduceAdd, Nat.reduceMul, Nat.reduceSub, Nat.reduceEqDiff, Nat.reduceLeDiff, Nat.reduceLT, Int.reduceNeg, ↓reduceIte, reduceCtorEq, Int.reduceEq, Int.reduceLT, Int.reduceLE, Int.reduceBEq, Int.reduceBNe, Int.reduceToNat, IntKind.bits, Int.reduceAdd, Int.reduceSub, Int.reduceMul, Int.reduceTDiv, Int.reduceTMod, R7B, take_add, List.append_assoc, List.length_append, Nat.add_assoc, shrink_lit, ball_app, RG, LPB, wrows_len, q2_0, o2_0, q2_1, o2_1, q2_w, o2_w, q4_0, o4_0, q4_1, o4_1, q4_2, o4_2, q4_3, o4_3, q4_w, o4_w, q7_0, q7_1, q7_2, q7_3, q7_4, q7_5, q7_6, q7_w, o7_w, f1, k25, e27, expCell, List.nodup_cons, List.nodup_nil, List.not_mem_nil, not_false_eq_true, not_true_eq_false, and_true, and_false, if_false, List.mem_cons, mutIds]
                done
              | cons c B3 =>
                have f1 : (A2.length : Int) < (B1.length : Int) := by rw [← hAB2]; simp; omega
                have f2 : (0 : Int) ≤ (A2.length : Int) := by omega
                have f3 : A2.length < B1.length := by omega
                have hsp : ∀ (u w : List (List AV)) (g : Nat) (T : List Blk), (Blk.lst 0 0 23 1 u :: Blk.box 0 78 [.lis 0 0 0 (64 + k)] :: .lst 0 B1.length 3 1 (nums (pls B1)) :: .lst 0 0 5 1 [] :: .lst 2 0 5 1 [] :: (x17 ++ (x18 ++ .lst 0 g 3 1 w :: (y18 ++ T))))[i18]? = some (.lst 0 B1.length 58 2 (prows (pcsOf false (pcs 16 (ff B1))))) := fun u w g T => by
                  have q0 : i18 ≠ 0 := fun e => by rw [e] at n18; simp at n18
                  have q1 : x17.length + (x18.length + 5) ≠ i18 := fun e => by rw [← e, ga] at n18; simp at n18
                  obtain ⟨j, rfl⟩ : ∃ j, i18 = j + 1 := ⟨i18 - 1, by omega⟩
                  have h1 := (List.getElem?_set_ne (l := Blk.lst 0 0 23 1 u :: Blk.box 0 78 [.lis 0 0 0 (64 + k)] :: .lst 0 B1.length 3 1 (nums (pls B1)) :: .lst 0 0 5 1 [] :: .lst 2 0 5 1 [] :: (x17 ++ (x18 ++ .lst 0 0 3 1 [] :: y18))) q1 (a := Blk.lst 0 g 3 1 w)).trans (show _ = _ from n18)
                  rw [gs] at h1
                  have h2 := (List.getElem?_eq_some_iff.1 h1).1
                  have e : (Blk.lst 0 0 23 1 u :: Blk.box 0 78 [.lis 0 0 0 (64 + k)] :: .lst 0 B1.length 3 1 (nums (pls B1)) :: .lst 0 0 5 1 [] :: .lst 2 0 5 1 [] :: (x17 ++ (x18 ++ .lst 0 g 3 1 w :: (y18 ++ T)))) = (Blk.lst 0 0 23 1 u :: Blk.box 0 78 [.lis 0 0 0 (64 + k)] :: .lst 0 B1.length 3 1 (nums (pls B1)) :: .lst 0 0 5 1 [] :: .lst 2 0 5 1 [] :: (x17 ++ (x18 ++ .lst 0 g 3 1 w :: y18))) ++ T := by simp
                  rw [e, List.getElem?_append_left h2]; exact h1
                have gb : ∀ (X Y Z T : List Blk) (z l a b c d e : Blk), (a :: b :: c :: d :: e :: (X ++ (Y ++ l :: (Z ++ z :: T))))[X.length + (Y.length + (Z.length + 6))]? = some z := fun X Y Z T z l a b c d e => by
                  rw [show X.length + (Y.length + (Z.length + 6)) = (a :: b :: c :: d :: e :: (X ++ (Y ++ l :: Z))).length by simp only [List.length_cons, List.length_append]; omega, show a :: b :: c :: d :: e :: (X ++ (Y ++ l :: (Z ++ z :: T))) = (a :: b :: c :: d :: e :: (X ++ (Y ++ l :: Z))) ++ z :: T by simp, List.getElem?_append_right (Nat.le_refl _), Nat.sub_self]; rfl
                have gt : ∀ (X Y Z T : List Blk) (z v l a b c d e : Blk), (a :: b :: c :: d :: e :: (X ++ (Y ++ l :: (Z ++ z :: T)))).set (X.length + (Y.length + (Z.length + 6))) v = a :: b :: c :: d :: e :: (X ++ (Y ++ l :: (Z ++ v :: T))) := fun X Y Z T z v l a b c d e => by
                  rw [show X.length + (Y.length + (Z.length + 6)) = (a :: b :: c :: d :: e :: (X ++ (Y ++ l :: Z))).length by simp only [List.length_cons, List.length_append]; omega, show a :: b :: c :: d :: e :: (X ++ (Y ++ l :: (Z ++ z :: T))) = (a :: b :: c :: d :: e :: (X ++ (Y ++ l :: Z))) ++ z :: T by simp, List.set_append_right _ _ (Nat.le_refl _), Nat.sub_self]; simp
                have hrow := prows_get (pcsOf false (pcs 16 (ff B1))) (i := A2.length) (by rw [(pcs_ff B1 16).2]; exact f3)
                have hcls : (nthP (pcsOf false (pcs 16 (ff B1))) A2.length).2 = c := by rw [← hAB2]; exact pcs_cls c B3 A2 16
                have f6 : IntKind.i64.wrap ((A2.length : Int) + 1) = ((A2.length + 1 : Nat) : Int) := by rw [IntWalk.i64_in _ (by omega)]; omega
                have hc5 : c ≤ 5 := (g2.gd.blk (plc_mem2 A2 B3 c)).2.2.2.1
                obtain ⟨l3, e11, g3, w0⟩ := g2.up hc5
                have low2 : ∀ (x : Int) v, belowAll ((Blk.lst 0 B1.length 3 1 (nums (pls B1)) :: Blk.lst 0 0 5 1 [] :: Blk.lst 2 0 5 1 [] :: (x17 ++ (x18 ++ Blk.lst 0 (List.length v) 3 1 (nums v) :: (y18 ++ [.box 0 58 [.int .i64 x, .int .i64 (c : Int)]])))).length + 2) (Blk.lst 0 B1.length 3 1 (nums (pls B1)) :: Blk.lst 0 0 5 1 [] :: Blk.lst 2 0 5 1 [] :: (x17 ++ (x18 ++ Blk.lst 0 (List.length v) 3 1 (nums v) :: (y18 ++ [.box 0 58 [.int .i64 x, .int .i64 (c : Int)]])))) = true := fun x v => by
                  simp only [belowAll, List.all_cons, List.all_append, Blk.refsLt, belowL, AV.refsLt, Bool.true_and, List.all_nil, Bool.and_true, Bool.and_eq_true]
                  simp only [List.length_cons, List.length_nil, List.length_append] at hb17 hb18 hy18 ⊢
                  exact ⟨belowAll_mono (by omega) hb17, belowAll_mono (by omega) hb18, belowAll_mono (by omega) hy18⟩
                obtain ⟨x11, h11⟩ := r11 (lk1 := 0) (rest := Blk.lst 0 B1.length 3 1 (nums (pls B1)) :: .lst 0 0 5 1 [] :: .lst 2 0 5 1 [] :: (x17 ++ (x18 ++ .lst 0 (pls A2).length 3 1 (nums (pls A2)) :: (y18 ++ [.box 0 58 [.int .i64 ((nthP (pcsOf false (pcs 16 (ff B1))) A2.length).1 : Int), .int .i64 (c : Int)]])))) g2.gd.ar (low2 _ _) (c : Int) g2.gd.hd
                rw [e11, g2.len] at h11
                have low3 : ∀ (x : Int) v, belowAll ((Blk.lst 0 B1.length 3 1 (nums (pls B1)) :: Blk.lst 0 0 5 1 [] :: Blk.lst 2 0 5 1 [] :: (x17 ++ (x18 ++ Blk.lst 0 (List.length v) 3 1 (nums v) :: (y18 ++ [.box 0 58 [.int .i64 x, .int .i64 (c : Int)], .dead, .dead])))).length + 2) (Blk.lst 0 B1.length 3 1 (nums (pls B1)) :: Blk.lst 0 0 5 1 [] :: Blk.lst 2 0 5 1 [] :: (x17 ++ (x18 ++ Blk.lst 0 (List.length v) 3 1 (nums v) :: (y18 ++ [.box 0 58 [.int .i64 x, .int .i64 (c : Int)], .dead, .dead])))) = true := fun x v => by
                  simp only [belowAll, List.all_cons, List.all_append, Blk.refsLt, belowL, AV.refsLt, Bool.true_and, List.all_nil, Bool.and_true, Bool.and_eq_true]
                  simp only [List.length_cons, List.length_nil, List.length_append] at hb17 hb18 hy18 ⊢
                  exact ⟨belowAll_mono (by omega) hb17, belowAll_mono (by omega) hb18, belowAll_mono (by omega) hy18⟩
                obtain ⟨x15, h15⟩ := r15 (lk := 0) (lk1 := 0) (rest := Blk.lst 0 B1.length 3 1 (nums (pls B1)) :: .lst 0 0 5 1 [] :: .lst 2 0 5 1 [] :: (x17 ++ (x18 ++ .lst 0 (pls (A2 ++ [c])).length 3 1 (nums (pls (A2 ++ [c]))) :: (y18 ++ [.box 0 58 [.int .i64 ((nthP (pcsOf false (pcs 16 (ff B1))) A2.length).1 : Int), .int .i64 (c : Int)], .dead, .dead])))) g3.gd.ar (low3 _ _) (plc A2 : Nat) 0
                rw [wS g3.gd (plc_mem A2 B3 c), g3.len] at h15
                simp only [w0, pls_sn, nums_sn, List.length_append, List.length_singleton, List.cons_append, List.append_assoc] at h11 h15
                have t7 : ∀ (X Y Z T : List Blk) (z l a b c d e : Blk), (a :: b :: c :: d :: e :: (X ++ (Y ++ l :: (Z ++ z :: T)))).take (X.length + (Y.length + (Z.length + 7))) = a :: b :: c :: d :: e :: (X ++ (Y ++ l :: (Z ++ [z]))) := fun X Y Z T z l a b c d e => by
                  rw [show X.length + (Y.length + (Z.length + 7)) = (a :: b :: c :: d :: e :: (X ++ (Y ++ l :: (Z ++ [z])))).length by simp only [List.length_cons, List.length_append, List.length_nil]; omega, show a :: b :: c :: d :: e :: (X ++ (Y ++ l :: (Z ++ z :: T))) = (a :: b :: c :: d :: e :: (X ++ (Y ++ l :: (Z ++ [z])))) ++ T by simp, List.take_left]
                have t9 : ∀ (X Y Z T : List Blk) (z z2 z3 l a b c d e : Blk), (a :: b :: c :: d :: e :: (X ++ (Y ++ l :: (Z ++ z :: z2 :: z3 :: T)))).take (X.length + (Y.length + (Z.length + 9))) = a :: b :: c :: d :: e :: (X ++ (Y ++ l :: (Z ++ [z, z2, z3]))) := fun X Y Z T z z2 z3 l a b c d e => by
                  rw [show X.length + (Y.length + (Z.length + 9)) = (a :: b :: c :: d :: e :: (X ++ (Y ++ l :: (Z ++ [z, z2, z3])))).length by simp only [List.length_cons, List.length_append, List.length_nil]; omega, show a :: b :: c :: d :: e :: (X ++ (Y ++ l :: (Z ++ z :: z2 :: z3 :: T))) = (a :: b :: c :: d :: e :: (X ++ (Y ++ l :: (Z ++ [z, z2, z3])))) ++ T by simp, List.take_left]
                obtain ⟨q1, q2, q3⟩ : belowAll (x17.length + (x18.length + (y18.length + 9))) x17 = true ∧ belowAll (x17.length + (x18.length + (y18.length + 9))) x18 = true ∧ belowAll (x17.length + (x18.length + (y18.length + 9))) y18 = true := by
                  simp only [List.length_cons, List.length_nil, List.length_append] at hb17 hb18 hy18
                  exact ⟨belowAll_mono (by omega) hb17, belowAll_mono (by omega) hb18, belowAll_mono (by omega) hy18⟩
                have p9 : 0 < x17.length + (x18.length + (y18.length + 9)) := by omega
                have t6 : ∀ (X Y Z T : List Blk) (l a b c d e : Blk), (a :: b :: c :: d :: e :: (X ++ (Y ++ l :: (Z ++ T)))).take (X.length + (Y.length + (Z.length + 6))) = a :: b :: c :: d :: e :: (X ++ (Y ++ l :: Z)) := fun X Y Z T l a b c d e => by
                  rw [show X.length + (Y.length + (Z.length + 6)) = (a :: b :: c :: d :: e :: (X ++ (Y ++ l :: Z))).length by simp only [List.length_cons, List.length_append]; omega, show a :: b :: c :: d :: e :: (X ++ (Y ++ l :: (Z ++ T))) = (a :: b :: c :: d :: e :: (X ++ (Y ++ l :: Z))) ++ T by simp, List.take_left]
                have v17 : ∀ n, x17.length + x18.length + y18.length + 6 ≤ n → belowAll n x17 = true ∧ belowAll n x18 = true ∧ belowAll n y18 = true := fun n hn => by
                  simp only [List.length_cons, List.length_nil, List.length_append] at hb17 hb18 hy18
                  exact ⟨belowAll_mono (by omega) hb17, belowAll_mono (by omega) hb18, belowAll_mono (by omega) hy18⟩
                obtain ⟨u1, u2, u3⟩ := v17 (x17.length + (x18.length + (y18.length + 7))) (by omega)
                have p7 : 0 < x17.length + (x18.length + (y18.length + 7)) := by omega
                have p6 : 0 < x17.length + (x18.length + (y18.length + 6)) := by omega
                obtain ⟨w1, w2, w3⟩ := v17 (x17.length + (x18.length + (y18.length + 6))) (by omega)
                have h26 := e26 (pls A2) (plc A2 : Nat) (pls_new A2) (by rw [pls_len]; omega)
                have hal : (nums (pls A2)).take (pls A2).length = nums (pls A2) := by rw [← nums_len, List.take_length]
                have hpl : (nums (pls A2)).length = (pls A2).length := nums_len _
                have f7 : ((pls A2).length + 1) * 8 ≤ 140737488355328 := by rw [pls_len]; omega
                have f8 : (pls A2).length + 1 ≤ 4611686018427387904 := by rw [pls_len]; omega
                have f12 : ∀ n : Int, headFits 1 [[AV.int .i64 n]] = true := fun _ => rfl
                have ih := ih ⟨(A2 ++ [c], B3, l3), by rw [← hAB2]; simp, g3⟩ (by simp)
                simp only [List.length_append, List.length_singleton, pls_sn, nums_sn] at ih
                simp only [RB, pickV, eqbV, notV, negV, convV, faddrV, fldV, idxV, eqaggV, iaddrV, isnilV, nilckV, pnilV, cloV, extrV, slenV, minV, sidxV, abin, cmpInt, params, growLists, fillCells, newAt, rdPtr, wrPtr, AV.cells, asVal, lenOf, boundOf, rowsOf, argIds, freshIn, scalar1, setAll, AV.isData, AV.isYld, Nat.reduceAdd, Nat.reduceMul, Nat.reduceSub, Nat.reduceEqDiff, Nat.reduceLeDiff, Nat.reduceLT, Int.reduceNeg, ↓reduceIte, reduceCtorEq, Int.reduceEq, Int.reduceLT, Int.reduceLE, Int.reduceBEq, Int.reduceBNe, Int.reduceToNat, IntKind.bits, Int.reduceAdd, Int.reduceSub, Int.reduceMul, Int.reduceTDiv, Int.reduceTMod, R7B, take_add, List.append_assoc, List.length_append, Nat.add_assoc, shrink_lit, ball_app, RG, LPB, wrows_len, q2_0, o2_0, q2_1, o2_1, q2_w, o2_w, q4_0, o4_0, q4_1, o4_1, q4_2, o4_2, q4_3, o4_3, q4_w, o4_w, q7_0, q7_1, q7_2, q7_3, q7_4, q7_5, q7_6, q7_w, o7_w, f1, f2, f3, f6, f7, f8, f12, lisFits, hsp, hrow, hcls, pav2, gb, gt, ga, gs, h11, h15, h26, hal, hpl, t7, t6, t9, p9, q1, q2, q3, p7, p6, decide_true, u1, u2, u3, w1, w2, w3, ball_app, bne_self_eq_false, CW_some, scalar, O_buildSlq, quietOk, aop_buildSl, fillRows, asData, aappend, Nat.le_refl, LPB]
                exact ih
          · rw [List.concat_eq_append] at *
            have hA2 : A2.length + 1 ≤ A.length := by rw [← hAB]; simp
            have e1 : ((A2.length + 1 : Nat) : Int) - 1 = (A2.length : Int) := by omega
            have f1 : (0 : Int) ≤ (A2.length : Int) := by omega
            have f2 : (A2.length : Int) < (A.length : Int) := by omega
            have f3 : A2.length < A.length := hA2
            have fit : headFits 1 (nums (pls A)) = true := by
              unfold nums headFits
              cases pls A <;> rfl
            have f6 : IntKind.i64.wrap ((A2.length : Int) - 1) = (A2.length : Int) - 1 := IntWalk.i64_in _ (by omega)
            have hat := nums_get (pls A) (i := A2.length) (by rw [pls_len]; omega)
            have epl : nrow (pls A) A2.length = ((plc A2 : Nat) : Int) := by
              rw [← hAB, List.append_assoc, List.singleton_append]; exact pls_at A2 B1 c
            rw [epl] at hat
            have hm := plc_mem A2 B1 c
            obtain ⟨d1, d2, d3⟩ := g1.down
            have dl : (l1.set (plc A2) 7).length = 64 + k := by rw [List.length_set, g1.len]
            obtain ⟨x12, h12⟩ := r12 (lk1 := 0) (rest := [.lst 0 A.length 3 1 (nums (pls A)), .lst 0 0 5 1 [], .lst 2 0 5 1 []]) g1.gd.ar rfl (plc A2 : Nat) 0 7
            rw [wS g1.gd hm, g1.len] at h12
            obtain ⟨x21, h21⟩ := r21 (lk1 := 0) (rest := [.lst 0 A.length 3 1 (nums (pls A)), .lst 0 0 5 1 [], .lst 2 0 5 1 []]) d1.ar rfl (plc A2 : Nat)
            rw [d2, dl] at h21
            obtain ⟨y21, k21⟩ := r21 (lk1 := 0) (rest := [.lst 0 A.length 3 1 (nums (pls A)), .lst 0 0 5 1 [], .lst 2 0 5 1 []]) d3.gd.ar rfl (plc A2 : Nat)
            rw [free2 d3.gd (plc_mem2 A2 B1 c), d3.len] at k21
            simp only [List.cons_append, List.nil_append] at h12 h21 k21
            have ih := ih ⟨(A2, c :: B1, _), by rw [← hAB]; simp, d3⟩ (by simp)
            simp only at ih
            simp only [List.length_append, List.length_singleton, e1, RB, pickV, eqbV, notV, negV, convV, faddrV, fldV, idxV, eqaggV, iaddrV, isnilV, nilckV, pnilV, cloV, extrV, slenV, minV, sidxV, abin, cmpInt, params, growLists, fillCells, newAt, rdPtr, wrPtr, AV.cells, asVal, lenOf, boundOf, rowsOf, argIds, freshIn, scalar1, setAll, AV.isData, AV.isYld, Nat.reduceAdd, Nat.reduceMul, Nat.reduceSub, Nat.reduceEqDiff, Nat.reduceLeDiff, Nat.reduceLT, Int.reduceNeg, ↓reduceIte, reduceCtorEq, Int.reduceEq, Int.reduceLT, Int.reduceLE, Int.reduceBEq, Int.reduceBNe, Int.reduceToNat, IntKind.bits, Int.reduceAdd, Int.reduceSub, Int.reduceMul, Int.reduceTDiv, Int.reduceTMod, R7B, take_add, List.append_assoc, List.length_append, Nat.add_assoc, shrink_lit, ball_app, RG, LPB, wrows_len, q2_0, o2_0, q2_1, o2_1, q2_w, o2_w, q4_0, o4_0, q4_1, o4_1, q4_2, o4_2, q4_3, o4_3, q4_w, o4_w, q7_0, q7_1, q7_2, q7_3, q7_4, q7_5, q7_6, q7_w, o7_w, f1, f2, f3, f6, hat, h12, h21, k21, lisFits, fit, bne_self_eq_false, LPB]
            exact ih
end Go.Proofs.Ytncppbkhnafpnaa.F
