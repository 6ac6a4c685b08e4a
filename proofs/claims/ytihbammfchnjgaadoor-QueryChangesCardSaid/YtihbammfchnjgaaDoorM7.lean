/- Part 7 of the proofs of these statements. No condition. -/
import Derived.Test.YtihbammfchnjgaaDoorM6
set_option linter.unusedVariables false
set_option linter.unusedSimpArgs false
/- The order of prefixes by the document, and the prefixes of addresses. No condition. -/
set_option linter.unusedSimpArgs false
namespace Go.Proofs.YtihbammfchnjgaaDoor.F
open Go Go.Proofs.YtihbammfchnjgaaDoor.A Go.Proofs.YtihbammfchnjgaaDoor.D
def irow (l : List Int) : List (List AV) := l.map fun x => [.int .i64 x]
theorem irow_len (l : List Int) : (irow l).length = l.length := by simp [irow]
theorem irow_snoc (l : List Int) (x : Int) : irow l ++ [[.int .i64 x]] = irow (l ++ [x]) := by simp [irow]
theorem irow_one (x : Int) : [[AV.int .i64 x]] = irow [x] := rfl
theorem irow_take (l : List Int) (n : Nat) (h : l.length = n) : (irow l).take n = irow l := by rw [← h, ← irow_len, List.take_length]
theorem irow_get (l : List Int) (n : Nat) (h : n < l.length) : (irow l)[n]? = some [.int .i64 l[n]] := by simp [irow, h]
def pre (p : Pfx) (k : Nat) : List Int := p.adr.ver :: (ints p.adr.b).take k
theorem pre_len (p : Pfx) (k : Nat) (h : k ≤ 16) : (pre p k).length = k + 1 := by simp [pre, ints_len, h]
theorem pre_snoc (p : Pfx) (k : Nat) (h : k < 16) : pre p k ++ [(p.adr.b.get k : Int)] = pre p (k + 1) := by
  have : (ints p.adr.b)[k]? = some (p.adr.b.get k : Int) := by simp [ints, p.adr.b.get_some h]
  simp only [pre, List.cons_append, List.take_add_one, this, Option.toList_some]
theorem pre_16 (p : Pfx) : pre p 16 ++ [p.bits] = key p := by
  simp only [pre, key, List.cons_append]; rw [← ints_len p.adr.b, List.take_length]
theorem pav_i (p : Pfx) (n : Nat) (h : n < 16) : piece (pav p) (1 + n) 1 = some [.int .u8 (p.adr.b.get n : Int)] := by
  have h1 := bav_i p.adr.b n h
  unfold piece at h1 ⊢
  rw [if_pos (by rw [bav_len]; omega)] at h1
  rw [if_pos (by rw [pav_len]; omega), ← h1, Nat.add_comm 1 n]
  simp only [pav, List.drop_succ_cons]
  have h2 := bav_len p.adr.b
  rw [List.drop_append_of_le_length (by omega), List.take_append_of_le_length (by simp; omega)]
theorem lex_drop (l r : List Int) (j : Nat) (h1 : j < l.length) (h2 : j < r.length) : lexL (l.drop j) (r.drop j) = if l[j] < r[j] then -1 else if r[j] < l[j] then 1 else lexL (l.drop (j + 1)) (r.drop (j + 1)) := by
  rw [List.drop_eq_getElem_cons h1, List.drop_eq_getElem_cons h2, lexL]
theorem e49 (p q : Pfx) : LV E 49 [.agg (pav p), .agg (pav q)] = some (.int .i64 (cmpP p q)) := by
  rw [LV_R (fn := f49) rfl rfl rfl]
  simp only [f49, RB, pickV, eqbV, notV, negV, convV, faddrV, fldV, idxV, eqaggV, iaddrV, isnilV, nilckV, cloV, extrV, slenV, minV, sidxV, abin, cmpInt, params, growLists, fillCells, newAt, rdPtr, wrPtr, AV.cells, asVal, lenOf, boundOf, rowsOf, argIds, freshIn, scalar1, setAll, AV.isData, AV.isYld, Nat.reduceAdd, Nat.reduceMul, Nat.reduceSub, Nat.reduceEqDiff, Nat.reduceLeDiff, Nat.reduceLT, Int.reduceNeg, ↓reduceIte, reduceCtorEq, Int.reduceEq, Int.reduceLT, Int.reduceLE, Int.reduceBEq, Int.reduceBNe, Int.reduceToNat, IntKind.bits, Int.reduceAdd, Int.reduceSub, Int.reduceMul, Int.reduceTDiv, Int.reduceTMod, DB, aop_buildSl, fillRows, asData]
  refine (W_rec (β := AV) (ι := {k : Nat // k ≤ 16}) (M := fun k => [(2, .ptr 0 0 0 0), (3, .ptr 1 0 0 0), (5, .lis 2 k.1 0 (k.1 + 1)), (6, .lis 3 k.1 0 (k.1 + 1)), (7, .int .i64 (k.1 : Int))])
    (H := fun k => ⟨[.box 0 32 (pav p), .box 0 32 (pav q), .lst 0 k.1 3 1 (irow (pre p k.1)), .lst 0 k.1 3 1 (irow (pre q k.1))], []⟩)
    (r := fun _ => some (AV.int .i64 (cmpP p q))) (μ := fun k => 16 - k.1) (fun i => ?_) (fun k ih => ?_) ⟨0, by omega⟩)
  · simp [LPB]
  · obtain ⟨k, hk16⟩ := k
    by_cases hk : k < 16
    · have ih := ih ⟨k + 1, by omega⟩ (by simp only; omega)
      simp only at ih
      have f1 : (k : Int) < 16 := by omega
      have f2 : (0 : Int) ≤ (k : Int) := by omega
      have f3 : ∀ b : B16, IntKind.i64.wrap (b.get k : Int) = (b.get k : Int) := fun b => IntWalk.i64_in _ (by have := b.get_lt k; omega)
      have f6 : IntKind.i64.wrap ((k : Int) + 1) = ((k + 1 : Nat) : Int) := by rw [IntWalk.i64_in _ (by omega)] <;> omega
      have f7 : (k + 1 + 1) * 8 ≤ 140737488355328 := by omega
      have f8 : k ≤ 4611686018427387902 := by omega
      simp only [RB, pickV, eqbV, notV, negV, convV, faddrV, fldV, idxV, eqaggV, iaddrV, isnilV, nilckV, cloV, extrV, slenV, minV, sidxV, abin, cmpInt, params, growLists, fillCells, newAt, rdPtr, wrPtr, AV.cells, asVal, lenOf, boundOf, rowsOf, argIds, freshIn, scalar1, setAll, AV.isData, AV.isYld, Nat.reduceAdd, Nat.reduceMul, Nat.reduceSub, Nat.reduceEqDiff, Nat.reduceLeDiff, Nat.reduceLT, Int.reduceNeg, ↓reduceIte, reduceCtorEq, Int.reduceEq, Int.reduceLT, Int.reduceLE, Int.reduceBEq, Int.reduceBNe, Int.reduceToNat, IntKind.bits, Int.reduceAdd, Int.reduceSub, Int.reduceMul, Int.reduceTDiv, Int.reduceTMod, DB, f1, f2, f3, f6, f7, f8, Nat.le_refl, aop_buildSl, fillRows, asData, pav_i p k hk, pav_i q k hk, headFits, aappend, irow_len, pre_len p k hk16, pre_len q k hk16, irow_take _ _ (pre_len p k hk16), irow_take _ _ (pre_len q k hk16), irow_snoc, pre_snoc p k hk, pre_snoc q k hk]
      exact ih
    · have : k = 16 := by omega
      subst this
      simp only [RB, pickV, eqbV, notV, negV, convV, faddrV, fldV, idxV, eqaggV, iaddrV, isnilV, nilckV, cloV, extrV, slenV, minV, sidxV, abin, cmpInt, params, growLists, fillCells, newAt, rdPtr, wrPtr, AV.cells, asVal, lenOf, boundOf, rowsOf, argIds, freshIn, scalar1, setAll, AV.isData, AV.isYld, Nat.reduceAdd, Nat.reduceMul, Nat.reduceSub, Nat.reduceEqDiff, Nat.reduceLeDiff, Nat.reduceLT, Int.reduceNeg, ↓reduceIte, reduceCtorEq, Int.reduceEq, Int.reduceLT, Int.reduceLE, Int.reduceBEq, Int.reduceBNe, Int.reduceToNat, IntKind.bits, Int.reduceAdd, Int.reduceSub, Int.reduceMul, Int.reduceTDiv, Int.reduceTMod, DB, show ¬ ((16 : Nat) : Int) < 16 by omega, aop_buildSl, fillRows, asData, headFits, aappend, irow_len, pre_len p 16 hk16, pre_len q 16 hk16, irow_take _ _ (pre_len p 16 hk16), irow_take _ _ (pre_len q 16 hk16), irow_snoc, pre_16]
      clear ih
      have hlp := key_len p
      have hlq := key_len q
      refine (W_rec (β := AV) (ι := {k : Nat // k ≤ 18}) (M := fun k => [(5, .lis 2 17 0 18), (6, .lis 3 17 0 18), (8, .int .i64 (k.1 : Int))])
        (H := fun k => ⟨[.box 0 32 (pav p), .box 0 32 (pav q), .lst 0 17 3 1 (irow (key p)), .lst 0 17 3 1 (irow (key q)), .lst 0 0 3 1 [[.int .i64 p.bits]], .dead, .lst 0 0 3 1 [[.int .i64 q.bits]], .dead], []⟩)
        (r := fun k => some (AV.int .i64 (lexL ((key p).drop k.1) ((key q).drop k.1)))) (μ := fun k => 18 - k.1) (fun i => ?_) (fun k ih => ?_) ⟨0, by omega⟩)
      · simp [LPB]
      · obtain ⟨k, hk18⟩ := k
        by_cases hk : k < 18
        · have ih := ih ⟨k + 1, by omega⟩ (by simp only; omega)
          simp only at ih
          have f1 : (k : Int) < 18 := by omega
          have f2 : (0 : Int) ≤ (k : Int) := by omega
          have f6 : IntKind.i64.wrap ((k : Int) + 1) = ((k + 1 : Nat) : Int) := by rw [IntWalk.i64_in _ (by omega)] <;> omega
          have g1 := irow_get (key p) k (by omega)
          have g2 := irow_get (key q) k (by omega)
          rw [lex_drop _ _ k (by omega) (by omega)]
          by_cases h1 : (key p)[k] < (key q)[k]
          · simp only [RB, pickV, eqbV, notV, negV, convV, faddrV, fldV, idxV, eqaggV, iaddrV, isnilV, nilckV, cloV, extrV, slenV, minV, sidxV, abin, cmpInt, params, growLists, fillCells, newAt, rdPtr, wrPtr, AV.cells, asVal, lenOf, boundOf, rowsOf, argIds, freshIn, scalar1, setAll, AV.isData, AV.isYld, Nat.reduceAdd, Nat.reduceMul, Nat.reduceSub, Nat.reduceEqDiff, Nat.reduceLeDiff, Nat.reduceLT, Int.reduceNeg, ↓reduceIte, reduceCtorEq, Int.reduceEq, Int.reduceLT, Int.reduceLE, Int.reduceBEq, Int.reduceBNe, Int.reduceToNat, IntKind.bits, Int.reduceAdd, Int.reduceSub, Int.reduceMul, Int.reduceTDiv, Int.reduceTMod, DB, f1, f2, f6, g1, g2, hk, h1, lisFits]
          · by_cases h2 : (key q)[k] < (key p)[k]
            · simp only [RB, pickV, eqbV, notV, negV, convV, faddrV, fldV, idxV, eqaggV, iaddrV, isnilV, nilckV, cloV, extrV, slenV, minV, sidxV, abin, cmpInt, params, growLists, fillCells, newAt, rdPtr, wrPtr, AV.cells, asVal, lenOf, boundOf, rowsOf, argIds, freshIn, scalar1, setAll, AV.isData, AV.isYld, Nat.reduceAdd, Nat.reduceMul, Nat.reduceSub, Nat.reduceEqDiff, Nat.reduceLeDiff, Nat.reduceLT, Int.reduceNeg, ↓reduceIte, reduceCtorEq, Int.reduceEq, Int.reduceLT, Int.reduceLE, Int.reduceBEq, Int.reduceBNe, Int.reduceToNat, IntKind.bits, Int.reduceAdd, Int.reduceSub, Int.reduceMul, Int.reduceTDiv, Int.reduceTMod, DB, f1, f2, f6, g1, g2, hk, h1, h2, lisFits]
            · simp only [RB, pickV, eqbV, notV, negV, convV, faddrV, fldV, idxV, eqaggV, iaddrV, isnilV, nilckV, cloV, extrV, slenV, minV, sidxV, abin, cmpInt, params, growLists, fillCells, newAt, rdPtr, wrPtr, AV.cells, asVal, lenOf, boundOf, rowsOf, argIds, freshIn, scalar1, setAll, AV.isData, AV.isYld, Nat.reduceAdd, Nat.reduceMul, Nat.reduceSub, Nat.reduceEqDiff, Nat.reduceLeDiff, Nat.reduceLT, Int.reduceNeg, ↓reduceIte, reduceCtorEq, Int.reduceEq, Int.reduceLT, Int.reduceLE, Int.reduceBEq, Int.reduceBNe, Int.reduceToNat, IntKind.bits, Int.reduceAdd, Int.reduceSub, Int.reduceMul, Int.reduceTDiv, Int.reduceTMod, DB, f1, f2, f6, g1, g2, hk, h1, h2, lisFits]
              exact ih
        · have : k = 18 := by omega
          subst this
          simp only [RB, pickV, eqbV, notV, negV, convV, faddrV, fldV, idxV, eqaggV, iaddrV, isnilV, nilckV, cloV, extrV, slenV, minV, sidxV, abin, cmpInt, params, growLists, fillCells, newAt, rdPtr, wrPtr, AV.cells, asVal, lenOf, boundOf, rowsOf, argIds, freshIn, scalar1, setAll, AV.isData, AV.isYld, Nat.reduceAdd, Nat.reduceMul, Nat.reduceSub, Nat.reduceEqDiff, Nat.reduceLeDiff, Nat.reduceLT, Int.reduceNeg, ↓reduceIte, reduceCtorEq, Int.reduceEq, Int.reduceLT, Int.reduceLE, Int.reduceBEq, Int.reduceBNe, Int.reduceToNat, IntKind.bits, Int.reduceAdd, Int.reduceSub, Int.reduceMul, Int.reduceTDiv, Int.reduceTMod, DB, show ¬ ((18 : Nat) : Int) < 18 by omega]
          rw [List.drop_eq_nil_of_le (by omega), List.drop_eq_nil_of_le (by omega)]; rfl
end Go.Proofs.YtihbammfchnjgaaDoor.F

/- The prefixes of addresses, by the program and by the document. No condition. -/
set_option linter.unusedSimpArgs false
namespace Go.Proofs.YtihbammfchnjgaaDoor.D
open Go Go.Proofs.YtihbammfchnjgaaDoor.A
theorem aav_ov (a : Adr) (v : Int) : ovr (aav a) 0 [.int .i64 v] = some (aav ⟨v, a.b⟩) := by
  unfold ovr; rw [if_pos (by rw [aav_len]; simp)]; rfl
theorem pav_put (p : Pfx) {n v : Nat} (hn : n < 16) (hv : v < 256) : ovr (pav p) (1 + n) [.int .u8 (v : Int)] = some (pav ⟨⟨p.adr.ver, p.adr.b.put n v⟩, p.bits⟩) := by
  have h := bav_put p.adr.b hn hv
  unfold ovr at h ⊢
  rw [if_pos (by simp [bav_len]; omega)] at h
  rw [if_pos (by simp [pav_len]; omega)]
  have h' := Option.some.inj h
  have hl := bav_len p.adr.b
  simp only [pav, ← h', Nat.add_comm 1 n, List.take_succ_cons, List.length_cons, List.length_nil, Nat.zero_add, List.drop_succ_cons, List.cons_append]
  rw [List.take_append_of_le_length (by omega), List.drop_append_of_le_length (by omega)]
  simp
theorem cutN_ge (x n : Nat) (h : 8 ≤ n) : cutN x n = x := by unfold cutN; rw [show 8 - n = 0 by omega]; simp
theorem cutN_0 (x : Nat) (h : x < 256) : cutN x 0 = 0 := by unfold cutN; rw [show (8 - 0 : Nat) = 8 by omega, Nat.div_eq_of_lt h, Nat.zero_mul]
theorem cutN_step (x j : Nat) (hx : x < 256) (hj : j < 8) : cutN x (j + 1) = cutN x j + (if x.testBit (7 - j) then 128 / 2 ^ j else 0) := by
  have : ∀ x < 256, ∀ j < 8, cutN x (j + 1) = cutN x j + (if x.testBit (7 - j) then 128 / 2 ^ j else 0) := by decide +kernel
  exact this x hx j hj
theorem cut_next (b : B16) (k : Nat) {i : Nat} (hi : i < 16) : (cut b (k + 1)).get i = if i = k / 8 then cutN (b.get i) (k % 8) + (if bit b k then 128 / 2 ^ (k % 8) else 0) else (cut b k).get i := by
  rw [cut_get _ _ hi, cut_get _ _ hi]
  by_cases h : i = k / 8
  · subst h
    rw [if_pos rfl, show k + 1 - 8 * (k / 8) = k % 8 + 1 by omega, cutN_step _ _ (b.get_lt _) (by omega)]; rfl
  · rw [if_neg h]
    by_cases h2 : i < k / 8
    · rw [cutN_ge _ _ (by omega), cutN_ge _ _ (by omega)]
    · rw [show k + 1 - 8 * i = 0 by omega, show k - 8 * i = 0 by omega]
theorem cut_put (b : B16) (k : Nat) (hk : k < 128) (hb : bit b k = true) : (cut b k).put (k / 8) ((cut b k).get (k / 8) + 128 / 2 ^ (k % 8)) = cut b (k + 1) ∧ (cut b k).get (k / 8) + 128 / 2 ^ (k % 8) < 256 := by
  have h1 : (cut b k).get (k / 8) + 128 / 2 ^ (k % 8) = (cut b (k + 1)).get (k / 8) := by
    rw [cut_next b k (by omega), if_pos rfl, hb, if_pos rfl, cut_get _ _ (by omega), show k - 8 * (k / 8) = k % 8 by omega]
  have h2 := (cut b (k + 1)).get_lt (k / 8)
  refine ⟨B16.ext' fun i hi => ?_, by omega⟩
  rw [B16.get_put _ (by omega) (by omega), h1]
  by_cases h : i = k / 8
  · rw [if_pos h, h]
  · rw [if_neg h, cut_next b k hi, if_neg h]
theorem cut_skip (b : B16) (k : Nat) (hb : bit b k = false) : cut b (k + 1) = cut b k := B16.ext' fun i hi => by
  rw [cut_next b k hi, hb]
  by_cases h : i = k / 8
  · rw [if_pos h, h, cut_get _ _ (by omega), show k - 8 * (k / 8) = k % 8 by omega]; simp
  · rw [if_neg h]
theorem cut_zero (b : B16) : cut b 0 = zerB := B16.ext' fun i hi => by
  rw [cut_get _ _ hi, show 0 - 8 * i = 0 by omega, cutN_0 _ (b.get_lt i)]
  have : ∀ i < 16, 0 = zerB.get i := by decide
  exact this i hi
def ofE (a : Adr) (n : Int) : Int := if AddrOk a then if 0 ≤ n ∧ n ≤ width a.ver then 0 else 2 else 150
def ofP (a : Adr) (n : Int) : Pfx := if AddrOk a ∧ 0 ≤ n ∧ n ≤ width a.ver then ⟨⟨a.ver, cut a.b n.toNat⟩, n⟩ else zerP
end Go.Proofs.YtihbammfchnjgaaDoor.D
namespace Go.Proofs.YtihbammfchnjgaaDoor.F
open Go Go.Proofs.YtihbammfchnjgaaDoor.A Go.Proofs.YtihbammfchnjgaaDoor.D
theorem e82 (a : Adr) (n : Int) : LV E 82 [.agg (aav a), .int .i64 n] = some (.tup [.agg (pav (ofP a n)), .int .i64 (ofE a n)]) := by
  rw [LV_R (fn := f82) rfl rfl rfl]
  simp only [f82, ← pav_zer, RB, pickV, eqbV, notV, negV, convV, faddrV, fldV, idxV, eqaggV, iaddrV, isnilV, nilckV, cloV, extrV, slenV, minV, sidxV, abin, cmpInt, params, growLists, fillCells, newAt, rdPtr, wrPtr, AV.cells, asVal, lenOf, boundOf, rowsOf, argIds, freshIn, scalar1, setAll, AV.isData, AV.isYld, Nat.reduceAdd, Nat.reduceMul, Nat.reduceSub, Nat.reduceEqDiff, Nat.reduceLeDiff, Nat.reduceLT, Int.reduceNeg, ↓reduceIte, reduceCtorEq, Int.reduceEq, Int.reduceLT, Int.reduceLE, Int.reduceBEq, Int.reduceBNe, Int.reduceToNat, IntKind.bits, Int.reduceAdd, Int.reduceSub, Int.reduceMul, Int.reduceTDiv, Int.reduceTMod, DB, e61]
  by_cases h1 : AddrOk a
  · by_cases h2 : n < 0
    · simp only [RB, pickV, eqbV, notV, negV, convV, faddrV, fldV, idxV, eqaggV, iaddrV, isnilV, nilckV, cloV, extrV, slenV, minV, sidxV, abin, cmpInt, params, growLists, fillCells, newAt, rdPtr, wrPtr, AV.cells, asVal, lenOf, boundOf, rowsOf, argIds, freshIn, scalar1, setAll, AV.isData, AV.isYld, Nat.reduceAdd, Nat.reduceMul, Nat.reduceSub, Nat.reduceEqDiff, Nat.reduceLeDiff, Nat.reduceLT, Int.reduceNeg, ↓reduceIte, reduceCtorEq, Int.reduceEq, Int.reduceLT, Int.reduceLE, Int.reduceBEq, Int.reduceBNe, Int.reduceToNat, IntKind.bits, Int.reduceAdd, Int.reduceSub, Int.reduceMul, Int.reduceTDiv, Int.reduceTMod, DB, e61, h1, h2, ← pav_zer, Bool.false_eq_true, false_and]
      simp [ofP, ofE, h1, show ¬ 0 ≤ n by omega]
    · by_cases h3 : (width a.ver : Int) < n
      · simp only [RB, pickV, eqbV, notV, negV, convV, faddrV, fldV, idxV, eqaggV, iaddrV, isnilV, nilckV, cloV, extrV, slenV, minV, sidxV, abin, cmpInt, params, growLists, fillCells, newAt, rdPtr, wrPtr, AV.cells, asVal, lenOf, boundOf, rowsOf, argIds, freshIn, scalar1, setAll, AV.isData, AV.isYld, Nat.reduceAdd, Nat.reduceMul, Nat.reduceSub, Nat.reduceEqDiff, Nat.reduceLeDiff, Nat.reduceLT, Int.reduceNeg, ↓reduceIte, reduceCtorEq, Int.reduceEq, Int.reduceLT, Int.reduceLE, Int.reduceBEq, Int.reduceBNe, Int.reduceToNat, IntKind.bits, Int.reduceAdd, Int.reduceSub, Int.reduceMul, Int.reduceTDiv, Int.reduceTMod, DB, e61, e50, h1, h2, h3, ← pav_zer, Bool.false_eq_true, false_and]
        simp [ofP, ofE, h1, show ¬ n ≤ width a.ver by omega]
      · have h4 : n ≤ 128 := by have := width_le a.ver; omega
        simp only [RB, pickV, eqbV, notV, negV, convV, faddrV, fldV, idxV, eqaggV, iaddrV, isnilV, nilckV, cloV, extrV, slenV, minV, sidxV, abin, cmpInt, params, growLists, fillCells, newAt, rdPtr, wrPtr, AV.cells, asVal, lenOf, boundOf, rowsOf, argIds, freshIn, scalar1, setAll, AV.isData, AV.isYld, Nat.reduceAdd, Nat.reduceMul, Nat.reduceSub, Nat.reduceEqDiff, Nat.reduceLeDiff, Nat.reduceLT, Int.reduceNeg, ↓reduceIte, reduceCtorEq, Int.reduceEq, Int.reduceLT, Int.reduceLE, Int.reduceBEq, Int.reduceBNe, Int.reduceToNat, IntKind.bits, Int.reduceAdd, Int.reduceSub, Int.reduceMul, Int.reduceTDiv, Int.reduceTMod, DB, e61, e50, h1, h2, h3, ← pav_zer, Bool.false_eq_true, false_and, e72' _ (Int.not_lt.1 h2) h4]
        simp [ofP, ofE, h1, show n ≤ width a.ver by omega, show 0 ≤ n by omega]
  · simp only [RB, pickV, eqbV, notV, negV, convV, faddrV, fldV, idxV, eqaggV, iaddrV, isnilV, nilckV, cloV, extrV, slenV, minV, sidxV, abin, cmpInt, params, growLists, fillCells, newAt, rdPtr, wrPtr, AV.cells, asVal, lenOf, boundOf, rowsOf, argIds, freshIn, scalar1, setAll, AV.isData, AV.isYld, Nat.reduceAdd, Nat.reduceMul, Nat.reduceSub, Nat.reduceEqDiff, Nat.reduceLeDiff, Nat.reduceLT, Int.reduceNeg, ↓reduceIte, reduceCtorEq, Int.reduceEq, Int.reduceLT, Int.reduceLE, Int.reduceBEq, Int.reduceBNe, Int.reduceToNat, IntKind.bits, Int.reduceAdd, Int.reduceSub, Int.reduceMul, Int.reduceTDiv, Int.reduceTMod, DB, e61, h1, ← pav_zer, Bool.false_eq_true, false_and]
    simp [ofP, ofE, h1]
theorem e83 (a : Adr) (n : Int) : LV E 83 [.agg (aav a), .int .i64 n] = some (.tup [.agg (pav (ofP a n)), .int .i64 (ofE a n)]) := by
  rw [LV_R (fn := f83) rfl rfl rfl]
  simp only [f83, ← pav_zer, ← aav_zer, RB, pickV, eqbV, notV, negV, convV, faddrV, fldV, idxV, eqaggV, iaddrV, isnilV, nilckV, cloV, extrV, slenV, minV, sidxV, abin, cmpInt, params, growLists, fillCells, newAt, rdPtr, wrPtr, AV.cells, asVal, lenOf, boundOf, rowsOf, argIds, freshIn, scalar1, setAll, AV.isData, AV.isYld, Nat.reduceAdd, Nat.reduceMul, Nat.reduceSub, Nat.reduceEqDiff, Nat.reduceLeDiff, Nat.reduceLT, Int.reduceNeg, ↓reduceIte, reduceCtorEq, Int.reduceEq, Int.reduceLT, Int.reduceLE, Int.reduceBEq, Int.reduceBNe, Int.reduceToNat, IntKind.bits, Int.reduceAdd, Int.reduceSub, Int.reduceMul, Int.reduceTDiv, Int.reduceTMod, DB, e33]
  by_cases h1 : AddrOk a
  · by_cases h2 : n < 0
    · simp only [RB, pickV, eqbV, notV, negV, convV, faddrV, fldV, idxV, eqaggV, iaddrV, isnilV, nilckV, cloV, extrV, slenV, minV, sidxV, abin, cmpInt, params, growLists, fillCells, newAt, rdPtr, wrPtr, AV.cells, asVal, lenOf, boundOf, rowsOf, argIds, freshIn, scalar1, setAll, AV.isData, AV.isYld, Nat.reduceAdd, Nat.reduceMul, Nat.reduceSub, Nat.reduceEqDiff, Nat.reduceLeDiff, Nat.reduceLT, Int.reduceNeg, ↓reduceIte, reduceCtorEq, Int.reduceEq, Int.reduceLT, Int.reduceLE, Int.reduceBEq, Int.reduceBNe, Int.reduceToNat, IntKind.bits, Int.reduceAdd, Int.reduceSub, Int.reduceMul, Int.reduceTDiv, Int.reduceTMod, DB, h1, h2, ← pav_zer, Bool.false_eq_true, false_and]
      simp [ofP, ofE, h1, show ¬ 0 ≤ n by omega]
    · by_cases h3 : (width a.ver : Int) < n
      · simp only [RB, pickV, eqbV, notV, negV, convV, faddrV, fldV, idxV, eqaggV, iaddrV, isnilV, nilckV, cloV, extrV, slenV, minV, sidxV, abin, cmpInt, params, growLists, fillCells, newAt, rdPtr, wrPtr, AV.cells, asVal, lenOf, boundOf, rowsOf, argIds, freshIn, scalar1, setAll, AV.isData, AV.isYld, Nat.reduceAdd, Nat.reduceMul, Nat.reduceSub, Nat.reduceEqDiff, Nat.reduceLeDiff, Nat.reduceLT, Int.reduceNeg, ↓reduceIte, reduceCtorEq, Int.reduceEq, Int.reduceLT, Int.reduceLE, Int.reduceBEq, Int.reduceBNe, Int.reduceToNat, IntKind.bits, Int.reduceAdd, Int.reduceSub, Int.reduceMul, Int.reduceTDiv, Int.reduceTMod, DB, e21, h1, h2, h3, ← pav_zer, Bool.false_eq_true, false_and]
        simp [ofP, ofE, h1, show ¬ n ≤ width a.ver by omega]
      · have h4 : n ≤ 128 := by have := width_le a.ver; omega
        simp only [RB, pickV, eqbV, notV, negV, convV, faddrV, fldV, idxV, eqaggV, iaddrV, isnilV, nilckV, cloV, extrV, slenV, minV, sidxV, abin, cmpInt, params, growLists, fillCells, newAt, rdPtr, wrPtr, AV.cells, asVal, lenOf, boundOf, rowsOf, argIds, freshIn, scalar1, setAll, AV.isData, AV.isYld, Nat.reduceAdd, Nat.reduceMul, Nat.reduceSub, Nat.reduceEqDiff, Nat.reduceLeDiff, Nat.reduceLT, Int.reduceNeg, ↓reduceIte, reduceCtorEq, Int.reduceEq, Int.reduceLT, Int.reduceLE, Int.reduceBEq, Int.reduceBNe, Int.reduceToNat, IntKind.bits, Int.reduceAdd, Int.reduceSub, Int.reduceMul, Int.reduceTDiv, Int.reduceTMod, DB, e21, h1, h2, h3, ← pav_zer, ← aav_zer, aav_ov]
        obtain ⟨m, rfl⟩ : ∃ m : Nat, n = (m : Int) := ⟨n.toNat, by omega⟩
        have e0 : zerA.b = cut a.b 0 := by rw [cut_zero]; rfl
        have e1 : ofP a m = ⟨⟨a.ver, cut a.b m⟩, m⟩ := by simp [ofP, h1, show (m : Int) ≤ width a.ver by omega]
        have e2 : ofE a m = 0 := by simp [ofE, h1, show (m : Int) ≤ width a.ver by omega]
        rw [e0, e1, e2]
        refine (W_rec (β := AV) (ι := {k : Nat // k ≤ m}) (M := fun k => [(1, .int .i64 (m : Int)), (2, .ptr 0 0 0 0), (4, .ptr 1 0 0 0), (6, .ptr 2 0 0 0), (7, .int .i64 (k.1 : Int))])
          (H := fun k => ⟨[.box 0 30 (aav a), .box 0 32 (pav zerP), .box 0 32 (pav ⟨⟨a.ver, cut a.b k.1⟩, m⟩)], []⟩)
          (r := fun _ => some (AV.tup [.agg (pav ⟨⟨a.ver, cut a.b m⟩, m⟩), .int .i64 0])) (μ := fun k => m - k.1) (fun i => ?_) (fun k ih => ?_) ⟨0, by omega⟩)
        · simp [LPB]
        · obtain ⟨k, hkm⟩ := k
          by_cases hk : k < m
          · have ih := ih ⟨k + 1, by omega⟩ (by simp only; omega)
            simp only at ih
            have f1 : (k : Int) < (m : Int) := by omega
            have f3 : ((k / 8 : Nat) : Int) < 16 := by omega
            have f4 : (0 : Int) ≤ ((k / 8 : Nat) : Int) := by omega
            have f6 : IntKind.i64.wrap ((k : Int) + 1) = ((k + 1 : Nat) : Int) := by rw [IntWalk.i64_in _ (by omega)] <;> omega
            have f7 : IntKind.u64.wrap ((k % 8 : Nat) : Int) = ((k % 8 : Nat) : Int) := IntWalk.u64_in _ (by omega)
            have f8 : (0 : Int) ≤ ((k % 8 : Nat) : Int) := by omega
            have f9 : (128 : Int).fdiv (2 ^ (Nat.min (k % 8) 8)) = ((128 / 2 ^ (k % 8) : Nat) : Int) := shrN 128 (k % 8) (by omega)
            cases hb : bit a.b k with
            | true =>
              obtain ⟨g1, g2⟩ := cut_put a.b k (by omega) hb
              have f10 : IntKind.u8.wrap ((((cut a.b k).get (k / 8) : Nat) : Int) + ((128 / 2 ^ (k % 8) : Nat) : Int)) = (((cut a.b k).get (k / 8) + 128 / 2 ^ (k % 8) : Nat) : Int) := by
                generalize 128 / 2 ^ (k % 8) = z at g2
                rw [IntWalk.u8_in _ (by omega)] <;> omega
              have g3 := pav_i ⟨⟨a.ver, cut a.b k⟩, m⟩ (k / 8) (by omega)
              have g4 := pav_put ⟨⟨a.ver, cut a.b k⟩, m⟩ (show k / 8 < 16 by omega) g2
              simp only [g1] at g3 g4
              simp only [RB, pickV, eqbV, notV, negV, convV, faddrV, fldV, idxV, eqaggV, iaddrV, isnilV, nilckV, cloV, extrV, slenV, minV, sidxV, abin, cmpInt, params, growLists, fillCells, newAt, rdPtr, wrPtr, AV.cells, asVal, lenOf, boundOf, rowsOf, argIds, freshIn, scalar1, setAll, AV.isData, AV.isYld, Nat.reduceAdd, Nat.reduceMul, Nat.reduceSub, Nat.reduceEqDiff, Nat.reduceLeDiff, Nat.reduceLT, Int.reduceNeg, ↓reduceIte, reduceCtorEq, Int.reduceEq, Int.reduceLT, Int.reduceLE, Int.reduceBEq, Int.reduceBNe, Int.reduceToNat, IntKind.bits, Int.reduceAdd, Int.reduceSub, Int.reduceMul, Int.reduceTDiv, Int.reduceTMod, DB, f1, f3, f4, f6, f7, f8, f9, f10, e65 _ k (show k < 128 by omega), b01_eq, hb, quo8 k (by omega), rem8, g3, g4]
              exact ih
            | false =>
              simp only [RB, pickV, eqbV, notV, negV, convV, faddrV, fldV, idxV, eqaggV, iaddrV, isnilV, nilckV, cloV, extrV, slenV, minV, sidxV, abin, cmpInt, params, growLists, fillCells, newAt, rdPtr, wrPtr, AV.cells, asVal, lenOf, boundOf, rowsOf, argIds, freshIn, scalar1, setAll, AV.isData, AV.isYld, Nat.reduceAdd, Nat.reduceMul, Nat.reduceSub, Nat.reduceEqDiff, Nat.reduceLeDiff, Nat.reduceLT, Int.reduceNeg, ↓reduceIte, reduceCtorEq, Int.reduceEq, Int.reduceLT, Int.reduceLE, Int.reduceBEq, Int.reduceBNe, Int.reduceToNat, IntKind.bits, Int.reduceAdd, Int.reduceSub, Int.reduceMul, Int.reduceTDiv, Int.reduceTMod, DB, f1, f6, e65 _ k (show k < 128 by omega), b01_eq, hb]
              rw [cut_skip a.b k hb] at ih
              exact ih
          · have : k = m := by omega
            subst this
            simp only [RB, pickV, eqbV, notV, negV, convV, faddrV, fldV, idxV, eqaggV, iaddrV, isnilV, nilckV, cloV, extrV, slenV, minV, sidxV, abin, cmpInt, params, growLists, fillCells, newAt, rdPtr, wrPtr, AV.cells, asVal, lenOf, boundOf, rowsOf, argIds, freshIn, scalar1, setAll, AV.isData, AV.isYld, Nat.reduceAdd, Nat.reduceMul, Nat.reduceSub, Nat.reduceEqDiff, Nat.reduceLeDiff, Nat.reduceLT, Int.reduceNeg, ↓reduceIte, reduceCtorEq, Int.reduceEq, Int.reduceLT, Int.reduceLE, Int.reduceBEq, Int.reduceBNe, Int.reduceToNat, IntKind.bits, Int.reduceAdd, Int.reduceSub, Int.reduceMul, Int.reduceTDiv, Int.reduceTMod, DB, show ¬ ((k : Nat) : Int) < k by omega, Bool.false_eq_true, false_and]
  · simp only [RB, pickV, eqbV, notV, negV, convV, faddrV, fldV, idxV, eqaggV, iaddrV, isnilV, nilckV, cloV, extrV, slenV, minV, sidxV, abin, cmpInt, params, growLists, fillCells, newAt, rdPtr, wrPtr, AV.cells, asVal, lenOf, boundOf, rowsOf, argIds, freshIn, scalar1, setAll, AV.isData, AV.isYld, Nat.reduceAdd, Nat.reduceMul, Nat.reduceSub, Nat.reduceEqDiff, Nat.reduceLeDiff, Nat.reduceLT, Int.reduceNeg, ↓reduceIte, reduceCtorEq, Int.reduceEq, Int.reduceLT, Int.reduceLE, Int.reduceBEq, Int.reduceBNe, Int.reduceToNat, IntKind.bits, Int.reduceAdd, Int.reduceSub, Int.reduceMul, Int.reduceTDiv, Int.reduceTMod, DB, h1, ← pav_zer, Bool.false_eq_true, false_and]
    simp [ofP, ofE, h1]
end Go.Proofs.YtihbammfchnjgaaDoor.F
