/- Part 7 of the proofs of these statements. No condition. -/
import Derived.Test.YtncppbkhnafpnaaM6
set_option linter.unusedVariables false
set_option linter.unusedSimpArgs false
/- Blocks, Spare; what an op names. No condition. -/
set_option linter.unusedSimpArgs false
namespace Go.Proofs.Ytncppbkhnafpnaa.D
open Go Go.Proofs.Ytncppbkhnafpnaa.A
structure Op7 where
  kind : Int
  cls : Int
  place : Int
  i : Int
  n : Int
  x : Int
  follow : Bool
def opv (o : Op7) : List AV := [.int .i64 o.kind, .int .i64 o.cls, .int .i64 o.place, .int .i64 o.i, .int .i64 o.n, .int .u64 o.x, .bool o.follow]
def nthP (l : List (Nat × Nat)) (i : Nat) : Nat × Nat := l.getD i (0, 0)
theorem prows_get (l : List (Nat × Nat)) {i : Nat} (h : i < l.length) : (prows l)[i]? = some (pav2 (nthP l i)) := by
  unfold prows nthP
  rw [List.getElem?_map, List.getElem?_eq_getElem h, List.getD_eq_getElem?_getD, List.getElem?_eq_getElem h]; rfl
def rowS (bks : List Bk) (follow : Bool) (place : Int) : Int :=
  if follow = true ∧ 0 < (pcsOf true (pcs 16 bks)).length then ((nthP (pcsOf true (pcs 16 bks)) ((IntKind.u64.wrap place).tmod ((pcsOf true (pcs 16 bks)).length : Int)).toNat).1 : Int) else place
end Go.Proofs.Ytncppbkhnafpnaa.D
namespace Go.Proofs.Ytncppbkhnafpnaa.F
open Go Go.Proofs.Ytncppbkhnafpnaa.A Go.Proofs.Ytncppbkhnafpnaa.D
section
variable {l : List Int} {bks : List Bk} {lk lk1 : Nat} {rest : List Blk} (hA : ArOk l bks) (hlow : belowAll (rest.length + 2) rest = true)
include hA hlow
theorem r17 : ∃ ext n, LR E [] 17 [.ptr 1 0 0 0] ⟨.lst lk 0 23 1 (wrows l) :: .box lk1 78 [.lis 0 0 0 l.length] :: rest, []⟩ = some (.lis n (pcsOf true (pcs 16 bks)).length 0 (pcsOf true (pcs 16 bks)).length, ⟨.lst lk 0 23 1 (wrows l) :: .box lk1 78 [.lis 0 0 0 l.length] :: (rest ++ ext), []⟩) ∧
      (Blk.lst lk 0 23 1 (wrows l) :: Blk.box lk1 78 [.lis 0 0 0 l.length] :: (rest ++ ext))[n]? = some (.lst 0 (pcsOf true (pcs 16 bks)).length 58 2 (prows (pcsOf true (pcs 16 bks)))) ∧ belowAll (rest.length + 2 + ext.length) ext = true := by
  obtain ⟨ext, n, r, h37, hn, hr, hb⟩ := r37 (lk := lk) (lk1 := lk1) hA (rest := rest ++ [.lst 0 0 58 2 []]) (by simp only [List.length_append, List.length_singleton]; rw [ball_app, belowAll_mono (by omega) hlow]; rfl) true
  simp only [List.append_assoc, List.cons_append, List.nil_append, List.length_append, List.length_singleton] at h37 hn hb
  rw [LR_R (fn := f17) rfl rfl rfl]
  refine ⟨.lst 0 0 58 2 [] :: ext, n, ?_, ?_, by rw [show (Blk.lst 0 0 58 2 [] :: ext) = [Blk.lst 0 0 58 2 []] ++ ext from rfl, ball_app, List.length_append, belowAll_mono (by simp only [List.length_singleton]; omega) hb]; rfl⟩
  · simp only [f17, RB, pickV, eqbV, notV, negV, convV, faddrV, fldV, idxV, eqaggV, iaddrV, isnilV, nilckV, pnilV, cloV, extrV, slenV, minV, sidxV, abin, cmpInt, params, growLists, fillCells, newAt, rdPtr, wrPtr, AV.cells, asVal, lenOf, boundOf, rowsOf, argIds, freshIn, scalar1, setAll, AV.isData, AV.isYld, Nat.reduceAdd, Nat.reduceMul, Nat.reduceSub, Nat.reduceEqDiff, Nat.reduceLeDiff, Nat.reduceLT, Int.reduceNeg, ↓reduceIte, reduceCtorEq, Int.reduceEq, Int.reduceLT, Int.reduceLE, Int.reduceBEq, Int.reduceBNe, Int.reduceToNat, IntKind.bits, Int.reduceAdd, Int.reduceSub, Int.reduceMul, Int.reduceTDiv, Int.reduceTMod, R7B, take_add, List.append_assoc, List.length_append, Nat.add_assoc, shrink_lit, ball_app, RG, LPB, wrows_len, q2_0, o2_0, q2_1, o2_1, q2_w, o2_w, q4_0, o4_0, q4_1, o4_1, q4_2, o4_2, q4_3, o4_3, q4_w, o4_w, q7_0, q7_1, q7_2, q7_3, q7_4, q7_5, q7_6, q7_w, o7_w, h37]
  · rw [show n = ((rest.length + 1 + r) + 1) + 1 by omega, List.getElem?_cons_succ, List.getElem?_cons_succ, List.getElem?_append_right (by omega), show rest.length + 1 + r - rest.length = r + 1 by omega, List.getElem?_cons_succ]
    exact hr
theorem r18 : ∃ ext n, LR E [] 18 [.ptr 1 0 0 0] ⟨.lst lk 0 23 1 (wrows l) :: .box lk1 78 [.lis 0 0 0 l.length] :: rest, []⟩ = some (.lis n (pcsOf false (pcs 16 bks)).length 0 (pcsOf false (pcs 16 bks)).length, ⟨.lst lk 0 23 1 (wrows l) :: .box lk1 78 [.lis 0 0 0 l.length] :: (rest ++ ext), []⟩) ∧
      (Blk.lst lk 0 23 1 (wrows l) :: Blk.box lk1 78 [.lis 0 0 0 l.length] :: (rest ++ ext))[n]? = some (.lst 0 (pcsOf false (pcs 16 bks)).length 58 2 (prows (pcsOf false (pcs 16 bks)))) ∧ belowAll (rest.length + 2 + ext.length) ext = true := by
  obtain ⟨ext, n, r, h37, hn, hr, hb⟩ := r37 (lk := lk) (lk1 := lk1) hA (rest := rest ++ [.lst 0 0 58 2 []]) (by simp only [List.length_append, List.length_singleton]; rw [ball_app, belowAll_mono (by omega) hlow]; rfl) false
  simp only [List.append_assoc, List.cons_append, List.nil_append, List.length_append, List.length_singleton] at h37 hn hb
  rw [LR_R (fn := f18) rfl rfl rfl]
  refine ⟨.lst 0 0 58 2 [] :: ext, n, ?_, ?_, by rw [show (Blk.lst 0 0 58 2 [] :: ext) = [Blk.lst 0 0 58 2 []] ++ ext from rfl, ball_app, List.length_append, belowAll_mono (by simp only [List.length_singleton]; omega) hb]; rfl⟩
  · simp only [f18, RB, pickV, eqbV, notV, negV, convV, faddrV, fldV, idxV, eqaggV, iaddrV, isnilV, nilckV, pnilV, cloV, extrV, slenV, minV, sidxV, abin, cmpInt, params, growLists, fillCells, newAt, rdPtr, wrPtr, AV.cells, asVal, lenOf, boundOf, rowsOf, argIds, freshIn, scalar1, setAll, AV.isData, AV.isYld, Nat.reduceAdd, Nat.reduceMul, Nat.reduceSub, Nat.reduceEqDiff, Nat.reduceLeDiff, Nat.reduceLT, Int.reduceNeg, ↓reduceIte, reduceCtorEq, Int.reduceEq, Int.reduceLT, Int.reduceLE, Int.reduceBEq, Int.reduceBNe, Int.reduceToNat, IntKind.bits, Int.reduceAdd, Int.reduceSub, Int.reduceMul, Int.reduceTDiv, Int.reduceTMod, R7B, take_add, List.append_assoc, List.length_append, Nat.add_assoc, shrink_lit, ball_app, RG, LPB, wrows_len, q2_0, o2_0, q2_1, o2_1, q2_w, o2_w, q4_0, o4_0, q4_1, o4_1, q4_2, o4_2, q4_3, o4_3, q4_w, o4_w, q7_0, q7_1, q7_2, q7_3, q7_4, q7_5, q7_6, q7_w, o7_w, h37]
  · rw [show n = ((rest.length + 1 + r) + 1) + 1 by omega, List.getElem?_cons_succ, List.getElem?_cons_succ, List.getElem?_append_right (by omega), show rest.length + 1 + r - rest.length = r + 1 by omega, List.getElem?_cons_succ]
    exact hr
omit hA hlow in
theorem u64_in (x : Int) : 0 ≤ IntKind.u64.wrap x ∧ IntKind.u64.wrap x ≤ 18446744073709551615 := by rw [IntKind.wrap_u64]; omega
theorem r13 (o : Op7) : ∃ ext, LR E [] 13 [.agg (opv o), .ptr 1 0 0 0] ⟨.lst lk 0 23 1 (wrows l) :: .box lk1 78 [.lis 0 0 0 l.length] :: rest, []⟩ = some (.int .i64 (rowS bks o.follow o.place), ⟨.lst lk 0 23 1 (wrows l) :: .box lk1 78 [.lis 0 0 0 l.length] :: (rest ++ ext), []⟩) := by
  obtain ⟨ext, n, h17, hn, _⟩ := r17 (lk := lk) (lk1 := lk1) hA (rest := rest ++ [.box 0 35 (opv o)]) (by simp only [List.length_append, List.length_singleton]; rw [ball_app, belowAll_mono (by omega) hlow]; simp only [opv, LPB, Bool.and_self])
  simp only [List.append_assoc, List.cons_append, List.nil_append] at h17 hn
  have hle := hA.chn.le
  have hed := hA.edge
  have hhi := hA.hi
  have hpl := pcsOf_len true (pcs 16 bks)
  rw [pcs_len] at hpl
  rw [LR_R (fn := f13) rfl rfl rfl]
  unfold rowS
  unfold opv at h17 hn ⊢
  generalize pcsOf true (pcs 16 bks) = L at *
  cases hf : o.follow with
  | false =>
    rw [hf] at h17
    simp only [f13, RB, pickV, eqbV, notV, negV, convV, faddrV, fldV, idxV, eqaggV, iaddrV, isnilV, nilckV, pnilV, cloV, extrV, slenV, minV, sidxV, abin, cmpInt, params, growLists, fillCells, newAt, rdPtr, wrPtr, AV.cells, asVal, lenOf, boundOf, rowsOf, argIds, freshIn, scalar1, setAll, AV.isData, AV.isYld, Nat.reduceAdd, Nat.reduceMul, Nat.reduceSub, Nat.reduceEqDiff, Nat.reduceLeDiff, Nat.reduceLT, Int.reduceNeg, ↓reduceIte, reduceCtorEq, Int.reduceEq, Int.reduceLT, Int.reduceLE, Int.reduceBEq, Int.reduceBNe, Int.reduceToNat, IntKind.bits, Int.reduceAdd, Int.reduceSub, Int.reduceMul, Int.reduceTDiv, Int.reduceTMod, R7B, take_add, List.append_assoc, List.length_append, Nat.add_assoc, shrink_lit, ball_app, RG, LPB, wrows_len, q2_0, o2_0, q2_1, o2_1, q2_w, o2_w, q4_0, o4_0, q4_1, o4_1, q4_2, o4_2, q4_3, o4_3, q4_w, o4_w, q7_0, q7_1, q7_2, q7_3, q7_4, q7_5, q7_6, q7_w, o7_w, h17, false_and, Bool.false_eq_true]
    exact ⟨_, rfl⟩
  | true =>
    rw [hf] at h17 hn
    by_cases h0 : 0 < L.length
    · rw [if_pos ⟨rfl, h0⟩]
      have g0 : (0 : Int) < (L.length : Nat) := by omega
      have u1 : IntKind.u64.wrap ((L.length : Nat) : Int) = ((L.length : Nat) : Int) := by rw [IntKind.wrap_u64]; omega
      have hu := u64_in o.place
      obtain ⟨a, ha⟩ : ∃ a : Nat, IntKind.u64.wrap o.place = (a : Int) := ⟨(IntKind.u64.wrap o.place).toNat, by omega⟩
      have hm : (IntKind.u64.wrap o.place).tmod (L.length : Int) = ((a % L.length : Nat) : Int) := by rw [ha]; rfl
      have hlt : a % L.length < L.length := Nat.mod_lt _ h0
      have hge := prows_get L hlt
      have b0 : (0 : Int) ≤ ((a % L.length : Nat) : Int) := by omega
      have ne : ¬ ((L.length : Nat) : Int) = 0 := by omega
      unfold pav2 at hge
      simp only [f13, RB, pickV, eqbV, notV, negV, convV, faddrV, fldV, idxV, eqaggV, iaddrV, isnilV, nilckV, pnilV, cloV, extrV, slenV, minV, sidxV, abin, cmpInt, params, growLists, fillCells, newAt, rdPtr, wrPtr, AV.cells, asVal, lenOf, boundOf, rowsOf, argIds, freshIn, scalar1, setAll, AV.isData, AV.isYld, Nat.reduceAdd, Nat.reduceMul, Nat.reduceSub, Nat.reduceEqDiff, Nat.reduceLeDiff, Nat.reduceLT, Int.reduceNeg, ↓reduceIte, reduceCtorEq, Int.reduceEq, Int.reduceLT, Int.reduceLE, Int.reduceBEq, Int.reduceBNe, Int.reduceToNat, IntKind.bits, Int.reduceAdd, Int.reduceSub, Int.reduceMul, Int.reduceTDiv, Int.reduceTMod, R7B, take_add, List.append_assoc, List.length_append, Nat.add_assoc, shrink_lit, ball_app, RG, LPB, wrows_len, q2_0, o2_0, q2_1, o2_1, q2_w, o2_w, q4_0, o4_0, q4_1, o4_1, q4_2, o4_2, q4_3, o4_3, q4_w, o4_w, q7_0, q7_1, q7_2, q7_3, q7_4, q7_5, q7_6, q7_w, o7_w, h17, hn, g0, u1, hm, hlt, hge, b0, ne, lisFits]
      exact ⟨_, rfl⟩
    · rw [if_neg (by simp [h0])]
      have g0 : ¬ (0 : Int) < (L.length : Nat) := by omega
      simp only [f13, RB, pickV, eqbV, notV, negV, convV, faddrV, fldV, idxV, eqaggV, iaddrV, isnilV, nilckV, pnilV, cloV, extrV, slenV, minV, sidxV, abin, cmpInt, params, growLists, fillCells, newAt, rdPtr, wrPtr, AV.cells, asVal, lenOf, boundOf, rowsOf, argIds, freshIn, scalar1, setAll, AV.isData, AV.isYld, Nat.reduceAdd, Nat.reduceMul, Nat.reduceSub, Nat.reduceEqDiff, Nat.reduceLeDiff, Nat.reduceLT, Int.reduceNeg, ↓reduceIte, reduceCtorEq, Int.reduceEq, Int.reduceLT, Int.reduceLE, Int.reduceBEq, Int.reduceBNe, Int.reduceToNat, IntKind.bits, Int.reduceAdd, Int.reduceSub, Int.reduceMul, Int.reduceTDiv, Int.reduceTMod, R7B, take_add, List.append_assoc, List.length_append, Nat.add_assoc, shrink_lit, ball_app, RG, LPB, wrows_len, q2_0, o2_0, q2_1, o2_1, q2_w, o2_w, q4_0, o4_0, q4_1, o4_1, q4_2, o4_2, q4_3, o4_3, q4_w, o4_w, q7_0, q7_1, q7_2, q7_3, q7_4, q7_5, q7_6, q7_w, o7_w, h17, g0]
      exact ⟨_, rfl⟩
end
end Go.Proofs.Ytncppbkhnafpnaa.F

/- An op on an arena. No condition. -/
set_option linter.unusedSimpArgs false
namespace Go.Proofs.Ytncppbkhnafpnaa.D
open Go Go.Proofs.Ytncppbkhnafpnaa.A
def kindS (o : Op7) : Int := (IntKind.u64.wrap o.kind).tmod 8
def verS (l : List Int) (o : Op7) : Int := IntKind.u64.wrap (two64 l 1 + IntKind.u64.wrap (o.n.tmod 3))
def epS (l : List Int) (o : Op7) : Int := IntKind.u64.wrap (two64 l 7 + IntKind.u64.wrap (o.i.tmod 3))
/-- Words behind an op. -/
def runS (l : List Int) (bks : List Bk) (o : Op7) : List Int :=
  if kindS o = 0 ∨ kindS o = 1 then (allocS l o.cls).2.2
  else if kindS o = 2 then (freeS l bks (rowS bks o.follow o.place)).2
  else if kindS o = 3 then l
  else if kindS o = 4 ∨ kindS o = 5 then (match (wordS bks (rowS bks o.follow o.place) o.i).2 with
    | some j => l.set j (IntKind.u32.wrap o.x)
    | none => l)
  else if kindS o = 6 then (pubS l bks (verS l o) (epS l o) (rowS bks o.follow o.place) 0).2
  else if o.x < two64 l 7 then l else put64 l 7 o.x
end Go.Proofs.Ytncppbkhnafpnaa.D
namespace Go.Proofs.Ytncppbkhnafpnaa.F
open Go Go.Proofs.Ytncppbkhnafpnaa.A Go.Proofs.Ytncppbkhnafpnaa.D
set_option maxHeartbeats 2000000 in
theorem r14 {l : List Int} {bks : List Bk} {lk1 : Nat} {rest : List Blk} (hA : ArOk l bks) (hH : ∀ c, c ≤ 5 → HdOk l c) (hlow : belowAll (rest.length + 2) rest = true) (o : Op7) (hx : 0 ≤ o.x ∧ o.x ≤ 18446744073709551615) :
    ∃ ext, LR E [] 14 [.ptr 1 0 0 0, .agg (opv o)] ⟨.lst 0 0 23 1 (wrows l) :: .box lk1 78 [.lis 0 0 0 l.length] :: rest, []⟩ = some (.tup [], ⟨.lst 0 0 23 1 (wrows (runS l bks o)) :: .box lk1 78 [.lis 0 0 0 l.length] :: (rest ++ ext), []⟩) := by
  have hlow1 : belowAll ((rest ++ [Blk.box 0 35 (opv o)]).length + 2) (rest ++ [Blk.box 0 35 (opv o)]) = true := by
    simp only [List.length_append, List.length_singleton]; rw [ball_app, belowAll_mono (by omega) hlow]; simp only [opv, LPB, Bool.and_self]
  obtain ⟨x13, h13⟩ := r13 (lk := 0) (lk1 := lk1) hA hlow1 o
  obtain ⟨x11, h11⟩ := r11 (lk1 := lk1) hA hlow1 o.cls hH
  obtain ⟨x21, h21⟩ := r21 (lk1 := lk1) hA hlow1 (rowS bks o.follow o.place)
  obtain ⟨x15, h15⟩ := r15 (lk := 0) (lk1 := lk1) hA hlow1 (rowS bks o.follow o.place) o.i
  obtain ⟨x12, h12⟩ := r12 (lk1 := lk1) hA hlow1 (rowS bks o.follow o.place) o.i (IntKind.u32.wrap o.x)
  obtain ⟨x22, h22⟩ := r22 (lk1 := lk1) hA hlow1 (rowS bks o.follow o.place) 0 (u64_in (two64 l 1 + IntKind.u64.wrap (o.n.tmod 3))) (u64_in (two64 l 7 + IntKind.u64.wrap (o.i.tmod 3)))
  have h23 := r23 (lk1 := lk1) (pend := []) hA.w hA.lo hA.hi hlow1 hx
  obtain ⟨x19, h19⟩ := r19 (lk := 2) (lk1 := 2) (rest := rest.map lockQ ++ [.box 2 35 (opv o)]) (pend := []) hA.w hA.lo hA.hi hA.hi
  have h24 := r24 (lk := 2) (lk1 := 2) (rest := rest.map lockQ ++ [.box 2 35 (opv o)]) (pend := []) hA.w hA.lo hA.hi
  rw [LR_R (fn := f14) rfl rfl rfl]
  simp only [List.append_assoc, List.cons_append, List.nil_append] at h13 h11 h21 h15 h12 h22 h19
  have z2 : 0 < rest.length + 3 := by omega
  have hl1 : belowAll (rest.length + 3) rest = true := belowAll_mono (by omega) hlow
  unfold runS
  have hk : (IntKind.u64.wrap o.kind).tmod 8 = kindS o := rfl
  have hkr : 0 ≤ kindS o ∧ kindS o < 8 := by
    unfold kindS
    have := u64_in o.kind
    rw [Int.tmod_eq_emod_of_nonneg this.1]; omega
  unfold opv at h13 h11 h21 h15 h12 h22 h19 h24 h23 ⊢
  rcases (show kindS o = 0 ∨ kindS o = 1 ∨ kindS o = 2 ∨ kindS o = 3 ∨ kindS o = 4 ∨ kindS o = 5 ∨ kindS o = 6 ∨ kindS o = 7 by omega) with h | h | h | h | h | h | h | h
  · simp only [f14, RB, pickV, eqbV, notV, negV, convV, faddrV, fldV, idxV, eqaggV, iaddrV, isnilV, nilckV, pnilV, cloV, extrV, slenV, minV, sidxV, abin, cmpInt, params, growLists, fillCells, newAt, rdPtr, wrPtr, AV.cells, asVal, lenOf, boundOf, rowsOf, argIds, freshIn, scalar1, setAll, AV.isData, AV.isYld, Nat.reduceAdd, Nat.reduceMul, Nat.reduceSub, Nat.reduceEqDiff, Nat.reduceLeDiff, Nat.reduceLT, Int.reduceNeg, ↓reduceIte, reduceCtorEq, Int.reduceEq, Int.reduceLT, Int.reduceLE, Int.reduceBEq, Int.reduceBNe, Int.reduceToNat, IntKind.bits, Int.reduceAdd, Int.reduceSub, Int.reduceMul, Int.reduceTDiv, Int.reduceTMod, R7B, take_add, List.append_assoc, List.length_append, Nat.add_assoc, shrink_lit, ball_app, RG, LPB, wrows_len, q2_0, o2_0, q2_1, o2_1, q2_w, o2_w, q4_0, o4_0, q4_1, o4_1, q4_2, o4_2, q4_3, o4_3, q4_w, o4_w, q7_0, q7_1, q7_2, q7_3, q7_4, q7_5, q7_6, q7_w, o7_w, h13, h11, hk, h, hl1, z2, true_or, LPB, List.take_length]
    exact ⟨_, rfl⟩
  · simp only [f14, RB, pickV, eqbV, notV, negV, convV, faddrV, fldV, idxV, eqaggV, iaddrV, isnilV, nilckV, pnilV, cloV, extrV, slenV, minV, sidxV, abin, cmpInt, params, growLists, fillCells, newAt, rdPtr, wrPtr, AV.cells, asVal, lenOf, boundOf, rowsOf, argIds, freshIn, scalar1, setAll, AV.isData, AV.isYld, Nat.reduceAdd, Nat.reduceMul, Nat.reduceSub, Nat.reduceEqDiff, Nat.reduceLeDiff, Nat.reduceLT, Int.reduceNeg, ↓reduceIte, reduceCtorEq, Int.reduceEq, Int.reduceLT, Int.reduceLE, Int.reduceBEq, Int.reduceBNe, Int.reduceToNat, IntKind.bits, Int.reduceAdd, Int.reduceSub, Int.reduceMul, Int.reduceTDiv, Int.reduceTMod, R7B, take_add, List.append_assoc, List.length_append, Nat.add_assoc, shrink_lit, ball_app, RG, LPB, wrows_len, q2_0, o2_0, q2_1, o2_1, q2_w, o2_w, q4_0, o4_0, q4_1, o4_1, q4_2, o4_2, q4_3, o4_3, q4_w, o4_w, q7_0, q7_1, q7_2, q7_3, q7_4, q7_5, q7_6, q7_w, o7_w, h13, h11, hk, h, hl1, z2, or_true, LPB, List.take_length]
    exact ⟨_, rfl⟩
  · simp only [f14, RB, pickV, eqbV, notV, negV, convV, faddrV, fldV, idxV, eqaggV, iaddrV, isnilV, nilckV, pnilV, cloV, extrV, slenV, minV, sidxV, abin, cmpInt, params, growLists, fillCells, newAt, rdPtr, wrPtr, AV.cells, asVal, lenOf, boundOf, rowsOf, argIds, freshIn, scalar1, setAll, AV.isData, AV.isYld, Nat.reduceAdd, Nat.reduceMul, Nat.reduceSub, Nat.reduceEqDiff, Nat.reduceLeDiff, Nat.reduceLT, Int.reduceNeg, ↓reduceIte, reduceCtorEq, Int.reduceEq, Int.reduceLT, Int.reduceLE, Int.reduceBEq, Int.reduceBNe, Int.reduceToNat, IntKind.bits, Int.reduceAdd, Int.reduceSub, Int.reduceMul, Int.reduceTDiv, Int.reduceTMod, R7B, take_add, List.append_assoc, List.length_append, Nat.add_assoc, shrink_lit, ball_app, RG, LPB, wrows_len, q2_0, o2_0, q2_1, o2_1, q2_w, o2_w, q4_0, o4_0, q4_1, o4_1, q4_2, o4_2, q4_3, o4_3, q4_w, o4_w, q7_0, q7_1, q7_2, q7_3, q7_4, q7_5, q7_6, q7_w, o7_w, h13, h21, hk, h, hl1, z2, or_self, LPB, List.take_length]
    exact ⟨_, rfl⟩
  · simp only [f14, RB, pickV, eqbV, notV, negV, convV, faddrV, fldV, idxV, eqaggV, iaddrV, isnilV, nilckV, pnilV, cloV, extrV, slenV, minV, sidxV, abin, cmpInt, params, growLists, fillCells, newAt, rdPtr, wrPtr, AV.cells, asVal, lenOf, boundOf, rowsOf, argIds, freshIn, scalar1, setAll, AV.isData, AV.isYld, Nat.reduceAdd, Nat.reduceMul, Nat.reduceSub, Nat.reduceEqDiff, Nat.reduceLeDiff, Nat.reduceLT, Int.reduceNeg, ↓reduceIte, reduceCtorEq, Int.reduceEq, Int.reduceLT, Int.reduceLE, Int.reduceBEq, Int.reduceBNe, Int.reduceToNat, IntKind.bits, Int.reduceAdd, Int.reduceSub, Int.reduceMul, Int.reduceTDiv, Int.reduceTMod, R7B, take_add, List.append_assoc, List.length_append, Nat.add_assoc, shrink_lit, ball_app, RG, LPB, wrows_len, q2_0, o2_0, q2_1, o2_1, q2_w, o2_w, q4_0, o4_0, q4_1, o4_1, q4_2, o4_2, q4_3, o4_3, q4_w, o4_w, q7_0, q7_1, q7_2, q7_3, q7_4, q7_5, q7_6, q7_w, o7_w, h13, h15, hk, h, hl1, z2, or_self, LPB, List.take_length]
    exact ⟨_, rfl⟩
  · simp only [f14, RB, pickV, eqbV, notV, negV, convV, faddrV, fldV, idxV, eqaggV, iaddrV, isnilV, nilckV, pnilV, cloV, extrV, slenV, minV, sidxV, abin, cmpInt, params, growLists, fillCells, newAt, rdPtr, wrPtr, AV.cells, asVal, lenOf, boundOf, rowsOf, argIds, freshIn, scalar1, setAll, AV.isData, AV.isYld, Nat.reduceAdd, Nat.reduceMul, Nat.reduceSub, Nat.reduceEqDiff, Nat.reduceLeDiff, Nat.reduceLT, Int.reduceNeg, ↓reduceIte, reduceCtorEq, Int.reduceEq, Int.reduceLT, Int.reduceLE, Int.reduceBEq, Int.reduceBNe, Int.reduceToNat, IntKind.bits, Int.reduceAdd, Int.reduceSub, Int.reduceMul, Int.reduceTDiv, Int.reduceTMod, R7B, take_add, List.append_assoc, List.length_append, Nat.add_assoc, shrink_lit, ball_app, RG, LPB, wrows_len, q2_0, o2_0, q2_1, o2_1, q2_w, o2_w, q4_0, o4_0, q4_1, o4_1, q4_2, o4_2, q4_3, o4_3, q4_w, o4_w, q7_0, q7_1, q7_2, q7_3, q7_4, q7_5, q7_6, q7_w, o7_w, h13, h12, hk, h, hl1, z2, true_or, or_self, LPB, List.take_length]
    exact ⟨_, rfl⟩
  · simp only [f14, RB, pickV, eqbV, notV, negV, convV, faddrV, fldV, idxV, eqaggV, iaddrV, isnilV, nilckV, pnilV, cloV, extrV, slenV, minV, sidxV, abin, cmpInt, params, growLists, fillCells, newAt, rdPtr, wrPtr, AV.cells, asVal, lenOf, boundOf, rowsOf, argIds, freshIn, scalar1, setAll, AV.isData, AV.isYld, Nat.reduceAdd, Nat.reduceMul, Nat.reduceSub, Nat.reduceEqDiff, Nat.reduceLeDiff, Nat.reduceLT, Int.reduceNeg, ↓reduceIte, reduceCtorEq, Int.reduceEq, Int.reduceLT, Int.reduceLE, Int.reduceBEq, Int.reduceBNe, Int.reduceToNat, IntKind.bits, Int.reduceAdd, Int.reduceSub, Int.reduceMul, Int.reduceTDiv, Int.reduceTMod, R7B, take_add, List.append_assoc, List.length_append, Nat.add_assoc, shrink_lit, ball_app, RG, LPB, wrows_len, q2_0, o2_0, q2_1, o2_1, q2_w, o2_w, q4_0, o4_0, q4_1, o4_1, q4_2, o4_2, q4_3, o4_3, q4_w, o4_w, q7_0, q7_1, q7_2, q7_3, q7_4, q7_5, q7_6, q7_w, o7_w, h13, h12, hk, h, hl1, z2, or_true, or_self, LPB, List.take_length]
    exact ⟨_, rfl⟩
  · unfold verS epS
    simp only [f14, RB, pickV, eqbV, notV, negV, convV, faddrV, fldV, idxV, eqaggV, iaddrV, isnilV, nilckV, pnilV, cloV, extrV, slenV, minV, sidxV, abin, cmpInt, params, growLists, fillCells, newAt, rdPtr, wrPtr, AV.cells, asVal, lenOf, boundOf, rowsOf, argIds, freshIn, scalar1, setAll, AV.isData, AV.isYld, Nat.reduceAdd, Nat.reduceMul, Nat.reduceSub, Nat.reduceEqDiff, Nat.reduceLeDiff, Nat.reduceLT, Int.reduceNeg, ↓reduceIte, reduceCtorEq, Int.reduceEq, Int.reduceLT, Int.reduceLE, Int.reduceBEq, Int.reduceBNe, Int.reduceToNat, IntKind.bits, Int.reduceAdd, Int.reduceSub, Int.reduceMul, Int.reduceTDiv, Int.reduceTMod, R7B, take_add, List.append_assoc, List.length_append, Nat.add_assoc, shrink_lit, ball_app, RG, LPB, wrows_len, q2_0, o2_0, q2_1, o2_1, q2_w, o2_w, q4_0, o4_0, q4_1, o4_1, q4_2, o4_2, q4_3, o4_3, q4_w, o4_w, q7_0, q7_1, q7_2, q7_3, q7_4, q7_5, q7_6, q7_w, o7_w, h13, h22, h19, h24, hk, h, hl1, z2, or_self, LPB, List.take_length, lockQ, List.map_append, List.map_cons, List.map_nil, scalarQ, scalar, scalar1, Bool.true_or]
    exact ⟨_, rfl⟩
  · simp only [f14, RB, pickV, eqbV, notV, negV, convV, faddrV, fldV, idxV, eqaggV, iaddrV, isnilV, nilckV, pnilV, cloV, extrV, slenV, minV, sidxV, abin, cmpInt, params, growLists, fillCells, newAt, rdPtr, wrPtr, AV.cells, asVal, lenOf, boundOf, rowsOf, argIds, freshIn, scalar1, setAll, AV.isData, AV.isYld, Nat.reduceAdd, Nat.reduceMul, Nat.reduceSub, Nat.reduceEqDiff, Nat.reduceLeDiff, Nat.reduceLT, Int.reduceNeg, ↓reduceIte, reduceCtorEq, Int.reduceEq, Int.reduceLT, Int.reduceLE, Int.reduceBEq, Int.reduceBNe, Int.reduceToNat, IntKind.bits, Int.reduceAdd, Int.reduceSub, Int.reduceMul, Int.reduceTDiv, Int.reduceTMod, R7B, take_add, List.append_assoc, List.length_append, Nat.add_assoc, shrink_lit, ball_app, RG, LPB, wrows_len, q2_0, o2_0, q2_1, o2_1, q2_w, o2_w, q4_0, o4_0, q4_1, o4_1, q4_2, o4_2, q4_3, o4_3, q4_w, o4_w, q7_0, q7_1, q7_2, q7_3, q7_4, q7_5, q7_6, q7_w, o7_w, h13, h23, hk, h, hl1, z2, or_self, LPB, List.take_length]
    exact ⟨_, rfl⟩
end Go.Proofs.Ytncppbkhnafpnaa.F

/- An arena stays one: plain. No condition. -/
set_option linter.unusedSimpArgs false
namespace Go.Proofs.Ytncppbkhnafpnaa.D
open Go Go.Proofs.Ytncppbkhnafpnaa.A
theorem pcs_app (l : List Int) : ∀ (bs : List Bk) (b : Bk) {p e : Nat}, Chn l p bs e → pcs p (bs ++ [b]) = pcs p bs ++ [(e + 1, b)]
  | [], b, p, e, h => by have : p = e := h; subst this; rfl
  | a :: bs, b, p, e, h => by
    show (p + 1, a) :: pcs _ (bs ++ [b]) = _
    rw [pcs_app l bs b h.2.2]; rfl
theorem Chn.app {l : List Int} : ∀ {bs : List Bk} {b : Bk} {p e : Nat}, Chn l p bs e → b.1 ≤ 5 → wrd l e = hdw b → Chn l p (bs ++ [b]) (e + 1 + 2 ^ b.1)
  | [], b, p, e, h, h1, h2 => by have : p = e := h; subst this; exact ⟨h1, h2, rfl⟩
  | a :: bs, b, p, e, h, h1, h2 => ⟨h.1, h.2.1, Chn.app h.2.2 h1 h2⟩
theorem Chn.congr {l l' : List Int} : ∀ {bs : List Bk} {p e : Nat}, Chn l p bs e → (∀ x ∈ pcs p bs, wrd l' (x.1 - 1) = wrd l (x.1 - 1)) → Chn l' p bs e
  | [], p, e, h, _ => h
  | a :: bs, p, e, h, hx => by
    refine ⟨h.1, ?_, Chn.congr h.2.2 fun x hx' => hx x (List.mem_cons_of_mem _ hx')⟩
    have := hx (p + 1, a) (by simp [pcs])
    simp only [Nat.add_sub_cancel] at this
    rw [this]; exact h.2.1
/-- A block at a place, taken or free from now on. -/
def flp (q : Nat) (t : Bool) : Nat → List Bk → List Bk
  | _, [] => []
  | p, b :: bs => (if p + 1 = q then (b.1, t) else b) :: flp q t (p + 1 + 2 ^ b.1) bs
def flx (q : Nat) (t : Bool) (x : Nat × Bk) : Nat × Bk := if x.1 = q then (x.1, (x.2.1, t)) else x
theorem pcs_flp (q : Nat) (t : Bool) : ∀ (bs : List Bk) (p : Nat), pcs p (flp q t p bs) = (pcs p bs).map (flx q t)
  | [], p => rfl
  | b :: bs, p => by
    have e : (if p + 1 = q then (b.1, t) else b).1 = b.1 := by split <;> rfl
    show (p + 1, _) :: pcs (p + 1 + 2 ^ (if p + 1 = q then (b.1, t) else b).1) _ = _
    rw [e, pcs_flp q t bs]
    show _ = flx q t (p + 1, b) :: _
    congr 1
    unfold flx
    by_cases h : p + 1 = q <;> simp [h]
theorem Chn.flp {l l' : List Int} (q : Nat) (t : Bool) : ∀ {bs : List Bk} {p e : Nat}, Chn l p bs e → (∀ x ∈ pcs p bs, wrd l' (x.1 - 1) = hdw (flx q t x).2) → Chn l' p (flp q t p bs) e
  | [], p, e, h, _ => h
  | a :: bs, p, e, h, hx => by
    have e1 : (if p + 1 = q then (a.1, t) else a).1 = a.1 := by split <;> rfl
    refine ⟨by rw [e1]; exact h.1, ?_, ?_⟩
    · have := hx (p + 1, a) (by simp [pcs])
      simp only [Nat.add_sub_cancel] at this
      rw [this]
      unfold flx
      by_cases hq : p + 1 = q <;> simp [hq]
    · rw [e1]; exact Chn.flp q t h.2.2 fun x hx' => hx x (List.mem_cons_of_mem _ hx')
theorem pcs_ge {l : List Int} {bs : List Bk} {p e : Nat} (h : Chn l p bs e) {x : Nat × Bk} (hx : x ∈ pcs p bs) : p + 1 ≤ x.1 := (pcs_mem h hx).1
/-- Two blocks lie apart. -/
theorem pcs_apart {l : List Int} : ∀ {bs : List Bk} {p e : Nat}, Chn l p bs e → ∀ {x y : Nat × Bk}, x ∈ pcs p bs → y ∈ pcs p bs → x = y ∨ x.1 + 2 ^ x.2.1 + 1 ≤ y.1 ∨ y.1 + 2 ^ y.2.1 + 1 ≤ x.1
  | [], p, e, _, x, y, hx, _ => by cases hx
  | b :: bs, p, e, h, x, y, hx, hy => by
    rcases List.mem_cons.1 hx with rfl | hx
    · rcases List.mem_cons.1 hy with rfl | hy
      · exact .inl rfl
      · have := pcs_ge h.2.2 hy
        exact .inr (.inl (by simp only; omega))
    · rcases List.mem_cons.1 hy with rfl | hy
      · have := pcs_ge h.2.2 hx
        exact .inr (.inr (by simp only; omega))
      · exact pcs_apart h.2.2 hx hy
def Lnk (l : List Int) : Int → List Nat → Prop
  | x, [] => x = 0
  | x, q :: qs => x = (q : Int) ∧ Lnk l (wrd l q) qs
theorem Lnk.congr {l l' : List Int} : ∀ {qs : List Nat} {x : Int}, Lnk l x qs → (∀ q ∈ qs, wrd l' q = wrd l q) → Lnk l' x qs
  | [], x, h, _ => h
  | q :: qs, x, h, hq => ⟨h.1, by rw [hq q (by simp)]; exact Lnk.congr h.2 fun r hr => hq r (by simp [hr])⟩
/-- An arena with the rows of its free blocks. -/
structure Gd (l : List Int) (bks : List Bk) (fl : Nat → List Nat) : Prop where
  ar : ArOk l bks
  lnk : ∀ c, c ≤ 5 → Lnk l (wrd l (9 + c)) (fl c)
  mem : ∀ c, c ≤ 5 → ∀ q ∈ fl c, (q, (c, false)) ∈ pcs 16 bks
  nd : ∀ c, c ≤ 5 → (fl c).Nodup
theorem Gd.blk {l : List Int} {bks : List Bk} {fl : Nat → List Nat} (h : Gd l bks fl) {x : Nat × Bk} (hx : x ∈ pcs 16 bks) : 17 ≤ x.1 ∧ x.1 + 2 ^ x.2.1 ≤ (wrd l 15).toNat ∧ x.1 + 2 ^ x.2.1 ≤ l.length ∧ x.2.1 ≤ 5 ∧ wrd l (x.1 - 1) = hdw x.2 := by
  obtain ⟨k1, k2, k3, k4⟩ := pcs_mem h.ar.chn hx
  have := h.ar.edge
  exact ⟨by omega, k2, by omega, k3, k4⟩
theorem Gd.hd {l : List Int} {bks : List Bk} {fl : Nat → List Nat} (h : Gd l bks fl) : ∀ c, c ≤ 5 → HdOk l c := fun c hc => by
  have hl := h.lnk c hc
  have hm := h.mem c hc
  cases hf : fl c with
  | nil => rw [hf] at hl; exact .inl hl
  | cons q qs =>
    rw [hf] at hl hm
    obtain ⟨k1, _, k3, _⟩ := h.blk (hm q (by simp))
    have e : wrd l (9 + c) = (q : Int) := hl.1
    refine .inr ⟨by omega, ?_⟩
    rw [e, Int.toNat_natCast]; exact k3
theorem Gd.one {l : List Int} {bks : List Bk} {fl : Nat → List Nat} (h : Gd l bks fl) {q : Nat} {a b : Bk} (ha : (q, a) ∈ pcs 16 bks) (hb : (q, b) ∈ pcs 16 bks) : a = b := by
  rcases pcs_apart h.ar.chn ha hb with e | e | e
  · exact (Prod.mk.inj e).2
  · have := pow_pos' a.1; simp only at e; omega
  · have := pow_pos' b.1; simp only at e; omega
/-- Words that are changed where no list and no head stands. -/
theorem Gd.words {l l' : List Int} {bks : List Bk} {fl : Nat → List Nat} (h : Gd l bks fl) (hl : l'.length = l.length) (hw : WOk l') (h9 : ∀ i, 9 ≤ i → i ≤ 15 → wrd l' i = wrd l i) (hh : ∀ x ∈ pcs 16 bks, wrd l' (x.1 - 1) = wrd l (x.1 - 1)) (hq : ∀ x ∈ pcs 16 bks, x.2.2 = false → wrd l' x.1 = wrd l x.1) : Gd l' bks fl := by
  refine ⟨⟨hw, by rw [hl]; exact h.ar.lo, by rw [hl]; exact h.ar.hi, ?_, by rw [hl, h9 15 (by omega) (by omega)]; exact h.ar.edge⟩, fun c hc => ?_, h.mem, h.nd⟩
  · rw [h9 15 (by omega) (by omega)]; exact h.ar.chn.congr hh
  · rw [h9 (9 + c) (by omega) (by omega)]
    exact (h.lnk c hc).congr fun q hq' => hq _ (h.mem c hc q hq') rfl
end Go.Proofs.Ytncppbkhnafpnaa.D

/- An arena stays one behind each op: plain. No condition. -/
set_option linter.unusedSimpArgs false
namespace Go.Proofs.Ytncppbkhnafpnaa.D
open Go Go.Proofs.Ytncppbkhnafpnaa.A
theorem u32_in (x : Int) : 0 ≤ IntKind.u32.wrap x ∧ IntKind.u32.wrap x ≤ 4294967295 := by rw [IntKind.wrap_u32]; omega
theorem wrd_put64 {l : List Int} {i j : Nat} {x : Int} (h1 : j ≠ i) (h2 : j ≠ i + 1) : wrd (put64 l i x) j = wrd l j := by
  unfold put64; rw [wrd_ne _ (by omega), wrd_ne _ (by omega)]
theorem WOk.put64 {l : List Int} (h : WOk l) {i : Nat} {x : Int} (hx : 0 ≤ x ∧ x ≤ 18446744073709551615) : WOk (put64 l i x) := (h.set (by omega)).set (by omega)
theorem wrd_take {l : List Int} {c q i : Nat} (h : q + 2 ^ c ≤ l.length) (h1 : 1 ≤ q) : wrd (takeL' l c q) i = if q ≤ i ∧ i < q + 2 ^ c then 0 else if i + 1 = q then 17 + 2 * (c : Int) else wrd l i := by
  have := pow_pos' c
  unfold takeL'
  rw [wrd_clr (by rw [List.length_set]; exact h)]
  split
  · rfl
  · rw [wrd_set _ (by omega)]
    by_cases hi : i + 1 = q
    · rw [if_pos hi, if_pos (by omega)]
    · rw [if_neg hi, if_neg (by omega)]
theorem take_len {l : List Int} {c q : Nat} (h : q + 2 ^ c ≤ l.length) : (takeL' l c q).length = l.length := by
  unfold takeL'; rw [clr_len (by rw [List.length_set]; exact h), List.length_set]
theorem take_ok {l : List Int} (hl : WOk l) {c q : Nat} (hc : c ≤ 5) (h : q + 2 ^ c ≤ l.length) : WOk (takeL' l c q) := by
  unfold takeL'
  exact (hl.set (by omega)).clr (by rw [List.length_set]; exact h)
theorem wrd_give {l : List Int} {c p i : Nat} (hc : c ≤ 5) (h : p + 2 ^ c ≤ l.length) (h1 : 17 ≤ p) : wrd (giveL l c p) i = if i = 9 + c then (p : Int) else if i + 1 = p then 16 + 2 * (c : Int) else if i = p then wrd l (9 + c) else if p ≤ i ∧ i < p + 2 ^ c then 0 else wrd l i := by
  have := pow_pos' c
  unfold giveL
  rw [wrd_set _ (by simp only [List.length_set]; rw [clr_len h]; omega)]
  by_cases e1 : i = 9 + c
  · rw [if_pos e1, if_pos e1.symm]
  · rw [if_neg e1, if_neg (Ne.symm e1), wrd_set _ (by simp only [List.length_set]; rw [clr_len h]; omega)]
    by_cases e2 : i + 1 = p
    · rw [if_pos e2, if_pos (by omega)]
    · rw [if_neg e2, if_neg (by omega), wrd_set _ (by rw [clr_len h]; omega)]
      by_cases e3 : i = p
      · rw [if_pos e3, if_pos e3.symm]
      · rw [if_neg e3, if_neg (Ne.symm e3), wrd_clr h]
theorem give_len {l : List Int} {c p : Nat} (h : p + 2 ^ c ≤ l.length) : (giveL l c p).length = l.length := by
  unfold giveL; simp only [List.length_set]; exact clr_len h
theorem give_ok {l : List Int} (hl : WOk l) {c p : Nat} (hc : c ≤ 5) (h : p + 2 ^ c ≤ l.length) (hp : p ≤ 16384) : WOk (giveL l c p) := by
  unfold giveL
  exact (((hl.clr h).set (hl _)).set (by omega)).set (by omega)
/-- What a taken block holds stays. -/
def Holds' (l : List Int) (bks : List Bk) (l' : List Int) (bks' : List Bk) (no : Nat → Prop) : Prop :=
  ∀ p c j, (p, (c, true)) ∈ pcs 16 bks → p ≤ j → j < p + 2 ^ c → ¬ no p → (p, (c, true)) ∈ pcs 16 bks' ∧ wrd l' j = wrd l j
variable {l : List Int} {bks : List Bk} {fl : Nat → List Nat}
theorem Gd.put (h : Gd l bks fl) {i : Nat} (hi : i ≤ 7) {x : Int} (hx : 0 ≤ x ∧ x ≤ 18446744073709551615) : Gd (put64 l i x) bks fl ∧ ∀ no, Holds' l bks (put64 l i x) bks no := by
  refine ⟨h.words (put64_len _ _ _) (h.ar.w.put64 hx) (fun j h1 h2 => wrd_put64 (by omega) (by omega)) (fun y hy => ?_) (fun y hy _ => ?_), fun no p c j hp h1 h2 _ => ⟨hp, ?_⟩⟩
  · obtain ⟨k1, _⟩ := h.blk hy; exact wrd_put64 (by omega) (by omega)
  · obtain ⟨k1, _⟩ := h.blk hy; exact wrd_put64 (by omega) (by omega)
  · obtain ⟨k1, _⟩ := h.blk hp; simp only at k1; exact wrd_put64 (by omega) (by omega)
theorem Gd.setLow (h : Gd l bks fl) {i : Nat} (hi : i ≤ 8) {x : Int} (hx : 0 ≤ x ∧ x ≤ 4294967295) : Gd (l.set i x) bks fl ∧ ∀ no, Holds' l bks (l.set i x) bks no := by
  refine ⟨h.words (List.length_set) (h.ar.w.set hx) (fun j h1 h2 => wrd_ne _ (by omega)) (fun y hy => ?_) (fun y hy _ => ?_), fun no p c j hp h1 h2 _ => ⟨hp, ?_⟩⟩
  · obtain ⟨k1, _⟩ := h.blk hy; exact wrd_ne _ (by omega)
  · obtain ⟨k1, _⟩ := h.blk hy; exact wrd_ne _ (by omega)
  · obtain ⟨k1, _⟩ := h.blk hp; simp only at k1; exact wrd_ne _ (by omega)
theorem Holds'.trans {l1 l2 l3 : List Int} {b1 b2 b3 : List Bk} {no : Nat → Prop} (h : Holds' l1 b1 l2 b2 no) (k : Holds' l2 b2 l3 b3 no) : Holds' l1 b1 l3 b3 no := fun p c j hp h1 h2 h3 => by
  obtain ⟨a1, a2⟩ := h p c j hp h1 h2 h3
  obtain ⟨c1, c2⟩ := k p c j a1 h1 h2 h3
  exact ⟨c1, c2.trans a2⟩
theorem Gd.pub (h : Gd l bks fl) {ver ep four six : Int} (hv : 0 ≤ ver ∧ ver ≤ 18446744073709551615) (he : 0 ≤ ep ∧ ep ≤ 18446744073709551615) : Gd (pubL l ver ep four six) bks fl ∧ ∀ no, Holds' l bks (pubL l ver ep four six) bks no := by
  obtain ⟨g1, k1⟩ := h.put (i := 1) (by omega) hv
  obtain ⟨g2, k2⟩ := g1.put (i := 3) (by omega) he
  obtain ⟨g3, k3⟩ := g2.setLow (i := 5) (by omega) (u32_in four)
  obtain ⟨g4, k4⟩ := g3.setLow (i := 6) (by omega) (u32_in six)
  exact ⟨g4, fun no => (((k1 no).trans (k2 no)).trans (k3 no)).trans (k4 no)⟩
theorem Gd.store (h : Gd l bks fl) {x : Nat × Bk} (hx : x ∈ pcs 16 bks) (ht : x.2.2 = true) {j : Nat} (h1 : x.1 ≤ j) (h2 : j < x.1 + 2 ^ x.2.1) {v : Int} (hv : 0 ≤ v ∧ v ≤ 4294967295) : Gd (l.set j v) bks fl ∧ Holds' l bks (l.set j v) bks (fun p => p = x.1) := by
  obtain ⟨b1, b2, b3, b4, b5⟩ := h.blk hx
  refine ⟨h.words (List.length_set) (h.ar.w.set hv) (fun i _ _ => wrd_ne _ (by omega)) (fun y hy => wrd_ne _ ?_) (fun y hy hf => wrd_ne _ ?_), fun p c i hp k1 k2 k3 => ⟨hp, wrd_ne _ ?_⟩⟩
  · obtain ⟨y1, _⟩ := h.blk hy
    rcases pcs_apart h.ar.chn hx hy with e | e | e
    · subst e; omega
    · omega
    · have := pow_pos' y.2.1; omega
  · rcases pcs_apart h.ar.chn hx hy with e | e | e
    · subst e; rw [ht] at hf; cases hf
    · omega
    · have := pow_pos' y.2.1; omega
  · rcases pcs_apart h.ar.chn hx hp with e | e | e
    · subst e; exact absurd rfl k3
    · simp only at e; omega
    · simp only at e; omega
end Go.Proofs.Ytncppbkhnafpnaa.D

/- An arena stays one behind Alloc and Free: plain. No condition. -/
set_option linter.unusedSimpArgs false
namespace Go.Proofs.Ytncppbkhnafpnaa.D
open Go Go.Proofs.Ytncppbkhnafpnaa.A
variable {l : List Int} {bks : List Bk} {fl : Nat → List Nat}
theorem flx_ne {q : Nat} {t : Bool} {x : Nat × Bk} (h : x.1 ≠ q) : flx q t x = x := by unfold flx; rw [if_neg h]
theorem mem_flp {q : Nat} {t : Bool} {x : Nat × Bk} (h : x ∈ pcs 16 bks) (hn : x.1 ≠ q) : x ∈ pcs 16 (flp q t 16 bks) := by
  rw [pcs_flp]; exact List.mem_map.2 ⟨x, h, flx_ne hn⟩
theorem mem_flp_q {q c : Nat} {t t' : Bool} (h : (q, (c, t')) ∈ pcs 16 bks) : (q, (c, t)) ∈ pcs 16 (flp q t 16 bks) := by
  rw [pcs_flp]; exact List.mem_map.2 ⟨_, h, by unfold flx; simp⟩
/-- A free block is taken. -/
theorem Gd.pop (h : Gd l bks fl) {c q : Nat} {qs : List Nat} (hc : c ≤ 5) (hf : fl c = q :: qs) :
    Gd (takeL' (l.set (9 + c) (wrd l q)) c q) (flp q true 16 bks) (fun d => if d = c then qs else fl d) ∧ (∀ no, Holds' l bks (takeL' (l.set (9 + c) (wrd l q)) c q) (flp q true 16 bks) no) ∧ (q, (c, true)) ∈ pcs 16 (flp q true 16 bks) := by
  have hq := h.mem c hc q (by rw [hf]; simp)
  obtain ⟨k1, k2, k3, _, k5⟩ := h.blk hq
  simp only at k1 k2 k3 k5
  have hlk := h.lnk c hc
  have hnd := h.nd c hc
  rw [hf] at hlk hnd
  obtain ⟨e9, hlk⟩ := hlk
  obtain ⟨hn1, hn2⟩ := List.nodup_cons.1 hnd
  have hlen : q + 2 ^ c ≤ (l.set (9 + c) (wrd l q)).length := by rw [List.length_set]; exact k3
  have hlo := h.ar.lo
  have hpp := pow_pos' c
  have W : ∀ i, wrd (takeL' (l.set (9 + c) (wrd l q)) c q) i = if q ≤ i ∧ i < q + 2 ^ c then 0 else if i + 1 = q then 17 + 2 * (c : Int) else if i = 9 + c then wrd l q else wrd l i := fun i => by
    rw [wrd_take hlen (by omega), wrd_set _ (show 9 + c < l.length by omega)]
    simp only [show (9 + c = i) = (i = 9 + c) from propext ⟨Eq.symm, Eq.symm⟩]
  have far : ∀ {y : Nat × Bk}, y ∈ pcs 16 bks → y.1 ≠ q → y.1 + 2 ^ y.2.1 + 1 ≤ q ∨ q + 2 ^ c + 1 ≤ y.1 := fun {y} hy hn => by
    rcases pcs_apart h.ar.chn hq hy with e | e | e
    · exact absurd (by rw [← e]) hn
    · exact .inr e
    · exact .inl e
  have free : ∀ {d r : Nat}, d ≤ 5 → r ∈ (if d = c then qs else fl d) → r ≠ q ∧ (r, (d, false)) ∈ pcs 16 bks := fun {d r} hd hr => by
    by_cases e : d = c
    · subst e
      rw [if_pos rfl] at hr
      exact ⟨fun e => hn1 (e ▸ hr), h.mem d hd r (by rw [hf]; simp [hr])⟩
    · rw [if_neg e] at hr
      have := h.mem d hd r hr
      exact ⟨fun e' => e (by subst e'; exact (Prod.mk.inj (h.one this hq)).1), this⟩
  have same : ∀ {y : Nat × Bk} {i : Nat}, y ∈ pcs 16 bks → y.1 ≠ q → y.1 - 1 ≤ i → i < y.1 + 2 ^ y.2.1 → wrd (takeL' (l.set (9 + c) (wrd l q)) c q) i = wrd l i := fun {y i} hy hn h1 h2 => by
    obtain ⟨y1, _⟩ := h.blk hy
    rw [W]
    rcases far hy hn with e | e
    · rw [if_neg (by omega), if_neg (by omega), if_neg (by omega)]
    · rw [if_neg (by omega), if_neg (by omega), if_neg (by omega)]
  refine ⟨⟨⟨?_, ?_, ?_, ?_, ?_⟩, fun d hd => ?_, fun d hd r hr => ?_, fun d hd => ?_⟩, fun no p d j hp h1 h2 _ => ?_, mem_flp_q hq⟩
  · exact take_ok (h.ar.w.set (h.ar.w _)) hc hlen
  · rw [take_len hlen, List.length_set]; exact hlo
  · rw [take_len hlen, List.length_set]; exact h.ar.hi
  · have e15 : wrd (takeL' (l.set (9 + c) (wrd l q)) c q) 15 = wrd l 15 := by rw [W, if_neg (by omega), if_neg (by omega), if_neg (by omega)]
    rw [e15]
    refine h.ar.chn.flp q true fun y hy => ?_
    obtain ⟨y1, _, _, _, y5⟩ := h.blk hy
    by_cases e : y.1 = q
    · have hy' : (q, y.2) ∈ pcs 16 bks := by rw [← e]; exact hy
      have := h.one hy' hq
      unfold flx
      rw [if_pos e, W, if_neg (by omega), if_pos (by omega), this]
      unfold hdw; simp; omega
    · rw [flx_ne e, same hy e (Nat.le_refl _) (by have := pow_pos' y.2.1; omega), y5]
  · rw [take_len hlen, List.length_set]
    have e15 : wrd (takeL' (l.set (9 + c) (wrd l q)) c q) 15 = wrd l 15 := by rw [W, if_neg (by omega), if_neg (by omega), if_neg (by omega)]
    rw [e15]; exact h.ar.edge
  · have key : ∀ r ∈ (if d = c then qs else fl d), wrd (takeL' (l.set (9 + c) (wrd l q)) c q) r = wrd l r := fun r hr => by
      obtain ⟨hn, hm⟩ := free hd hr
      exact same hm hn (by simp only; omega) (by simp only; have := pow_pos' d; omega)
    by_cases e : d = c
    · subst e
      simp only [if_true] at key ⊢
      rw [W, if_neg (by omega), if_neg (by omega), if_pos rfl]
      exact hlk.congr key
    · simp only [if_neg e] at key ⊢
      rw [W, if_neg (by omega), if_neg (by omega), if_neg (by omega)]
      exact (h.lnk d hd).congr key
  · obtain ⟨hn, hm⟩ := free hd hr
    exact mem_flp hm hn
  · by_cases e : d = c
    · simp only [if_pos e]; exact hn2
    · simp only [if_neg e]; exact h.nd d hd
  · have hn : p ≠ q := fun e => by
      subst e
      have := h.one hp hq
      simp at this
    exact ⟨mem_flp hp hn, same hp hn (by simp only; omega) h2⟩
/-- A block behind all others. -/
theorem Gd.new (h : Gd l bks fl) {c : Nat} (hc : c ≤ 5) (hfit : (wrd l 15).toNat + 1 + 2 ^ c ≤ l.length) :
    Gd (takeL' (l.set 15 (((wrd l 15).toNat + 1 + 2 ^ c : Nat) : Int)) c ((wrd l 15).toNat + 1)) (bks ++ [(c, true)]) fl ∧ (∀ no, Holds' l bks (takeL' (l.set 15 (((wrd l 15).toNat + 1 + 2 ^ c : Nat) : Int)) c ((wrd l 15).toNat + 1)) (bks ++ [(c, true)]) no) ∧
      ((wrd l 15).toNat + 1, (c, true)) ∈ pcs 16 (bks ++ [(c, true)]) := by
  have hlo := h.ar.lo
  have hhi := h.ar.hi
  have hge := h.ar.chn.le
  have hpp := pow_pos' c
  have blk := fun {x : Nat × Bk} (hx : x ∈ pcs 16 bks) => h.blk hx
  have hchn := h.ar.chn
  generalize he : (wrd l 15).toNat = e at *
  have hlen : e + 1 + 2 ^ c ≤ (l.set 15 ((e + 1 + 2 ^ c : Nat) : Int)).length := by rw [List.length_set]; exact hfit
  have W : ∀ i, wrd (takeL' (l.set 15 ((e + 1 + 2 ^ c : Nat) : Int)) c (e + 1)) i = if e + 1 ≤ i ∧ i < e + 1 + 2 ^ c then 0 else if i = e then 17 + 2 * (c : Int) else if i = 15 then ((e + 1 + 2 ^ c : Nat) : Int) else wrd l i := fun i => by
    rw [wrd_take hlen (by omega), wrd_set _ (show 15 < l.length by omega)]
    simp only [show (15 = i) = (i = 15) from propext ⟨Eq.symm, Eq.symm⟩, show (i + 1 = e + 1) = (i = e) from propext ⟨fun h => by omega, fun h => by omega⟩]
  have e15 : wrd (takeL' (l.set 15 ((e + 1 + 2 ^ c : Nat) : Int)) c (e + 1)) 15 = ((e + 1 + 2 ^ c : Nat) : Int) := by rw [W, if_neg (by omega), if_neg (by omega), if_pos rfl]
  have same : ∀ {y : Nat × Bk} {i : Nat}, y ∈ pcs 16 bks → y.1 - 1 ≤ i → i < y.1 + 2 ^ y.2.1 → wrd (takeL' (l.set 15 ((e + 1 + 2 ^ c : Nat) : Int)) c (e + 1)) i = wrd l i := fun {y i} hy h1 h2 => by
    obtain ⟨y1, y2, _⟩ := blk hy
    rw [W, if_neg (by omega), if_neg (by omega), if_neg (by omega)]
  have happ := pcs_app l bks (c, true) hchn
  refine ⟨⟨⟨?_, ?_, ?_, ?_, ?_⟩, fun d hd => ?_, fun d hd r hr => ?_, h.nd⟩, fun no p d j hp h1 h2 _ => ?_, ?_⟩
  · exact take_ok (h.ar.w.set (by omega)) hc hlen
  · rw [take_len hlen, List.length_set]; exact hlo
  · rw [take_len hlen, List.length_set]; exact hhi
  · rw [e15, Int.toNat_natCast]
    refine (hchn.congr fun y hy => same hy (Nat.le_refl _) ?_).app (b := (c, true)) hc ?_
    · obtain ⟨y1, _⟩ := blk hy; have := pow_pos' y.2.1; omega
    · rw [W, if_neg (by omega), if_pos rfl]; unfold hdw; simp; omega
  · rw [take_len hlen, List.length_set, e15, Int.toNat_natCast]; exact hfit
  · rw [W, if_neg (by omega), if_neg (by omega), if_neg (by omega)]
    refine (h.lnk d hd).congr fun r hr => ?_
    have hm := h.mem d hd r hr
    exact same hm (by simp only; omega) (by simp only; have := pow_pos' d; omega)
  · rw [happ]; exact List.mem_append_left _ (h.mem d hd r hr)
  · rw [happ]; exact ⟨List.mem_append_left _ hp, same hp (by simp only; omega) h2⟩
  · rw [happ]; simp
/-- A block is given back. -/
theorem Gd.give (h : Gd l bks fl) {c p : Nat} (hp : (p, (c, true)) ∈ pcs 16 bks) :
    Gd (giveL l c p) (flp p false 16 bks) (fun d => if d = c then p :: fl c else fl d) ∧ Holds' l bks (giveL l c p) (flp p false 16 bks) (fun q => q = p) := by
  obtain ⟨k1, k2, k3, hc, k5⟩ := h.blk hp
  simp only at k1 k2 k3 hc k5
  have hlo := h.ar.lo
  have W := fun i => wrd_give (i := i) hc k3 k1
  have hpp := pow_pos' c
  have far : ∀ {y : Nat × Bk}, y ∈ pcs 16 bks → y.1 ≠ p → y.1 + 2 ^ y.2.1 + 1 ≤ p ∨ p + 2 ^ c + 1 ≤ y.1 := fun {y} hy hn => by
    rcases pcs_apart h.ar.chn hp hy with e | e | e
    · exact absurd (by rw [← e]) hn
    · exact .inr e
    · exact .inl e
  have same : ∀ {y : Nat × Bk} {i : Nat}, y ∈ pcs 16 bks → y.1 ≠ p → y.1 - 1 ≤ i → i < y.1 + 2 ^ y.2.1 → wrd (giveL l c p) i = wrd l i := fun {y i} hy hn h1 h2 => by
    obtain ⟨y1, _⟩ := h.blk hy
    rw [W]
    rcases far hy hn with e | e
    · rw [if_neg (by omega), if_neg (by omega), if_neg (by omega), if_neg (by omega)]
    · rw [if_neg (by omega), if_neg (by omega), if_neg (by omega), if_neg (by omega)]
  have e15 : wrd (giveL l c p) 15 = wrd l 15 := by rw [W, if_neg (by omega), if_neg (by omega), if_neg (by omega), if_neg (by omega)]
  have free : ∀ {d r : Nat}, d ≤ 5 → r ∈ fl d → r ≠ p := fun {d r} hd hr e => by
    subst e
    have := h.one (h.mem d hd r hr) hp
    simp at this
  have keep : ∀ {d r : Nat}, d ≤ 5 → r ∈ fl d → wrd (giveL l c p) r = wrd l r := fun {d r} hd hr =>
    same (h.mem d hd r hr) (free hd hr) (by simp only; omega) (by simp only; have := pow_pos' d; omega)
  have hhi := h.ar.hi
  refine ⟨⟨⟨give_ok h.ar.w hc k3 (by omega), by rw [give_len k3]; exact hlo, by rw [give_len k3]; exact hhi, ?_, by rw [e15, give_len k3]; exact h.ar.edge⟩, fun d hd => ?_, fun d hd r hr => ?_, fun d hd => ?_⟩, fun q d j hq h1 h2 h3 => ⟨mem_flp hq h3, same hq h3 (by simp only; omega) h2⟩⟩
  · rw [e15]
    refine h.ar.chn.flp p false fun y hy => ?_
    obtain ⟨y1, _, _, _, y5⟩ := h.blk hy
    by_cases e : y.1 = p
    · have hy' : (p, y.2) ∈ pcs 16 bks := by rw [← e]; exact hy
      have := h.one hy' hp
      unfold flx
      rw [if_pos e, W, if_neg (by omega), if_pos (by omega), this]
      unfold hdw; simp
    · rw [flx_ne e, same hy e (Nat.le_refl _) (by have := pow_pos' y.2.1; omega), y5]
  · by_cases e : d = c
    · subst e
      simp only [if_true]
      rw [W, if_pos rfl]
      refine ⟨rfl, ?_⟩
      rw [W, if_neg (by omega), if_neg (by omega), if_pos rfl]
      exact (h.lnk d hd).congr fun r hr => keep hd hr
    · simp only [if_neg e]
      rw [W, if_neg (by omega), if_neg (by omega), if_neg (by omega), if_neg (by omega)]
      exact (h.lnk d hd).congr fun r hr => keep hd hr
  · by_cases e : d = c
    · subst e
      simp only [if_true] at hr
      rcases List.mem_cons.1 hr with rfl | hr
      · exact mem_flp_q hp
      · exact mem_flp (h.mem d hd r hr) (free hd hr)
    · simp only [if_neg e] at hr
      exact mem_flp (h.mem d hd r hr) (free hd hr)
  · by_cases e : d = c
    · subst e
      simp only [if_true]
      exact List.nodup_cons.2 ⟨fun hr => free hd hr rfl, h.nd d hd⟩
    · simp only [if_neg e]; exact h.nd d hd
end Go.Proofs.Ytncppbkhnafpnaa.D

/- An arena stays one behind each op. No condition. -/
set_option linter.unusedSimpArgs false
namespace Go.Proofs.Ytncppbkhnafpnaa.D
open Go Go.Proofs.Ytncppbkhnafpnaa.A
variable {l : List Int} {bks : List Bk} {fl : Nat → List Nat}
theorem Holds'.refl (l : List Int) (bks : List Bk) (no : Nat → Prop) : Holds' l bks l bks no := fun p c j hp _ _ _ => ⟨hp, rfl⟩
theorem Gd.alloc (h : Gd l bks fl) (c : Int) : ∃ bks' fl', Gd (allocS l c).2.2 bks' fl' ∧ (∀ no, Holds' l bks (allocS l c).2.2 bks' no) ∧ (allocS l c).2.2.length = l.length ∧
    ((allocS l c).2.1 = 0 → ∃ p cn : Nat, (allocS l c).1 = (p : Int) ∧ c = (cn : Int) ∧ (p, (cn, true)) ∈ pcs 16 bks') := by
  unfold allocS
  by_cases hc : 0 ≤ c ∧ c ≤ 5
  · rw [if_pos hc]
    obtain ⟨n, rfl⟩ : ∃ n : Nat, c = (n : Int) := ⟨c.toNat, by omega⟩
    rw [Int.toNat_natCast]
    have hn : n ≤ 5 := by omega
    have hlk := h.lnk n hn
    unfold allocN
    cases hf : fl n with
    | nil =>
      rw [hf] at hlk
      have e0 : wrd l (9 + n) = 0 := hlk
      rw [if_neg (not_not_intro e0)]
      have hw := h.ar.w 15
      by_cases hfit : (wrd l 15).toNat + 1 + 2 ^ n ≤ l.length
      · rw [if_pos hfit]
        obtain ⟨g1, g2, g3⟩ := h.new hn hfit
        exact ⟨_, _, g1, g2, by simp only; rw [take_len (by rw [List.length_set]; exact hfit), List.length_set], fun _ => ⟨_, n, by simp only; omega, rfl, g3⟩⟩
      · rw [if_neg hfit]
        exact ⟨bks, fl, h, fun no => Holds'.refl _ _ _, rfl, fun e => by simp at e⟩
    | cons q qs =>
      have hm := h.mem n hn q (by rw [hf]; simp)
      obtain ⟨k1, _, k3, _⟩ := h.blk hm
      rw [hf] at hlk
      have e0 : wrd l (9 + n) = (q : Int) := hlk.1
      rw [if_pos (by simp only at k1; omega), e0, Int.toNat_natCast]
      obtain ⟨g1, g2, g3⟩ := h.pop hn hf
      exact ⟨_, _, g1, g2, by simp only; rw [take_len (by rw [List.length_set]; exact k3), List.length_set], fun _ => ⟨q, n, rfl, rfl, g3⟩⟩
  · rw [if_neg hc]
    exact ⟨bks, fl, h, fun no => Holds'.refl _ _ _, rfl, fun e => by simp at e⟩
theorem Gd.fnd (h : Gd l bks fl) {p c : Nat} (hp : (p, (c, true)) ∈ pcs 16 bks) : fnd (p : Int) (pcs 16 bks) = some (p, (c, true)) := by
  cases hf : D.fnd (p : Int) (pcs 16 bks) with
  | none =>
    unfold D.fnd at hf
    have := List.find?_eq_none.1 hf _ hp
    simp at this
  | some x =>
    obtain ⟨k1, k2, _, _, _, k6⟩ := fnd_spec h.ar hf
    have e1 : x.1 = p := by omega
    obtain ⟨x1, x2⟩ := x
    simp only at e1; subst e1
    rw [h.one k6 hp]
theorem Gd.run (h : Gd l bks fl) (o : Op7) (hx : 0 ≤ o.x ∧ o.x ≤ 18446744073709551615) : ∃ bks' fl', Gd (runS l bks o) bks' fl' ∧ (runS l bks o).length = l.length ∧
    Holds' l bks (runS l bks o) bks' (fun p => (kindS o = 2 ∨ kindS o = 4 ∨ kindS o = 5) ∧ (p : Int) = rowS bks o.follow o.place) := by
  unfold runS
  split
  · obtain ⟨b, f, g1, g2, g3, _⟩ := h.alloc o.cls
    exact ⟨b, f, g1, g3, g2 _⟩
  split
  · rename_i hk
    unfold freeS
    cases hf : D.fnd (rowS bks o.follow o.place) (pcs 16 bks) with
    | none => exact ⟨bks, fl, h, rfl, Holds'.refl _ _ _⟩
    | some x =>
      obtain ⟨k1, k2, k3, k4, k5, k6⟩ := fnd_spec h.ar hf
      simp only
      split
      · exact ⟨bks, fl, h, rfl, Holds'.refl _ _ _⟩
      · obtain ⟨p, c, t⟩ := x
        simp only at k1 k2 k3 k4 k5
        subst k2
        obtain ⟨g1, g2⟩ := h.give k6
        exact ⟨_, _, g1, give_len k5, fun q d j hq h1 h2 h3 => g2 q d j hq h1 h2 (fun e => h3 ⟨.inl hk, by rw [e]; exact k1⟩)⟩
  split
  · exact ⟨bks, fl, h, rfl, Holds'.refl _ _ _⟩
  split
  · rename_i hk
    unfold wordS
    cases hf : D.fnd (rowS bks o.follow o.place) (pcs 16 bks) with
    | none => exact ⟨bks, fl, h, rfl, Holds'.refl _ _ _⟩
    | some x =>
      obtain ⟨k1, k2, k3, k4, k5, k6⟩ := fnd_spec h.ar hf
      simp only
      by_cases hi : o.i < 0 ∨ ((2 ^ x.2.1 : Nat) : Int) ≤ o.i
      · rw [if_pos hi]; exact ⟨bks, fl, h, rfl, Holds'.refl _ _ _⟩
      · rw [if_neg hi]
        obtain ⟨g1, g2⟩ := h.store k6 k2 (j := x.1 + o.i.toNat) (by omega) (by omega) (u32_in o.x)
        exact ⟨_, _, g1, List.length_set, fun q d j hq h1 h2 h3 => g2 q d j hq h1 h2 (fun e => h3 ⟨.inr hk, by rw [e]; exact k1⟩)⟩
  split
  · unfold pubS
    split
    · exact ⟨bks, fl, h, rfl, Holds'.refl _ _ _⟩
    split
    · exact ⟨bks, fl, h, rfl, Holds'.refl _ _ _⟩
    split
    · obtain ⟨g1, g2⟩ := h.pub (ver := verS l o) (ep := epS l o) (four := rowS bks o.follow o.place) (six := 0) (F.u64_in _) (F.u64_in _)
      exact ⟨_, _, g1, pubL_len _ _ _ _ _, g2 _⟩
    · exact ⟨bks, fl, h, rfl, Holds'.refl _ _ _⟩
  split
  · exact ⟨bks, fl, h, rfl, Holds'.refl _ _ _⟩
  · obtain ⟨g1, g2⟩ := h.put (i := 7) (by omega) hx
    exact ⟨_, _, g1, put64_len _ _ _, g2 _⟩
theorem wrd_newL {n : Nat} (h1 : 64 ≤ n) (i : Nat) : wrd (newL n) i = if i = 15 then 16 else if i = 0 then (n : Int) else 0 := by
  unfold newL
  rw [wrd_set _ (by simp; omega), wrd_set _ (by simp; omega)]
  by_cases a : i = 15
  · rw [if_pos a, if_pos a.symm]
  · rw [if_neg a, if_neg (Ne.symm a)]
    by_cases b : i = 0
    · rw [if_pos b, if_pos b.symm]
    · rw [if_neg b, if_neg (Ne.symm b)]
      unfold wrd
      rw [List.getD_eq_getElem?_getD, List.getElem?_replicate]
      split <;> rfl
/-- A new arena. -/
theorem gd_new {n : Nat} (h1 : 64 ≤ n) (h2 : n ≤ 16384) : Gd (newL n) [] (fun _ => []) := by
  have W : ∀ i, wrd (newL n) i = if i = 15 then 16 else if i = 0 then (n : Int) else 0 := fun i => by
    unfold newL
    rw [wrd_set _ (by simp; omega), wrd_set _ (by simp; omega)]
    by_cases a : i = 15
    · rw [if_pos a, if_pos a.symm]
    · rw [if_neg a, if_neg (Ne.symm a)]
      by_cases b : i = 0
      · rw [if_pos b, if_pos b.symm]
      · rw [if_neg b, if_neg (Ne.symm b)]
        unfold wrd
        rw [List.getD_eq_getElem?_getD, List.getElem?_replicate]
        split <;> rfl
  refine ⟨⟨fun i => ?_, by rw [newL_len]; exact h1, by rw [newL_len]; exact h2, ?_, ?_⟩, fun c hc => ?_, fun c hc q hq => (by cases hq), fun c hc => List.nodup_nil⟩
  · rw [W]; split
    · omega
    · split <;> omega
  · rw [W, if_pos rfl]; rfl
  · rw [W, if_pos rfl, newL_len]; show 16 ≤ n; omega
  · rw [W, if_neg (by omega), if_neg (by omega)]; rfl
end Go.Proofs.Ytncppbkhnafpnaa.D

/- Does the layer do anything? No condition. -/
set_option linter.unusedSimpArgs false
namespace Go.Proofs.Ytncppbkhnafpnaa.D
open Go Go.Proofs.Ytncppbkhnafpnaa.A
def W0 : List Int := newL 64
def W1 : List Int := (allocS W0 0).2.2
def W2 : List Int := (allocS W1 2).2.2
def W3 : List Int := W2.set 22 7
def W4 : List Int := pubL W3 1 0 19 0
def W6 : List Int := put64 W4 7 2
def B1 : List Bk := [(0, true)]
def B2 : List Bk := [(0, true), (2, true)]
theorem w_e1 : allocS W0 0 = (17, 0, W1) := by decide +kernel
theorem w_e2 : allocS W1 2 = (19, 0, W2) := by decide +kernel
theorem w_e3 : wordS B2 19 3 = (0, some 22) := by decide +kernel
theorem w_e4 : pubS W3 B2 1 0 19 0 = (0, W4) := by decide +kernel
theorem w_e5 : freeS W4 B2 19 = (2, W4) := by decide +kernel
theorem w_e6 : two64 W6 7 = 2 := by decide +kernel
theorem w_e7 : two64 W4 7 = 0 := by decide +kernel
theorem w_e8 : wrd W3 22 = 7 := by decide +kernel
theorem w_e9 : wrd W2 15 = 23 := by decide +kernel
theorem w_l0 : W0.length = 64 := by decide +kernel
theorem w_l1 : W1.length = 64 := by decide +kernel
theorem w_l2 : W2.length = 64 := by decide +kernel
theorem w_l3 : W3.length = 64 := by decide +kernel
theorem w_l4 : W4.length = 64 := by decide +kernel
theorem w_l6 : W6.length = 64 := by decide +kernel
theorem w_g0 : Gd W0 [] (fun _ => []) := gd_new (by decide) (by decide)
theorem w_g1 : Gd W1 B1 (fun _ => []) := (w_g0.new (c := 0) (by decide) (by decide +kernel)).1
theorem w_g2 : Gd W2 B2 (fun _ => []) := (w_g1.new (c := 2) (by decide) (by decide +kernel)).1
theorem w_g3 : Gd W3 B2 (fun _ => []) := (w_g2.store (x := (19, (2, true))) (by decide +kernel) rfl (j := 22) (by decide) (by decide) (by decide)).1
theorem w_g4 : Gd W4 B2 (fun _ => []) := (w_g3.pub (by decide) (by decide)).1
theorem w_g6 : Gd W6 B2 (fun _ => []) := (w_g4.put (by decide) (by decide)).1
end Go.Proofs.Ytncppbkhnafpnaa.D
namespace Go.Proofs.Ytncppbkhnafpnaa.F
open Go Go.Proofs.Ytncppbkhnafpnaa.A Go.Proofs.Ytncppbkhnafpnaa.D
theorem e9 : LV E 9 [] = some (.bool true) := by
  have h10 := r10 (pend := []) 64
  rw [if_pos (by decide), show newL (64 : Int).toNat = W0 from rfl] at h10
  obtain ⟨x1, h1⟩ := r11 (lk1 := 0) (rest := []) w_g0.ar rfl 0 w_g0.hd
  obtain ⟨x2, h2⟩ := r11 (lk1 := 0) (rest := []) w_g1.ar rfl 2 w_g1.hd
  have h16 := r16 (lk := 0) (lk1 := 0) (rest := []) (pend := []) w_g2.ar.w w_g2.ar.lo w_g2.ar.hi
  obtain ⟨x3, h3⟩ := r12 (lk1 := 0) (rest := []) w_g2.ar rfl 19 3 7
  obtain ⟨x4, h4⟩ := r15 (lk := 0) (lk1 := 0) (rest := []) w_g3.ar rfl 19 3
  obtain ⟨x5, h5⟩ := r22 (lk1 := 0) (rest := []) w_g3.ar rfl (ver := 1) (ep := 0) 19 0 (by decide) (by decide)
  obtain ⟨x6, h6⟩ := r21 (lk1 := 0) (rest := []) w_g4.ar rfl 19
  have h7 := r23 (lk1 := 0) (rest := []) (pend := []) w_g4.ar.w w_g4.ar.lo w_g4.ar.hi rfl (x := 2) (by decide)
  have h8 := r24 (lk := 2) (lk1 := 2) (rest := []) (pend := []) w_g6.ar.w w_g6.ar.lo w_g6.ar.hi
  rw [w_e1, w_l0] at h1
  rw [w_e2, w_l1] at h2
  rw [w_e9, w_l2] at h16
  rw [w_e3, w_l2] at h3
  rw [w_e3, w_l3] at h4
  simp only [w_e8] at h4
  rw [w_e4, w_l3] at h5
  rw [w_e5, w_l4] at h6
  rw [w_e7, w_l4, if_neg (by decide), if_neg (by decide)] at h7
  rw [w_e6, w_l6] at h8
  rw [show put64 W4 7 2 = W6 from rfl] at h7
  simp only [show W2.set 22 7 = W3 from rfl] at h3
  simp only [List.cons_append, List.nil_append] at h1 h2 h3 h4 h5 h6
  rw [LV_R (fn := f9) rfl rfl rfl]
  simp only [f9, RB, pickV, eqbV, notV, negV, convV, faddrV, fldV, idxV, eqaggV, iaddrV, isnilV, nilckV, pnilV, cloV, extrV, slenV, minV, sidxV, abin, cmpInt, params, growLists, fillCells, newAt, rdPtr, wrPtr, AV.cells, asVal, lenOf, boundOf, rowsOf, argIds, freshIn, scalar1, setAll, AV.isData, AV.isYld, Nat.reduceAdd, Nat.reduceMul, Nat.reduceSub, Nat.reduceEqDiff, Nat.reduceLeDiff, Nat.reduceLT, Int.reduceNeg, ↓reduceIte, reduceCtorEq, Int.reduceEq, Int.reduceLT, Int.reduceLE, Int.reduceBEq, Int.reduceBNe, Int.reduceToNat, IntKind.bits, Int.reduceAdd, Int.reduceSub, Int.reduceMul, Int.reduceTDiv, Int.reduceTMod, R7B, take_add, List.append_assoc, List.length_append, Nat.add_assoc, shrink_lit, ball_app, RG, LPB, wrows_len, q2_0, o2_0, q2_1, o2_1, q2_w, o2_w, q4_0, o4_0, q4_1, o4_1, q4_2, o4_2, q4_3, o4_3, q4_w, o4_w, q7_0, q7_1, q7_2, q7_3, q7_4, q7_5, q7_6, q7_w, o7_w, h10, h1, h2, h16, h3, h4, h5, h6, h7, h8, lockQ, List.map_cons, List.map_nil, scalarQ, scalar, scalar1, bne_self_eq_false, beq_self_eq_true, Bool.true_or, expCell, List.nodup_cons, List.nodup_nil, List.not_mem_nil, not_false_eq_true, not_true_eq_false, and_true, and_false, if_false, List.mem_cons, mutIds, LPB, show (64 : Int).toNat = 64 from rfl]
  done
end Go.Proofs.Ytncppbkhnafpnaa.F

/- What was stored is loaded, whatever happens to other blocks. No condition. -/
set_option linter.unusedSimpArgs false
namespace Go.Proofs.Ytncppbkhnafpnaa.D
open Go Go.Proofs.Ytncppbkhnafpnaa.A
def oprows (l : List Op7) : List (List AV) := l.map opv
theorem oprows_len (l : List Op7) : (oprows l).length = l.length := by simp [oprows]
def op0 : Op7 := ⟨0, 0, 0, 0, 0, 0, false⟩
def nthO (l : List Op7) (i : Nat) : Op7 := l.getD i op0
theorem oprows_get (l : List Op7) {i : Nat} (h : i < l.length) : (oprows l)[i]? = some (opv (nthO l i)) := by
  unfold oprows nthO
  rw [List.getElem?_map, List.getElem?_eq_getElem h, List.getD_eq_getElem?_getD, List.getElem?_eq_getElem h]; rfl
theorem nthO_mem (l : List Op7) {i : Nat} (h : i < l.length) : nthO l i ∈ l := by
  unfold nthO; rw [List.getD_eq_getElem?_getD, List.getElem?_eq_getElem h]; exact List.getElem_mem h
theorem opv_len (o : Op7) : (opv o).length = 7 := rfl
theorem opv_p (o : Op7) : piece (opv o) 0 7 = some (opv o) := rfl
theorem opv_0 (o : Op7) : piece (opv o) 0 1 = some [.int .i64 o.kind] := rfl
theorem opv_o (a b c d e f g : AV) (o : Op7) : ovr [a, b, c, d, e, f, g] 0 (opv o) = some (opv o) := rfl
theorem opv_snap (bs : List Blk) (o : Op7) : snap bs (.agg (opv o)) = some (.agg (opv o)) := rfl
/-- A word of a block that is taken. -/
theorem wordS_at {l : List Int} {bks : List Bk} {fl : Nat → List Nat} (h : Gd l bks fl) {p : Nat} (hp : (p, (1, true)) ∈ pcs 16 bks) : wordS bks (p : Int) 1 = (0, some (p + 1)) := by
  unfold wordS
  rw [h.fnd hp]
  rfl
theorem nth_lt {l : List (Nat × Nat)} {i : Nat} (h : i < l.length) : nthP l i ∈ l := by
  unfold nthP; rw [List.getD_eq_getElem?_getD, List.getElem?_eq_getElem h]; exact List.getElem_mem h
end Go.Proofs.Ytncppbkhnafpnaa.D
namespace Go.Proofs.Ytncppbkhnafpnaa.F
open Go Go.Proofs.Ytncppbkhnafpnaa.A Go.Proofs.Ytncppbkhnafpnaa.D
set_option maxHeartbeats 2000000 in
theorem keeps (n : Int) (ops : List Op7) (x : Int) (hx : 0 ≤ x ∧ x ≤ 4294967295) (ho : ∀ o ∈ ops, 0 ≤ o.x ∧ o.x ≤ 18446744073709551615) : LV E 3 [.int .i64 n, .ro (oprows ops), .int .u32 x] = some (.bool true) := by
  rw [LV_R (fn := f3) rfl rfl rfl]
  have hu := u64_in n
  obtain ⟨k, hk⟩ : ∃ k : Nat, (IntKind.u64.wrap n).tmod 200 = (k : Int) ∧ k < 200 := by
    rw [Int.tmod_eq_emod_of_nonneg hu.1]
    exact ⟨(IntKind.u64.wrap n % 200).toNat, by omega, by omega⟩
  have k1 : IntKind.i64.wrap ((k : Nat) : Int) = ((k : Nat) : Int) := IntWalk.i64_in _ (by omega)
  have k2 : IntKind.i64.wrap (64 + ((k : Nat) : Int)) = ((64 + k : Nat) : Int) := by rw [IntWalk.i64_in _ (by omega)]; omega
  have h10 := r10 (pend := []) ((64 + k : Nat) : Int)
  rw [if_pos (by omega), Int.toNat_natCast] at h10
  have g0 := gd_new (n := 64 + k) (by omega) (by omega)
  have w15 : wrd (newL (64 + k)) 15 = 16 := by rw [wrd_newL (by omega)]; rfl
  have w10 : wrd (newL (64 + k)) 10 = 0 := by rw [wrd_newL (by omega)]; rfl
  have gl := newL_len (64 + k)
  generalize newL (64 + k) = l0 at *
  obtain ⟨l1, hl1⟩ : ∃ l1, l1 = takeL' (l0.set 15 ((16 + 1 + 2 ^ 1 : Nat) : Int)) 1 (16 + 1) := ⟨_, rfl⟩
  have e0 : allocS l0 1 = (17, 0, l1) := by
    unfold allocS allocN
    rw [if_pos (by decide)]
    simp only [show (1 : Int).toNat = 1 from rfl, show 9 + 1 = 10 from rfl, w10, ne_eq, not_true_eq_false, if_false, w15, show (16 : Int).toNat = 16 from rfl]
    rw [if_pos (by rw [gl]; omega), hl1]
    rfl
  have hn := g0.new (c := 1) (by decide) (by rw [w15, gl]; show 16 + 1 + 2 ≤ 64 + k; omega)
  rw [w15] at hn
  simp only [show (16 : Int).toNat = 16 from rfl, ← hl1] at hn
  obtain ⟨g1, _, hm1⟩ := hn
  have gl1 : l1.length = 64 + k := by rw [hl1, take_len (by rw [List.length_set, gl]; show 16 + 1 + 2 ≤ 64 + k; omega), List.length_set, gl]
  obtain ⟨x11, h11⟩ := r11 (lk1 := 0) (rest := []) g0.ar rfl 1 g0.hd
  rw [e0, gl] at h11
  have hm1 : (17, (1, true)) ∈ pcs 16 ([] ++ [(1, true)]) := hm1
  obtain ⟨x12, h12⟩ := r12 (lk1 := 0) (rest := []) g1.ar rfl 17 1 x
  rw [show wordS ([] ++ [(1, true)]) 17 1 = (0, some 18) from wordS_at g1 hm1, gl1] at h12
  obtain ⟨g2, _⟩ := g1.store hm1 rfl (j := 18) (by decide) (by decide) hx
  simp only [List.cons_append, List.nil_append] at h11 h12
  have w18 : wrd (l1.set 18 x) 18 = x := by rw [wrd_set _ (by omega), if_pos rfl]
  have gl2 : (l1.set 18 x).length = 64 + k := by rw [List.length_set, gl1]
  generalize l1.set 18 x = l2 at *
  have opv_below : ∀ (m : Nat) (o : Op7), belowL m (opv o) = true := fun m o => by simp only [opv, LPB, Bool.and_self]
  simp only [f3, RB, pickV, eqbV, notV, negV, convV, faddrV, fldV, idxV, eqaggV, iaddrV, isnilV, nilckV, pnilV, cloV, extrV, slenV, minV, sidxV, abin, cmpInt, params, growLists, fillCells, newAt, rdPtr, wrPtr, AV.cells, asVal, lenOf, boundOf, rowsOf, argIds, freshIn, scalar1, setAll, AV.isData, AV.isYld, Nat.reduceAdd, Nat.reduceMul, Nat.reduceSub, Nat.reduceEqDiff, Nat.reduceLeDiff, Nat.reduceLT, Int.reduceNeg, ↓reduceIte, reduceCtorEq, Int.reduceEq, Int.reduceLT, Int.reduceLE, Int.reduceBEq, Int.reduceBNe, Int.reduceToNat, IntKind.bits, Int.reduceAdd, Int.reduceSub, Int.reduceMul, Int.reduceTDiv, Int.reduceTMod, R7B, take_add, List.append_assoc, List.length_append, Nat.add_assoc, shrink_lit, ball_app, RG, LPB, wrows_len, q2_0, o2_0, q2_1, o2_1, q2_w, o2_w, q4_0, o4_0, q4_1, o4_1, q4_2, o4_2, q4_3, o4_3, q4_w, o4_w, q7_0, q7_1, q7_2, q7_3, q7_4, q7_5, q7_6, q7_w, o7_w, opv_len, opv_p, opv_0, opv_o, opv_snap, oprows_len, e9, hk.1, k1, k2, h10, h11, h12, bne_self_eq_false, LPB]
  refine (W_rec2 (β := AV) (ι := {s : Nat × List Int × List Bk × (Nat → List Nat) // (s.1 ≤ ops.length ∧ s.1 ≤ 40) ∧ Gd s.2.1 s.2.2.1 s.2.2.2 ∧ (17, (1, true)) ∈ pcs 16 s.2.2.1 ∧ wrd s.2.1 18 = x ∧ s.2.1.length = 64 + k})
    (M := fun s => [(2, .int .u32 x), (7, .ptr 1 0 0 0), (9, .int .i64 17), (47, .ro (oprows ops)), (48, .int .i64 (ops.length : Int)), (49, .int .i64 (s.1.1 : Int))])
    (H := fun s => ⟨[.lst 0 0 23 1 (wrows s.1.2.1), .box 0 78 [.lis 0 0 0 (64 + k)]], []⟩) (r := fun _ => some (.bool true)) (μ := fun s => ops.length - s.1.1) (fun s => ?_) (fun s ih => ?_) ⟨(0, l2, _, _), ⟨Nat.zero_le _, Nat.zero_le _⟩, g2, hm1, w18, gl2⟩ rfl rfl)
  · simp [LPB]
  · obtain ⟨⟨i, l, bks, fl⟩, ⟨hil, hi40⟩, g, hm, hx18, hlen⟩ := s
    simp only at ih hil hi40 g hm hx18 hlen ⊢
    by_cases hi : i < ops.length
    · have f1 : (i : Int) < (ops.length : Int) := by omega
      have f2 : (0 : Int) ≤ (i : Int) := by omega
      by_cases h40 : i = 40
      · have n40 : ((i : Int) == 40) = true := by rw [beq_iff_eq]; omega
        have gg := oprows_get ops hi
        clear ih
        simp only [RB, pickV, eqbV, notV, negV, convV, faddrV, fldV, idxV, eqaggV, iaddrV, isnilV, nilckV, pnilV, cloV, extrV, slenV, minV, sidxV, abin, cmpInt, params, growLists, fillCells, newAt, rdPtr, wrPtr, AV.cells, asVal, lenOf, boundOf, rowsOf, argIds, freshIn, scalar1, setAll, AV.isData, AV.isYld, Nat.reduceAdd, Nat.reduceMul, Nat.reduceSub, Nat.reduceEqDiff, Nat.reduceLeDiff, Nat.reduceLT, Int.reduceNeg, ↓reduceIte, reduceCtorEq, Int.reduceEq, Int.reduceLT, Int.reduceLE, Int.reduceBEq, Int.reduceBNe, Int.reduceToNat, IntKind.bits, Int.reduceAdd, Int.reduceSub, Int.reduceMul, Int.reduceTDiv, Int.reduceTMod, R7B, take_add, List.append_assoc, List.length_append, Nat.add_assoc, shrink_lit, ball_app, RG, LPB, wrows_len, q2_0, o2_0, q2_1, o2_1, q2_w, o2_w, q4_0, o4_0, q4_1, o4_1, q4_2, o4_2, q4_3, o4_3, q4_w, o4_w, q7_0, q7_1, q7_2, q7_3, q7_4, q7_5, q7_6, q7_w, o7_w, opv_len, opv_p, opv_0, opv_o, opv_snap, oprows_len, f1, f2, gg, n40, expCell, List.nodup_cons, List.nodup_nil, List.not_mem_nil, not_false_eq_true, not_true_eq_false, and_true, and_false, if_false, List.mem_cons, mutIds]
      have n40 : ((i : Int) == 40) = false := by rw [beq_eq_false_iff_ne]; omega
      have f6 : IntKind.i64.wrap ((i : Int) + 1) = ((i + 1 : Nat) : Int) := by rw [IntWalk.i64_in _ (by omega)]; omega
      have gg := oprows_get ops hi
      have hox := ho _ (nthO_mem ops hi)
      have hkd : (IntKind.u64.wrap (nthO ops i).kind).tmod 8 = kindS (nthO ops i) := rfl
      have hkr : 0 ≤ kindS (nthO ops i) ∧ kindS (nthO ops i) < 8 := by
        rw [← hkd, Int.tmod_eq_emod_of_nonneg (u64_in _).1]; omega
      obtain ⟨x13, h13⟩ := r13 (lk := 0) (lk1 := 0) (rest := [.box 0 35 (opv (nthO ops i))]) g.ar (by simp only [opv, LPB, Bool.and_self]) (nthO ops i)
      obtain ⟨x14, h14⟩ := r14 (lk1 := 0) (rest := [.box 0 35 (opv (nthO ops i))]) g.ar g.hd (by simp only [opv, LPB, Bool.and_self]) (nthO ops i) hox
      rw [hlen] at h13 h14
      simp only [List.cons_append, List.nil_append] at h13
      have hk : i + 1 ≤ ops.length ∧ i + 1 ≤ 40 := ⟨hi, by omega⟩
      rcases (show kindS (nthO ops i) = 0 ∨ kindS (nthO ops i) = 1 ∨ kindS (nthO ops i) = 2 ∨ kindS (nthO ops i) = 3 ∨ kindS (nthO ops i) = 4 ∨ kindS (nthO ops i) = 5 ∨ kindS (nthO ops i) = 6 ∨ kindS (nthO ops i) = 7 by omega) with hkv | hkv | hkv | hkv | hkv | hkv | hkv | hkv
      · have hrow := True.intro
        have hno : ¬ ((kindS (nthO ops i) = 2 ∨ kindS (nthO ops i) = 4 ∨ kindS (nthO ops i) = 5) ∧ ((17 : Nat) : Int) = rowS bks (nthO ops i).follow (nthO ops i).place) := fun h => by omega
        obtain ⟨bks', fl', g', gl', hk'⟩ := g.run (nthO ops i) hox
        obtain ⟨hm', hw'⟩ := hk' 17 1 18 hm (by decide) (by decide) hno
        obtain ⟨x15, h15⟩ := r15 (lk := 0) (lk1 := 0) (rest := [.box 0 35 (opv (nthO ops i))]) g'.ar (by simp only [opv, LPB, Bool.and_self]) 17 1
        rw [gl', hlen] at h15
        rw [show wordS bks' 17 1 = (0, some 18) from wordS_at g' hm'] at h15
        simp only at h15
        rw [hw', hx18] at h15
        have ih := ih ⟨(i + 1, runS l bks (nthO ops i), bks', fl'), hk, g', hm', hw'.trans hx18, gl'.trans hlen⟩ (by simp only; omega)
        simp only at ih
        simp only [List.cons_append, List.nil_append] at h14 h15
        simp only [RB, pickV, eqbV, notV, negV, convV, faddrV, fldV, idxV, eqaggV, iaddrV, isnilV, nilckV, pnilV, cloV, extrV, slenV, minV, sidxV, abin, cmpInt, params, growLists, fillCells, newAt, rdPtr, wrPtr, AV.cells, asVal, lenOf, boundOf, rowsOf, argIds, freshIn, scalar1, setAll, AV.isData, AV.isYld, Nat.reduceAdd, Nat.reduceMul, Nat.reduceSub, Nat.reduceEqDiff, Nat.reduceLeDiff, Nat.reduceLT, Int.reduceNeg, ↓reduceIte, reduceCtorEq, Int.reduceEq, Int.reduceLT, Int.reduceLE, Int.reduceBEq, Int.reduceBNe, Int.reduceToNat, IntKind.bits, Int.reduceAdd, Int.reduceSub, Int.reduceMul, Int.reduceTDiv, Int.reduceTMod, R7B, take_add, List.append_assoc, List.length_append, Nat.add_assoc, shrink_lit, ball_app, RG, LPB, wrows_len, q2_0, o2_0, q2_1, o2_1, q2_w, o2_w, q4_0, o4_0, q4_1, o4_1, q4_2, o4_2, q4_3, o4_3, q4_w, o4_w, q7_0, q7_1, q7_2, q7_3, q7_4, q7_5, q7_6, q7_w, o7_w, opv_len, opv_p, opv_0, opv_o, opv_snap, oprows_len, f1, f2, f6, n40, gg, hkd, hkv, h13, h14, h15, hrow, bne_self_eq_false, LPB, opv_below]
        exact ih
      · have hrow := True.intro
        have hno : ¬ ((kindS (nthO ops i) = 2 ∨ kindS (nthO ops i) = 4 ∨ kindS (nthO ops i) = 5) ∧ ((17 : Nat) : Int) = rowS bks (nthO ops i).follow (nthO ops i).place) := fun h => by omega
        obtain ⟨bks', fl', g', gl', hk'⟩ := g.run (nthO ops i) hox
        obtain ⟨hm', hw'⟩ := hk' 17 1 18 hm (by decide) (by decide) hno
        obtain ⟨x15, h15⟩ := r15 (lk := 0) (lk1 := 0) (rest := [.box 0 35 (opv (nthO ops i))]) g'.ar (by simp only [opv, LPB, Bool.and_self]) 17 1
        rw [gl', hlen] at h15
        rw [show wordS bks' 17 1 = (0, some 18) from wordS_at g' hm'] at h15
        simp only at h15
        rw [hw', hx18] at h15
        have ih := ih ⟨(i + 1, runS l bks (nthO ops i), bks', fl'), hk, g', hm', hw'.trans hx18, gl'.trans hlen⟩ (by simp only; omega)
        simp only at ih
        simp only [List.cons_append, List.nil_append] at h14 h15
        simp only [RB, pickV, eqbV, notV, negV, convV, faddrV, fldV, idxV, eqaggV, iaddrV, isnilV, nilckV, pnilV, cloV, extrV, slenV, minV, sidxV, abin, cmpInt, params, growLists, fillCells, newAt, rdPtr, wrPtr, AV.cells, asVal, lenOf, boundOf, rowsOf, argIds, freshIn, scalar1, setAll, AV.isData, AV.isYld, Nat.reduceAdd, Nat.reduceMul, Nat.reduceSub, Nat.reduceEqDiff, Nat.reduceLeDiff, Nat.reduceLT, Int.reduceNeg, ↓reduceIte, reduceCtorEq, Int.reduceEq, Int.reduceLT, Int.reduceLE, Int.reduceBEq, Int.reduceBNe, Int.reduceToNat, IntKind.bits, Int.reduceAdd, Int.reduceSub, Int.reduceMul, Int.reduceTDiv, Int.reduceTMod, R7B, take_add, List.append_assoc, List.length_append, Nat.add_assoc, shrink_lit, ball_app, RG, LPB, wrows_len, q2_0, o2_0, q2_1, o2_1, q2_w, o2_w, q4_0, o4_0, q4_1, o4_1, q4_2, o4_2, q4_3, o4_3, q4_w, o4_w, q7_0, q7_1, q7_2, q7_3, q7_4, q7_5, q7_6, q7_w, o7_w, opv_len, opv_p, opv_0, opv_o, opv_snap, oprows_len, f1, f2, f6, n40, gg, hkd, hkv, h13, h14, h15, hrow, bne_self_eq_false, LPB, opv_below]
        exact ih
      · by_cases hr : rowS bks (nthO ops i).follow (nthO ops i).place = 17
        · have hrow : (rowS bks (nthO ops i).follow (nthO ops i).place == 17) = true := by rw [beq_iff_eq]; exact hr
          have ih := ih ⟨(i + 1, l, bks, fl), hk, g, hm, hx18, hlen⟩ (by simp only; omega)
          simp only at ih
          simp only [RB, pickV, eqbV, notV, negV, convV, faddrV, fldV, idxV, eqaggV, iaddrV, isnilV, nilckV, pnilV, cloV, extrV, slenV, minV, sidxV, abin, cmpInt, params, growLists, fillCells, newAt, rdPtr, wrPtr, AV.cells, asVal, lenOf, boundOf, rowsOf, argIds, freshIn, scalar1, setAll, AV.isData, AV.isYld, Nat.reduceAdd, Nat.reduceMul, Nat.reduceSub, Nat.reduceEqDiff, Nat.reduceLeDiff, Nat.reduceLT, Int.reduceNeg, ↓reduceIte, reduceCtorEq, Int.reduceEq, Int.reduceLT, Int.reduceLE, Int.reduceBEq, Int.reduceBNe, Int.reduceToNat, IntKind.bits, Int.reduceAdd, Int.reduceSub, Int.reduceMul, Int.reduceTDiv, Int.reduceTMod, R7B, take_add, List.append_assoc, List.length_append, Nat.add_assoc, shrink_lit, ball_app, RG, LPB, wrows_len, q2_0, o2_0, q2_1, o2_1, q2_w, o2_w, q4_0, o4_0, q4_1, o4_1, q4_2, o4_2, q4_3, o4_3, q4_w, o4_w, q7_0, q7_1, q7_2, q7_3, q7_4, q7_5, q7_6, q7_w, o7_w, opv_len, opv_p, opv_0, opv_o, opv_snap, oprows_len, f1, f2, f6, n40, gg, hkd, hkv, h13, hrow, LPB, opv_below]
          exact ih
        · have hrow : (rowS bks (nthO ops i).follow (nthO ops i).place == 17) = false := by rw [beq_eq_false_iff_ne]; exact hr
          have hno : ¬ ((kindS (nthO ops i) = 2 ∨ kindS (nthO ops i) = 4 ∨ kindS (nthO ops i) = 5) ∧ ((17 : Nat) : Int) = rowS bks (nthO ops i).follow (nthO ops i).place) := fun h => hr h.2.symm
          obtain ⟨bks', fl', g', gl', hk'⟩ := g.run (nthO ops i) hox
          obtain ⟨hm', hw'⟩ := hk' 17 1 18 hm (by decide) (by decide) hno
          obtain ⟨x15, h15⟩ := r15 (lk := 0) (lk1 := 0) (rest := [.box 0 35 (opv (nthO ops i))]) g'.ar (by simp only [opv, LPB, Bool.and_self]) 17 1
          rw [gl', hlen] at h15
          rw [show wordS bks' 17 1 = (0, some 18) from wordS_at g' hm'] at h15
          simp only at h15
          rw [hw', hx18] at h15
          have ih := ih ⟨(i + 1, runS l bks (nthO ops i), bks', fl'), hk, g', hm', hw'.trans hx18, gl'.trans hlen⟩ (by simp only; omega)
          simp only at ih
          simp only [List.cons_append, List.nil_append] at h14 h15
          simp only [RB, pickV, eqbV, notV, negV, convV, faddrV, fldV, idxV, eqaggV, iaddrV, isnilV, nilckV, pnilV, cloV, extrV, slenV, minV, sidxV, abin, cmpInt, params, growLists, fillCells, newAt, rdPtr, wrPtr, AV.cells, asVal, lenOf, boundOf, rowsOf, argIds, freshIn, scalar1, setAll, AV.isData, AV.isYld, Nat.reduceAdd, Nat.reduceMul, Nat.reduceSub, Nat.reduceEqDiff, Nat.reduceLeDiff, Nat.reduceLT, Int.reduceNeg, ↓reduceIte, reduceCtorEq, Int.reduceEq, Int.reduceLT, Int.reduceLE, Int.reduceBEq, Int.reduceBNe, Int.reduceToNat, IntKind.bits, Int.reduceAdd, Int.reduceSub, Int.reduceMul, Int.reduceTDiv, Int.reduceTMod, R7B, take_add, List.append_assoc, List.length_append, Nat.add_assoc, shrink_lit, ball_app, RG, LPB, wrows_len, q2_0, o2_0, q2_1, o2_1, q2_w, o2_w, q4_0, o4_0, q4_1, o4_1, q4_2, o4_2, q4_3, o4_3, q4_w, o4_w, q7_0, q7_1, q7_2, q7_3, q7_4, q7_5, q7_6, q7_w, o7_w, opv_len, opv_p, opv_0, opv_o, opv_snap, oprows_len, f1, f2, f6, n40, gg, hkd, hkv, h13, h14, h15, hrow, bne_self_eq_false, LPB, opv_below]
          exact ih
      · have hrow := True.intro
        have hno : ¬ ((kindS (nthO ops i) = 2 ∨ kindS (nthO ops i) = 4 ∨ kindS (nthO ops i) = 5) ∧ ((17 : Nat) : Int) = rowS bks (nthO ops i).follow (nthO ops i).place) := fun h => by omega
        obtain ⟨bks', fl', g', gl', hk'⟩ := g.run (nthO ops i) hox
        obtain ⟨hm', hw'⟩ := hk' 17 1 18 hm (by decide) (by decide) hno
        obtain ⟨x15, h15⟩ := r15 (lk := 0) (lk1 := 0) (rest := [.box 0 35 (opv (nthO ops i))]) g'.ar (by simp only [opv, LPB, Bool.and_self]) 17 1
        rw [gl', hlen] at h15
        rw [show wordS bks' 17 1 = (0, some 18) from wordS_at g' hm'] at h15
        simp only at h15
        rw [hw', hx18] at h15
        have ih := ih ⟨(i + 1, runS l bks (nthO ops i), bks', fl'), hk, g', hm', hw'.trans hx18, gl'.trans hlen⟩ (by simp only; omega)
        simp only at ih
        simp only [List.cons_append, List.nil_append] at h14 h15
        simp only [RB, pickV, eqbV, notV, negV, convV, faddrV, fldV, idxV, eqaggV, iaddrV, isnilV, nilckV, pnilV, cloV, extrV, slenV, minV, sidxV, abin, cmpInt, params, growLists, fillCells, newAt, rdPtr, wrPtr, AV.cells, asVal, lenOf, boundOf, rowsOf, argIds, freshIn, scalar1, setAll, AV.isData, AV.isYld, Nat.reduceAdd, Nat.reduceMul, Nat.reduceSub, Nat.reduceEqDiff, Nat.reduceLeDiff, Nat.reduceLT, Int.reduceNeg, ↓reduceIte, reduceCtorEq, Int.reduceEq, Int.reduceLT, Int.reduceLE, Int.reduceBEq, Int.reduceBNe, Int.reduceToNat, IntKind.bits, Int.reduceAdd, Int.reduceSub, Int.reduceMul, Int.reduceTDiv, Int.reduceTMod, R7B, take_add, List.append_assoc, List.length_append, Nat.add_assoc, shrink_lit, ball_app, RG, LPB, wrows_len, q2_0, o2_0, q2_1, o2_1, q2_w, o2_w, q4_0, o4_0, q4_1, o4_1, q4_2, o4_2, q4_3, o4_3, q4_w, o4_w, q7_0, q7_1, q7_2, q7_3, q7_4, q7_5, q7_6, q7_w, o7_w, opv_len, opv_p, opv_0, opv_o, opv_snap, oprows_len, f1, f2, f6, n40, gg, hkd, hkv, h13, h14, h15, hrow, bne_self_eq_false, LPB, opv_below]
        exact ih
      · by_cases hr : rowS bks (nthO ops i).follow (nthO ops i).place = 17
        · have hrow : (rowS bks (nthO ops i).follow (nthO ops i).place == 17) = true := by rw [beq_iff_eq]; exact hr
          have ih := ih ⟨(i + 1, l, bks, fl), hk, g, hm, hx18, hlen⟩ (by simp only; omega)
          simp only at ih
          simp only [RB, pickV, eqbV, notV, negV, convV, faddrV, fldV, idxV, eqaggV, iaddrV, isnilV, nilckV, pnilV, cloV, extrV, slenV, minV, sidxV, abin, cmpInt, params, growLists, fillCells, newAt, rdPtr, wrPtr, AV.cells, asVal, lenOf, boundOf, rowsOf, argIds, freshIn, scalar1, setAll, AV.isData, AV.isYld, Nat.reduceAdd, Nat.reduceMul, Nat.reduceSub, Nat.reduceEqDiff, Nat.reduceLeDiff, Nat.reduceLT, Int.reduceNeg, ↓reduceIte, reduceCtorEq, Int.reduceEq, Int.reduceLT, Int.reduceLE, Int.reduceBEq, Int.reduceBNe, Int.reduceToNat, IntKind.bits, Int.reduceAdd, Int.reduceSub, Int.reduceMul, Int.reduceTDiv, Int.reduceTMod, R7B, take_add, List.append_assoc, List.length_append, Nat.add_assoc, shrink_lit, ball_app, RG, LPB, wrows_len, q2_0, o2_0, q2_1, o2_1, q2_w, o2_w, q4_0, o4_0, q4_1, o4_1, q4_2, o4_2, q4_3, o4_3, q4_w, o4_w, q7_0, q7_1, q7_2, q7_3, q7_4, q7_5, q7_6, q7_w, o7_w, opv_len, opv_p, opv_0, opv_o, opv_snap, oprows_len, f1, f2, f6, n40, gg, hkd, hkv, h13, hrow, LPB, opv_below]
          exact ih
        · have hrow : (rowS bks (nthO ops i).follow (nthO ops i).place == 17) = false := by rw [beq_eq_false_iff_ne]; exact hr
          have hno : ¬ ((kindS (nthO ops i) = 2 ∨ kindS (nthO ops i) = 4 ∨ kindS (nthO ops i) = 5) ∧ ((17 : Nat) : Int) = rowS bks (nthO ops i).follow (nthO ops i).place) := fun h => hr h.2.symm
          obtain ⟨bks', fl', g', gl', hk'⟩ := g.run (nthO ops i) hox
          obtain ⟨hm', hw'⟩ := hk' 17 1 18 hm (by decide) (by decide) hno
          obtain ⟨x15, h15⟩ := r15 (lk := 0) (lk1 := 0) (rest := [.box 0 35 (opv (nthO ops i))]) g'.ar (by simp only [opv, LPB, Bool.and_self]) 17 1
          rw [gl', hlen] at h15
          rw [show wordS bks' 17 1 = (0, some 18) from wordS_at g' hm'] at h15
          simp only at h15
          rw [hw', hx18] at h15
          have ih := ih ⟨(i + 1, runS l bks (nthO ops i), bks', fl'), hk, g', hm', hw'.trans hx18, gl'.trans hlen⟩ (by simp only; omega)
          simp only at ih
          simp only [List.cons_append, List.nil_append] at h14 h15
          simp only [RB, pickV, eqbV, notV, negV, convV, faddrV, fldV, idxV, eqaggV, iaddrV, isnilV, nilckV, pnilV, cloV, extrV, slenV, minV, sidxV, abin, cmpInt, params, growLists, fillCells, newAt, rdPtr, wrPtr, AV.cells, asVal, lenOf, boundOf, rowsOf, argIds, freshIn, scalar1, setAll, AV.isData, AV.isYld, Nat.reduceAdd, Nat.reduceMul, Nat.reduceSub, Nat.reduceEqDiff, Nat.reduceLeDiff, Nat.reduceLT, Int.reduceNeg, ↓reduceIte, reduceCtorEq, Int.reduceEq, Int.reduceLT, Int.reduceLE, Int.reduceBEq, Int.reduceBNe, Int.reduceToNat, IntKind.bits, Int.reduceAdd, Int.reduceSub, Int.reduceMul, Int.reduceTDiv, Int.reduceTMod, R7B, take_add, List.append_assoc, List.length_append, Nat.add_assoc, shrink_lit, ball_app, RG, LPB, wrows_len, q2_0, o2_0, q2_1, o2_1, q2_w, o2_w, q4_0, o4_0, q4_1, o4_1, q4_2, o4_2, q4_3, o4_3, q4_w, o4_w, q7_0, q7_1, q7_2, q7_3, q7_4, q7_5, q7_6, q7_w, o7_w, opv_len, opv_p, opv_0, opv_o, opv_snap, oprows_len, f1, f2, f6, n40, gg, hkd, hkv, h13, h14, h15, hrow, bne_self_eq_false, LPB, opv_below]
          exact ih
      · by_cases hr : rowS bks (nthO ops i).follow (nthO ops i).place = 17
        · have hrow : (rowS bks (nthO ops i).follow (nthO ops i).place == 17) = true := by rw [beq_iff_eq]; exact hr
          have ih := ih ⟨(i + 1, l, bks, fl), hk, g, hm, hx18, hlen⟩ (by simp only; omega)
          simp only at ih
          simp only [RB, pickV, eqbV, notV, negV, convV, faddrV, fldV, idxV, eqaggV, iaddrV, isnilV, nilckV, pnilV, cloV, extrV, slenV, minV, sidxV, abin, cmpInt, params, growLists, fillCells, newAt, rdPtr, wrPtr, AV.cells, asVal, lenOf, boundOf, rowsOf, argIds, freshIn, scalar1, setAll, AV.isData, AV.isYld, Nat.reduceAdd, Nat.reduceMul, Nat.reduceSub, Nat.reduceEqDiff, Nat.reduceLeDiff, Nat.reduceLT, Int.reduceNeg, ↓reduceIte, reduceCtorEq, Int.reduceEq, Int.reduceLT, Int.reduceLE, Int.reduceBEq, Int.reduceBNe, Int.reduceToNat, IntKind.bits, Int.reduceAdd, Int.reduceSub, Int.reduceMul, Int.reduceTDiv, Int.reduceTMod, R7B, take_add, List.append_assoc, List.length_append, Nat.add_assoc, shrink_lit, ball_app, RG, LPB, wrows_len, q2_0, o2_0, q2_1, o2_1, q2_w, o2_w, q4_0, o4_0, q4_1, o4_1, q4_2, o4_2, q4_3, o4_3, q4_w, o4_w, q7_0, q7_1, q7_2, q7_3, q7_4, q7_5, q7_6, q7_w, o7_w, opv_len, opv_p, opv_0, opv_o, opv_snap, oprows_len, f1, f2, f6, n40, gg, hkd, hkv, h13, hrow, LPB, opv_below]
          exact ih
        · have hrow : (rowS bks (nthO ops i).follow (nthO ops i).place == 17) = false := by rw [beq_eq_false_iff_ne]; exact hr
          have hno : ¬ ((kindS (nthO ops i) = 2 ∨ kindS (nthO ops i) = 4 ∨ kindS (nthO ops i) = 5) ∧ ((17 : Nat) : Int) = rowS bks (nthO ops i).follow (nthO ops i).place) := fun h => hr h.2.symm
          obtain ⟨bks', fl', g', gl', hk'⟩ := g.run (nthO ops i) hox
          obtain ⟨hm', hw'⟩ := hk' 17 1 18 hm (by decide) (by decide) hno
          obtain ⟨x15, h15⟩ := r15 (lk := 0) (lk1 := 0) (rest := [.box 0 35 (opv (nthO ops i))]) g'.ar (by simp only [opv, LPB, Bool.and_self]) 17 1
          rw [gl', hlen] at h15
          rw [show wordS bks' 17 1 = (0, some 18) from wordS_at g' hm'] at h15
          simp only at h15
          rw [hw', hx18] at h15
          have ih := ih ⟨(i + 1, runS l bks (nthO ops i), bks', fl'), hk, g', hm', hw'.trans hx18, gl'.trans hlen⟩ (by simp only; omega)
          simp only at ih
          simp only [List.cons_append, List.nil_append] at h14 h15
          simp only [RB, pickV, eqbV, notV, negV, convV, faddrV, fldV, idxV, eqaggV, iaddrV, isnilV, nilckV, pnilV, cloV, extrV, slenV, minV, sidxV, abin, cmpInt, params, growLists, fillCells, newAt, rdPtr, wrPtr, AV.cells, asVal, lenOf, boundOf, rowsOf, argIds, freshIn, scalar1, setAll, AV.isData, AV.isYld, Nat.reduceAdd, Nat.reduceMul, Nat.reduceSub, Nat.reduceEqDiff, Nat.reduceLeDiff, Nat.reduceLT, Int.reduceNeg, ↓reduceIte, reduceCtorEq, Int.reduceEq, Int.reduceLT, Int.reduceLE, Int.reduceBEq, Int.reduceBNe, Int.reduceToNat, IntKind.bits, Int.reduceAdd, Int.reduceSub, Int.reduceMul, Int.reduceTDiv, Int.reduceTMod, R7B, take_add, List.append_assoc, List.length_append, Nat.add_assoc, shrink_lit, ball_app, RG, LPB, wrows_len, q2_0, o2_0, q2_1, o2_1, q2_w, o2_w, q4_0, o4_0, q4_1, o4_1, q4_2, o4_2, q4_3, o4_3, q4_w, o4_w, q7_0, q7_1, q7_2, q7_3, q7_4, q7_5, q7_6, q7_w, o7_w, opv_len, opv_p, opv_0, opv_o, opv_snap, oprows_len, f1, f2, f6, n40, gg, hkd, hkv, h13, h14, h15, hrow, bne_self_eq_false, LPB, opv_below]
          exact ih
      · have hrow := True.intro
        have hno : ¬ ((kindS (nthO ops i) = 2 ∨ kindS (nthO ops i) = 4 ∨ kindS (nthO ops i) = 5) ∧ ((17 : Nat) : Int) = rowS bks (nthO ops i).follow (nthO ops i).place) := fun h => by omega
        obtain ⟨bks', fl', g', gl', hk'⟩ := g.run (nthO ops i) hox
        obtain ⟨hm', hw'⟩ := hk' 17 1 18 hm (by decide) (by decide) hno
        obtain ⟨x15, h15⟩ := r15 (lk := 0) (lk1 := 0) (rest := [.box 0 35 (opv (nthO ops i))]) g'.ar (by simp only [opv, LPB, Bool.and_self]) 17 1
        rw [gl', hlen] at h15
        rw [show wordS bks' 17 1 = (0, some 18) from wordS_at g' hm'] at h15
        simp only at h15
        rw [hw', hx18] at h15
        have ih := ih ⟨(i + 1, runS l bks (nthO ops i), bks', fl'), hk, g', hm', hw'.trans hx18, gl'.trans hlen⟩ (by simp only; omega)
        simp only at ih
        simp only [List.cons_append, List.nil_append] at h14 h15
        simp only [RB, pickV, eqbV, notV, negV, convV, faddrV, fldV, idxV, eqaggV, iaddrV, isnilV, nilckV, pnilV, cloV, extrV, slenV, minV, sidxV, abin, cmpInt, params, growLists, fillCells, newAt, rdPtr, wrPtr, AV.cells, asVal, lenOf, boundOf, rowsOf, argIds, freshIn, scalar1, setAll, AV.isData, AV.isYld, Nat.reduceAdd, Nat.reduceMul, Nat.reduceSub, Nat.reduceEqDiff, Nat.reduceLeDiff, Nat.reduceLT, Int.reduceNeg, ↓reduceIte, reduceCtorEq, Int.reduceEq, Int.reduceLT, Int.reduceLE, Int.reduceBEq, Int.reduceBNe, Int.reduceToNat, IntKind.bits, Int.reduceAdd, Int.reduceSub, Int.reduceMul, Int.reduceTDiv, Int.reduceTMod, R7B, take_add, List.append_assoc, List.length_append, Nat.add_assoc, shrink_lit, ball_app, RG, LPB, wrows_len, q2_0, o2_0, q2_1, o2_1, q2_w, o2_w, q4_0, o4_0, q4_1, o4_1, q4_2, o4_2, q4_3, o4_3, q4_w, o4_w, q7_0, q7_1, q7_2, q7_3, q7_4, q7_5, q7_6, q7_w, o7_w, opv_len, opv_p, opv_0, opv_o, opv_snap, oprows_len, f1, f2, f6, n40, gg, hkd, hkv, h13, h14, h15, hrow, bne_self_eq_false, LPB, opv_below]
        exact ih
      · have hrow := True.intro
        have hno : ¬ ((kindS (nthO ops i) = 2 ∨ kindS (nthO ops i) = 4 ∨ kindS (nthO ops i) = 5) ∧ ((17 : Nat) : Int) = rowS bks (nthO ops i).follow (nthO ops i).place) := fun h => by omega
        obtain ⟨bks', fl', g', gl', hk'⟩ := g.run (nthO ops i) hox
        obtain ⟨hm', hw'⟩ := hk' 17 1 18 hm (by decide) (by decide) hno
        obtain ⟨x15, h15⟩ := r15 (lk := 0) (lk1 := 0) (rest := [.box 0 35 (opv (nthO ops i))]) g'.ar (by simp only [opv, LPB, Bool.and_self]) 17 1
        rw [gl', hlen] at h15
        rw [show wordS bks' 17 1 = (0, some 18) from wordS_at g' hm'] at h15
        simp only at h15
        rw [hw', hx18] at h15
        have ih := ih ⟨(i + 1, runS l bks (nthO ops i), bks', fl'), hk, g', hm', hw'.trans hx18, gl'.trans hlen⟩ (by simp only; omega)
        simp only at ih
        simp only [List.cons_append, List.nil_append] at h14 h15
        simp only [RB, pickV, eqbV, notV, negV, convV, faddrV, fldV, idxV, eqaggV, iaddrV, isnilV, nilckV, pnilV, cloV, extrV, slenV, minV, sidxV, abin, cmpInt, params, growLists, fillCells, newAt, rdPtr, wrPtr, AV.cells, asVal, lenOf, boundOf, rowsOf, argIds, freshIn, scalar1, setAll, AV.isData, AV.isYld, Nat.reduceAdd, Nat.reduceMul, Nat.reduceSub, Nat.reduceEqDiff, Nat.reduceLeDiff, Nat.reduceLT, Int.reduceNeg, ↓reduceIte, reduceCtorEq, Int.reduceEq, Int.reduceLT, Int.reduceLE, Int.reduceBEq, Int.reduceBNe, Int.reduceToNat, IntKind.bits, Int.reduceAdd, Int.reduceSub, Int.reduceMul, Int.reduceTDiv, Int.reduceTMod, R7B, take_add, List.append_assoc, List.length_append, Nat.add_assoc, shrink_lit, ball_app, RG, LPB, wrows_len, q2_0, o2_0, q2_1, o2_1, q2_w, o2_w, q4_0, o4_0, q4_1, o4_1, q4_2, o4_2, q4_3, o4_3, q4_w, o4_w, q7_0, q7_1, q7_2, q7_3, q7_4, q7_5, q7_6, q7_w, o7_w, opv_len, opv_p, opv_0, opv_o, opv_snap, oprows_len, f1, f2, f6, n40, gg, hkd, hkv, h13, h14, h15, hrow, bne_self_eq_false, LPB, opv_below]
        exact ih
    · simp only [RB, pickV, eqbV, notV, negV, convV, faddrV, fldV, idxV, eqaggV, iaddrV, isnilV, nilckV, pnilV, cloV, extrV, slenV, minV, sidxV, abin, cmpInt, params, growLists, fillCells, newAt, rdPtr, wrPtr, AV.cells, asVal, lenOf, boundOf, rowsOf, argIds, freshIn, scalar1, setAll, AV.isData, AV.isYld, Nat.reduceAdd, Nat.reduceMul, Nat.reduceSub, Nat.reduceEqDiff, Nat.reduceLeDiff, Nat.reduceLT, Int.reduceNeg, ↓reduceIte, reduceCtorEq, Int.reduceEq, Int.reduceLT, Int.reduceLE, Int.reduceBEq, Int.reduceBNe, Int.reduceToNat, IntKind.bits, Int.reduceAdd, Int.reduceSub, Int.reduceMul, Int.reduceTDiv, Int.reduceTMod, R7B, take_add, List.append_assoc, List.length_append, Nat.add_assoc, shrink_lit, ball_app, RG, LPB, wrows_len, q2_0, o2_0, q2_1, o2_1, q2_w, o2_w, q4_0, o4_0, q4_1, o4_1, q4_2, o4_2, q4_3, o4_3, q4_w, o4_w, q7_0, q7_1, q7_2, q7_3, q7_4, q7_5, q7_6, q7_w, o7_w, opv_len, opv_p, opv_0, opv_o, opv_snap, oprows_len, show ¬ (i : Int) < (ops.length : Int) by omega, expCell, List.nodup_cons, List.nodup_nil, List.not_mem_nil, not_false_eq_true, not_true_eq_false, and_true, and_false, if_false, List.mem_cons, mutIds]
end Go.Proofs.Ytncppbkhnafpnaa.F

/- Arguments that are read: flat structs, slices of flat things. No condition. -/
set_option linter.unusedSimpArgs false
set_option maxRecDepth 20000
namespace Go.Proofs.Ytncppbkhnafpnaa.D
open Go Go.RowKit Go.Proofs.Ytncppbkhnafpnaa.A Go.Proofs.Ytncppbkhnafpnaa.J
variable {w : World} {P : Program} {t : TypeId} {v : Value}
def I64 (n : Int) : Prop := -9223372036854775808 ≤ n ∧ n ≤ 9223372036854775807
theorem plain_one {u : Value} (h : plainV u = true) : u.oneCell' = true := by cases u <;> first | rfl | cases h
theorem rep_flat {ks : List CK} {cs : List Value} (h : Fits ks cs) : Rep w (Old w) [] [] [] (.agg (cs.map avOf)) (.agg cs.toArray) :=
  .agg _ _ (by simp) (fun u hu => plain_one (fits_plain h u hu)) (avOf_repL (fits_plain h)).2
/-- A flat struct. -/
theorem reads_flat {fs : Array Field} {n : Nat} {ks : List CK} (h : Reads P w t v) (ht : P.underlying t = some (.struct fs)) (hf : flat P n t = some ks) : ∃ cs, Fits ks cs ∧ Rep w (Old w) [] [] [] (.agg (cs.map avOf)) v := by
  obtain ⟨cs, rfl, hr⟩ := h.agg ht
  exact ⟨cs, hr.flat hf, rep_flat (hr.flat hf)⟩
theorem rdc_slice {e : TypeId} {k : Nat} {α : Type} {enc : α → List AV} {ok : α → Prop} {n : Nat} {ks : List CK} {a : Option Addr} {css : List (List Value)} {cap : Nat} (hk : 0 < k) (hc : css.length ≤ cap) (hs : SlC w k a css) (hcs : ∀ c ∈ css, RdC P w e c) (hf : flat P n e = some ks) (hfit : ∀ cs, Fits ks cs → ∃ x : α, cs.map avOf = enc x ∧ ok x) :
    ∃ l : List α, l.length = css.length ∧ (∀ x ∈ l, ok x) ∧ Rep w (Old w) [] [] [] (.ro (l.map enc)) (.slice a css.length cap) := by
  have key : ∀ css : List (List Value), (∀ c ∈ css, RdC P w e c) → ∃ l : List α, l.length = css.length ∧ (∀ x ∈ l, ok x) ∧ css.map (·.map avOf) = l.map enc := by
    intro css
    induction css with
    | nil => exact fun _ => ⟨[], rfl, by simp, rfl⟩
    | cons c css ih =>
      intro h
      obtain ⟨l, h1, h2, h3⟩ := ih fun x hx => h x (List.mem_cons_of_mem _ hx)
      obtain ⟨x, h4, h5⟩ := hfit c ((h c List.mem_cons_self).flat hf)
      exact ⟨x :: l, by simp [h1], fun y hy => by
        rcases List.mem_cons.1 hy with rfl | hy
        · exact h5
        · exact h2 y hy, by simp only [List.map_cons, h4, h3]⟩
  obtain ⟨l, h1, h2, h3⟩ := key css hcs
  exact ⟨l, h1, h2, h3 ▸ slice_rep hk hs hc fun c hc u hu => fits_plain ((hcs c hc).flat hf) u hu⟩
theorem maxLen_le : maxLen ≤ 9223372036854775807 := by decide
/-- A slice of flat things. -/
theorem reads_slice {e : TypeId} {k : Nat} {α : Type} {enc : α → List AV} {ok : α → Prop} {n : Nat} {ks : List CK} (h : Reads P w t v) (ht : P.underlying t = some (.slice e)) (hk : k = P.cellsOf e) (hpos : 0 < k) (hf : flat P n e = some ks) (hfit : ∀ cs, Fits ks cs → ∃ x : α, cs.map avOf = enc x ∧ ok x) :
    ∃ l : List α, l.length ≤ 9223372036854775807 ∧ (∀ x ∈ l, ok x) ∧ Rep w (Old w) [] [] [] (.ro (l.map enc)) v := by
  obtain ⟨a, cap, css, rfl, h1, h2, h3, h4⟩ := h.slice ht hk hpos
  obtain ⟨l, h5, h6, h7⟩ := rdc_slice hpos h1 h3 h4 hf hfit
  exact ⟨l, by have := maxLen_le; omega, h6, h7⟩
theorem fits_int {cs : List Value} (h : Fits [.i .i64] cs) : ∃ n : Int, cs.map avOf = [.int .i64 n] ∧ I64 n := by
  obtain ⟨c, rfl⟩ := List.length_eq_one_iff.1 h.length.symm
  obtain ⟨⟨n, hc, hn⟩, _⟩ := h
  subst hc; exact ⟨n, rfl, wf_i64 hn⟩
/-- A struct of one slice of flat things. -/
theorem reads_one {e ts : TypeId} {k : Nat} {α : Type} {enc : α → List AV} {ok : α → Prop} {n : Nat} {ks : List CK} {f : Field} (h : Reads P w t v) (ht : P.underlying t = some (.struct #[f])) (hoff : f.offset = 0) (hty : f.type = ts) (hc1 : P.cellsOf t = 1) (hc2 : P.cellsOf ts = 1) (hts : P.underlying ts = some (.slice e)) (hk : k = P.cellsOf e) (hpos : 0 < k) (hf : flat P n e = some ks) (hfit : ∀ cs, Fits ks cs → ∃ x : α, cs.map avOf = enc x ∧ ok x) :
    ∃ l : List α, l.length ≤ 9223372036854775807 ∧ (∀ x ∈ l, ok x) ∧ Rep w (Old w) [] [] [] (.agg [.ro (l.map enc)]) v := by
  obtain ⟨cs, rfl, hr⟩ := h.agg ht
  obtain ⟨h1, h2⟩ := hr.struct ht
  rw [hc1] at h1
  obtain ⟨c, rfl⟩ := List.length_eq_one_iff.1 h1
  have h3 := h2 f (by simp)
  rw [hoff, hty, hc2] at h3
  obtain ⟨a, cap, css, h4, h5, h6, h7, h8⟩ := h3.slice hts hk hpos
  simp at h4
  subst h4
  obtain ⟨l, h9, h10, h11⟩ := rdc_slice hpos h5 h7 h8 hf hfit
  refine ⟨l, by have := maxLen_le; omega, h10, .agg _ _ rfl (by simp [Value.oneCell']) fun i x u hx hu => ?_⟩
  cases i with
  | zero =>
    simp at hx hu
    subst hx; subst hu
    exact h11
  | succ i => simp at hx
/-- A struct of a number and a slice of flat things. -/
theorem reads_num_slice {kd : IntKind} {e ts tn : TypeId} {k : Nat} {α : Type} {enc : α → List AV} {ok : α → Prop} {n : Nat} {ks : List CK} {f g : Field} (h : Reads P w t v) (ht : P.underlying t = some (.struct #[f, g])) (hf0 : f.offset = 0) (hft : f.type = tn) (hg1 : g.offset = 1) (hgt : g.type = ts) (hc2 : P.cellsOf t = 2) (hcn : P.cellsOf tn = 1) (hcs : P.cellsOf ts = 1)
    (htn : P.underlying tn = some (.int kd)) (hts : P.underlying ts = some (.slice e)) (hk : k = P.cellsOf e) (hpos : 0 < k) (hf : flat P n e = some ks) (hfit : ∀ cs, Fits ks cs → ∃ x : α, cs.map avOf = enc x ∧ ok x) :
    ∃ (m : Int) (l : List α), l.length ≤ 9223372036854775807 ∧ (∀ x ∈ l, ok x) ∧ Rep w (Old w) [] [] [] (.agg [.int kd m, .ro (l.map enc)]) v := by
  obtain ⟨cs, rfl, hr⟩ := h.agg ht
  obtain ⟨h1, h2⟩ := hr.struct ht
  rw [hc2] at h1
  obtain ⟨c, d, rfl⟩ : ∃ c d, cs = [c, d] := by
    match cs, h1 with
    | [c, d], _ => exact ⟨c, d, rfl⟩
  have h3 := h2 f (by simp)
  rw [hf0, hft, hcn] at h3
  have h4 := h2 g (by simp)
  rw [hg1, hgt, hcs] at h4
  simp only [List.drop_succ_cons, List.drop_zero, List.take_succ_cons, List.take_zero] at h3 h4
  obtain ⟨m, hm, hw⟩ := RdC.int h3 htn
  simp at hm
  subst hm
  obtain ⟨a, cap, css, h5, h6, h7, h8, h9⟩ := h4.slice hts hk hpos
  simp at h5
  subst h5
  obtain ⟨l, k1, k2, k3⟩ := rdc_slice hpos h6 h8 h9 hf hfit
  refine ⟨m, l, by have := maxLen_le; omega, k2, .agg _ _ rfl (by simp [Value.oneCell']) fun i x u hx hu => ?_⟩
  match i with
  | 0 => simp at hx hu; subst hx; subst hu; exact .int _ _
  | 1 => simp at hx hu; subst hx; subst hu; exact k3
  | i + 2 => simp at hx
end Go.Proofs.Ytncppbkhnafpnaa.D

/- Ops that are read. No condition. -/
set_option linter.unusedSimpArgs false
namespace Go.Proofs.Ytncppbkhnafpnaa.D
open Go Go.RowKit Go.Proofs.Ytncppbkhnafpnaa.A Go.Proofs.Ytncppbkhnafpnaa.J
theorem wf_u32 {n : Int} (h : (Lit.int .u32 n).wf = true) : 0 ≤ n ∧ n ≤ 4294967295 := by simp [Lit.wf] at h; exact h
theorem wf_u64 {n : Int} (h : (Lit.int .u64 n).wf = true) : 0 ≤ n ∧ n ≤ 18446744073709551615 := by simp [Lit.wf] at h; exact h
theorem fits_op {cs : List Value} (h : Fits [.i .i64, .i .i64, .i .i64, .i .i64, .i .i64, .i .u64, .b] cs) : ∃ o : Op7, cs.map avOf = opv o ∧ (0 ≤ o.x ∧ o.x ≤ 18446744073709551615) := by
  obtain ⟨x0, x1, x2, x3, x4, x5, x6, rfl⟩ : ∃ x0 x1 x2 x3 x4 x5 x6, cs = [x0, x1, x2, x3, x4, x5, x6] := by
    have h4 := h.length
    match cs, h4 with
    | [x0, x1, x2, x3, x4, x5, x6], _ => exact ⟨x0, x1, x2, x3, x4, x5, x6, rfl⟩
  obtain ⟨⟨n1, e1, _⟩, ⟨n2, e2, _⟩, ⟨n3, e3, _⟩, ⟨n4, e4, _⟩, ⟨n5, e5, _⟩, ⟨n6, e6, w6⟩, ⟨n7, e7⟩, _⟩ := h
  subst e1 e2 e3 e4 e5 e6 e7
  refine ⟨⟨n1, n2, n3, n4, n5, n6, n7⟩, rfl, ?_⟩
  exact wf_u64 w6
end Go.Proofs.Ytncppbkhnafpnaa.D
namespace Go.Proofs.Ytncppbkhnafpnaa
open Go Go.RowKit Go.Proofs.Ytncppbkhnafpnaa.A Go.Proofs.Ytncppbkhnafpnaa.D Go.Proofs.Ytncppbkhnafpnaa.J
theorem gNone {W : World} : GOk F.G W (Old W) := fun g row h => by cases h
end Go.Proofs.Ytncppbkhnafpnaa
