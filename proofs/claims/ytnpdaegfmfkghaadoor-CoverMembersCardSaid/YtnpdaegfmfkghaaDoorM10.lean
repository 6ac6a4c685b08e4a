/- Part 10 of the proofs of these statements. No condition. -/
import Derived.Test.YtnpdaegfmfkghaaDoorM9
set_option linter.unusedVariables false
set_option linter.unusedSimpArgs false
/- What is left of a prefix without others, told to somebody who takes all. No condition. -/
set_option linter.unusedSimpArgs false
namespace Go.Proofs.YtnpdaegfmfkghaaDoor.F
open Go Go.Proofs.YtnpdaegfmfkghaaDoor.A Go.Proofs.YtnpdaegfmfkghaaDoor.D
/-- Somebody who takes all that is told. -/
structure Hnd (h : Hd) (S : List Pfx → List Blk) (m N : Nat) : Prop where
  len : ∀ s, (S s).length = m
  low : ∀ s, belowAll m (S s) = true
  hd : ∀ s p ext, s.length < N → belowAll (m + ext.length) ext = true → h [.agg (pav p)] ⟨S s ++ ext, [none]⟩ = some (true, ⟨S (s ++ [p]) ++ ext, [none]⟩)
theorem Hnd.lowx {h : Hd} {S : List Pfx → List Blk} {m N : Nat} (H : Hnd h S m N) (s : List Pfx) {ext : List Blk} (he : belowAll (m + ext.length) ext = true) : belowAll (m + ext.length) (S s ++ ext) = true := by
  rw [ball_app, belowAll_mono (by omega) (H.low s), he]; rfl
theorem Hnd.lenx {h : Hd} {S : List Pfx → List Blk} {m N : Nat} (H : Hnd h S m N) (s : List Pfx) (ext : List Blk) : (S s ++ ext).length = m + ext.length := by
  rw [List.length_append, H.len]
def RowsAt (v : AV) (b : List Pfx) (S : List Pfx → List Blk) (ext : List Blk) : Prop := v = .ro (prows b) ∨ ∃ id g lk, v = .lis id g 0 b.length ∧ ∀ s, (S s ++ ext)[id]? = some (.lst lk g 37 18 (prows b))
theorem r48 {h : Hd} {S : List Pfx → List Blk} {m N : Nat} (H : Hnd h S m N) : ∀ (n : Nat) {p : Pfx} {b s : List Pfx} {v : AV} {ext : List Blk}, PfxOk p → Oks b → (n : Int) = width p.adr.ver - p.bits → b.length ≤ 1000000 → RowsAt v b S ext →
    belowAll (m + ext.length) ext = true → s.length + (restL n p b).length ≤ N →
    ∃ ext', LR E [h] 48 [.agg (pav p), v, .yld 0] ⟨S s ++ ext, [none]⟩ = some (.bool true, ⟨S (s ++ restL n p b) ++ (ext ++ ext'), [none]⟩) := by
  intro n
  induction n using Nat.strongRecOn with
  | _ n ih =>
  intro p b s v ext hp hb hn hbl hv hlow hN
  rcases hv with rfl | ⟨id, g, lk, rfl, hid⟩
  · skip
    have lenB : ∀ s, (S s ++ ext).length = m + ext.length := fun s => H.lenx s ext
    have lowB : ∀ s, belowAll (m + ext.length) (S s ++ ext) = true := fun s => H.lowx s hlow
    rw [LR_R (fn := f48) rfl rfl rfl]
    obtain ⟨B, hB⟩ : ∃ B, B = S s ++ ext := ⟨_, rfl⟩
    have hBl : B.length = m + ext.length := by rw [hB]; exact lenB s
    have hBlow : belowAll (m + ext.length) B = true := by rw [hB]; exact lowB s
    have hids := (show ∀ r : Nat, r = r from fun _ => rfl)
    rw [← hB]
    generalize hM : m + ext.length = M at *
    simp only [f48, RB, pickV, eqbV, notV, negV, convV, faddrV, fldV, idxV, eqaggV, iaddrV, isnilV, nilckV, pnilV, cloV, extrV, slenV, minV, sidxV, abin, cmpInt, params, growLists, fillCells, newAt, rdPtr, wrPtr, AV.cells, asVal, lenOf, boundOf, rowsOf, argIds, freshIn, scalar1, setAll, AV.isData, AV.isYld, Nat.reduceAdd, Nat.reduceMul, Nat.reduceSub, Nat.reduceEqDiff, Nat.reduceLeDiff, Nat.reduceLT, Int.reduceNeg, ↓reduceIte, reduceCtorEq, Int.reduceEq, Int.reduceLT, Int.reduceLE, Int.reduceBEq, Int.reduceBNe, Int.reduceToNat, IntKind.bits, Int.reduceAdd, Int.reduceSub, Int.reduceMul, Int.reduceTDiv, Int.reduceTMod, DB, R7B, List.append_assoc, List.length_append, Nat.add_assoc, hBl, prows_len]
    refine W_recP2 (ι := {k : Nat // k ≤ b.length ∧ (b.take k).any (fun q => decide (Holds q p)) = false})
      (Q := fun _ x => ∃ ext', x = some ((AV.bool true, ⟨S (s ++ restL n p b) ++ (ext ++ ext'), [none]⟩) : AV × Hp))
      (M := fun k => [(2, .yld 0), (3, .ptr M 0 0 0), (7, .lis (M + 1) ((b.take k.1).filter fun q => decide (Holds p q)).length 0 ((b.take k.1).filter fun q => decide (Holds p q)).length), (10, .ro (prows b)), (11, .int .i64 (b.length : Int)), (12, .int .i64 (k.1 : Int))])
      (H := fun k => ⟨B ++ [.box 0 37 (pav p), .lst 0 ((b.take k.1).filter fun q => decide (Holds p q)).length 37 18 (prows ((b.take k.1).filter fun q => decide (Holds p q)))], [none]⟩)
      (μ := fun k => b.length - k.1) (fun k => ⟨?_, ?_⟩) (fun k kh => ?_) ⟨0, Nat.zero_le _, rfl⟩ ?_ ?_
    · have f1 : M < M + 2 := by omega
      have f2 : M + 1 < M + 2 := by omega
      simp only [List.map_cons, List.map_nil, List.length_append, hBl, LPB, f1, f2, true_and, decide_true, Bool.and_self]
    · show belowAll (M + 2) (B ++ _) = true
      rw [ball_app, belowAll_mono (by omega) hBlow]; simp [LPB]
    · obtain ⟨k, hkl, hany⟩ := k
      simp only at kh hkl hany ⊢
      by_cases hk : k < b.length
      · have f1 : (k : Int) < (b.length : Int) := by omega
        have f2 : (0 : Int) ≤ (k : Int) := by omega
        have f6 : IntKind.i64.wrap ((k : Int) + 1) = ((k + 1 : Nat) : Int) := by rw [IntWalk.i64_in _ (by omega)] <;> omega
        have g1 := prows_get b hk
        have hq := hb _ (List.getElem_mem hk)
        have htk : b.take (k + 1) = b.take k ++ [b[k]] := by rw [List.take_add_one, List.getElem?_eq_getElem hk]; rfl
        generalize hqe : b[k] = q at *
        by_cases h1 : Holds q p
        · have hr : restL n p b = [] := by
            have : b.any (fun q => decide (Holds q p)) = true := List.any_eq_true.2 ⟨q, hqe ▸ List.getElem_mem hk, decide_eq_true h1⟩
            unfold restL; rw [if_pos this]
          simp only [RB, pickV, eqbV, notV, negV, convV, faddrV, fldV, idxV, eqaggV, iaddrV, isnilV, nilckV, pnilV, cloV, extrV, slenV, minV, sidxV, abin, cmpInt, params, growLists, fillCells, newAt, rdPtr, wrPtr, AV.cells, asVal, lenOf, boundOf, rowsOf, argIds, freshIn, scalar1, setAll, AV.isData, AV.isYld, Nat.reduceAdd, Nat.reduceMul, Nat.reduceSub, Nat.reduceEqDiff, Nat.reduceLeDiff, Nat.reduceLT, Int.reduceNeg, ↓reduceIte, reduceCtorEq, Int.reduceEq, Int.reduceLT, Int.reduceLE, Int.reduceBEq, Int.reduceBNe, Int.reduceToNat, IntKind.bits, Int.reduceAdd, Int.reduceSub, Int.reduceMul, Int.reduceTDiv, Int.reduceTMod, DB, R7B, List.append_assoc, List.length_append, Nat.add_assoc, hBl, f1, f2, f6, hk, g1, lisFits, hids, e_prefix_Holds, h1, hr, List.append_nil]
          have conv : ∀ X, B ++ X = S s ++ (ext ++ X) := fun X => by rw [hB, List.append_assoc]
          rw [conv]
          exact ⟨_, rfl⟩
        · have hfl : ((b.take k).filter fun q => decide (Holds p q)).length ≤ k := by
            have := List.length_filter_le (fun q => decide (Holds p q)) (b.take k)
            rw [List.length_take] at this; omega
          have hany' : (b.take (k + 1)).any (fun q => decide (Holds q p)) = false := by rw [htk, List.any_append, hany]; simp [h1]
          have kh := kh ⟨k + 1, hk, hany'⟩ (by simp only; omega)
          simp only [htk, List.filter_append] at kh
          by_cases h2 : Holds p q
          · have e : ([q].filter fun q => decide (Holds p q)) = [q] := by simp [h2]
            simp only [e, List.length_append, List.length_singleton, ← prows_snoc] at kh
            generalize ((b.take k).filter fun q => decide (Holds p q)) = F at *
            have f7 : (F.length + 1) * 32 ≤ 140737488355328 := by omega
            have f8 : F.length + 1 ≤ 4611686018427387904 := by omega
            have fh : headFits 18 [pav q] = true := by simp [headFits, pav_len]
            have tF : (prows F).take F.length = prows F := by rw [prows_take, List.take_length]
            simp only [RB, pickV, eqbV, notV, negV, convV, faddrV, fldV, idxV, eqaggV, iaddrV, isnilV, nilckV, pnilV, cloV, extrV, slenV, minV, sidxV, abin, cmpInt, params, growLists, fillCells, newAt, rdPtr, wrPtr, AV.cells, asVal, lenOf, boundOf, rowsOf, argIds, freshIn, scalar1, setAll, AV.isData, AV.isYld, Nat.reduceAdd, Nat.reduceMul, Nat.reduceSub, Nat.reduceEqDiff, Nat.reduceLeDiff, Nat.reduceLT, Int.reduceNeg, ↓reduceIte, reduceCtorEq, Int.reduceEq, Int.reduceLT, Int.reduceLE, Int.reduceBEq, Int.reduceBNe, Int.reduceToNat, IntKind.bits, Int.reduceAdd, Int.reduceSub, Int.reduceMul, Int.reduceTDiv, Int.reduceTMod, DB, R7B, O_buildSlq, quietOk, aop_buildSl, fillRows, asData, aappend, List.append_assoc, List.length_append, Nat.add_assoc, hBl, f1, f2, f6, f7, f8, fh, tF, hk, g1, lisFits, hids, e_prefix_Holds, h1, h2, prows_len, Nat.le_refl, take_add hBl]
            exact kh
          · have e : ([q].filter fun q => decide (Holds p q)) = [] := by simp [h2]
            simp only [e, List.append_nil] at kh
            simp only [RB, pickV, eqbV, notV, negV, convV, faddrV, fldV, idxV, eqaggV, iaddrV, isnilV, nilckV, pnilV, cloV, extrV, slenV, minV, sidxV, abin, cmpInt, params, growLists, fillCells, newAt, rdPtr, wrPtr, AV.cells, asVal, lenOf, boundOf, rowsOf, argIds, freshIn, scalar1, setAll, AV.isData, AV.isYld, Nat.reduceAdd, Nat.reduceMul, Nat.reduceSub, Nat.reduceEqDiff, Nat.reduceLeDiff, Nat.reduceLT, Int.reduceNeg, ↓reduceIte, reduceCtorEq, Int.reduceEq, Int.reduceLT, Int.reduceLE, Int.reduceBEq, Int.reduceBNe, Int.reduceToNat, IntKind.bits, Int.reduceAdd, Int.reduceSub, Int.reduceMul, Int.reduceTDiv, Int.reduceTMod, DB, R7B, List.append_assoc, List.length_append, Nat.add_assoc, hBl, f1, f2, f6, hk, g1, lisFits, hids, e_prefix_Holds, h1, h2, take_add hBl]
            exact kh
      · have ek : b.take k = b := List.take_of_length_le (by omega)
        clear kh
        rw [ek] at hany ⊢
        have hnot : ¬ b.any (fun q => decide (Holds q p)) = true := by rw [hany]; simp
        have fk : ¬ (k : Int) < (b.length : Int) := by omega
        have hFl : (b.filter fun q => decide (Holds p q)).length ≤ b.length := List.length_filter_le _ _
        have hFo : Oks (b.filter fun q => decide (Holds p q)) := fun q hq => hb q (List.mem_filter.1 hq).1
        have hlow2 : ∀ x y : Blk, x.refsLt (M + 2) = true → y.refsLt (M + 2) = true → belowAll (m + (ext ++ [x, y]).length) (ext ++ [x, y]) = true := fun x y hx hy => by
          have e : m + (ext ++ [x, y]).length = M + 2 := by rw [List.length_append, ← hM]; simp; omega
          rw [e, ball_app, belowAll_mono (by omega) hlow]; simp [ball_cons, ball_nil, hx, hy]
        by_cases hF : (b.filter fun q => decide (Holds p q)) = []
        · have hr : restL n p b = [p] := by unfold restL; rw [if_neg hnot, if_pos hF]
          rw [hr] at hN ⊢
          have hh : h [.agg (pav p)] ⟨B ++ [.box 0 37 (pav p), .lst 0 0 37 18 []], [none]⟩ = some (true, ⟨S (s ++ [p]) ++ (ext ++ [.box 0 37 (pav p), .lst 0 0 37 18 []]), [none]⟩) := by
            rw [hB, List.append_assoc]
            exact H.hd s p _ (by simp at hN; omega) (hlow2 _ _ (by simp [LPB]) rfl)
          have z0 : (((0 : Nat) : Int) == 0) = true := rfl
          have z1 : prows [] = [] := rfl
          have hy : [h][0]? = some h := rfl
          simp only [RB, pickV, eqbV, notV, negV, convV, faddrV, fldV, idxV, eqaggV, iaddrV, isnilV, nilckV, pnilV, cloV, extrV, slenV, minV, sidxV, abin, cmpInt, params, growLists, fillCells, newAt, rdPtr, wrPtr, AV.cells, asVal, lenOf, boundOf, rowsOf, argIds, freshIn, scalar1, setAll, AV.isData, AV.isYld, Nat.reduceAdd, Nat.reduceMul, Nat.reduceSub, Nat.reduceEqDiff, Nat.reduceLeDiff, Nat.reduceLT, Int.reduceNeg, ↓reduceIte, reduceCtorEq, Int.reduceEq, Int.reduceLT, Int.reduceLE, Int.reduceBEq, Int.reduceBNe, Int.reduceToNat, IntKind.bits, Int.reduceAdd, Int.reduceSub, Int.reduceMul, Int.reduceTDiv, Int.reduceTMod, DB, R7B, hF, fk, z0, z1, hBl, CR_yld' hy, hh]
          exact ⟨_, rfl⟩
        · have hw := filter_step hb hp hnot hF
          obtain ⟨n', rfl⟩ : ∃ n', n = n' + 1 := ⟨n - 1, by omega⟩
          have hr : restL (n' + 1) p b = restL n' (loP p) (b.filter fun q => decide (Holds p q)) ++ restL n' (hiP p) (b.filter fun q => decide (Holds p q)) := by
            rw [restL, if_neg hnot, if_neg hF]
          rw [hr] at hN ⊢
          generalize hFe : (b.filter fun q => decide (Holds p q)) = F at *
          have hlo := loP_ok hp hw
          have hhi := hiP_ok hp hw
          have hpb := hp.2.1
          have hwl := width_le p.adr.ver
          rw [List.length_append] at hN
          have z0 : ((F.length : Int) == 0) = false := by
            have := List.length_pos_iff.2 hF
            rw [beq_eq_false_iff_ne]; omega
          have fb : IntKind.i64.wrap (p.bits + 1) = p.bits + 1 := IntWalk.i64_in _ (by omega)
          have fo : ovr (pav p) 17 [.int .i64 (p.bits + 1)] = some (pav (loP p)) := pav_on p _
          have h56 : LV E 56 [.agg (pav (loP p))] = some (.agg (pav (hiP p))) := by
            rw [← half_lo hpb]; exact e56 _ (by unfold loP; simp only; omega) (by unfold loP; simp only; omega)
          have rows : RowsAt (.lis (M + 1) F.length 0 F.length) F S (ext ++ [.box 0 37 (pav (loP p)), .lst 0 F.length 37 18 (prows F)]) := .inr ⟨M + 1, F.length, 0, rfl, fun s' => by
            rw [← List.append_assoc, get_add (lenB s')]; rfl⟩
          obtain ⟨e1, r1⟩ := ih n' (by omega) (s := s) (ext := ext ++ [.box 0 37 (pav (loP p)), .lst 0 F.length 37 18 (prows F)]) hlo hFo (by unfold loP; simp only; omega) (by omega) rows (hlow2 _ _ (by simp [LPB]) rfl) (by omega)
          obtain ⟨e2, r2⟩ := ih n' (by omega) (s := s ++ restL n' (loP p) F) (ext := ext ++ [.box 0 37 (pav (loP p)), .lst 0 F.length 37 18 (prows F)]) hhi hFo (by unfold hiP; simp only; omega) (by omega) rows (hlow2 _ _ (by simp [LPB]) rfl) (by rw [List.length_append]; omega)
          rw [List.append_assoc s] at r2
          simp only [← List.append_assoc (S _)] at r1 r2
          rw [← hB] at r1
          obtain ⟨B1, hB1⟩ : ∃ B1, B1 = S (s ++ restL n' (loP p) F) ++ ext := ⟨_, rfl⟩
          obtain ⟨B2, hB2⟩ : ∃ B2, B2 = S (s ++ (restL n' (loP p) F ++ restL n' (hiP p) F)) ++ ext := ⟨_, rfl⟩
          have l1 : B1.length = M := by rw [hB1]; exact lenB _
          have l2 : B2.length = M := by rw [hB2]; exact lenB _
          have w1 : belowAll M B1 = true := by rw [hB1]; exact lowB _
          have w2 : belowAll M B2 = true := by rw [hB2]; exact lowB _
          rw [← hB1] at r1 r2
          rw [← hB2] at r2
          refine (show ∀ x, (∃ e, x = some ((AV.bool true, ⟨B2 ++ e, [none]⟩) : AV × Hp)) → ∃ ext', x = some ((AV.bool true, ⟨S (s ++ (restL n' (loP p) F ++ restL n' (hiP p) F)) ++ (ext ++ ext'), [none]⟩) : AV × Hp) from fun x ⟨e, he⟩ => ⟨e, by rw [he, hB2, List.append_assoc]⟩) _ ?_
          have sh : ∀ (B' e' : List Blk), B'.length = M → belowAll M B' = true → shrink false (M + 2) (.bool true) ⟨B' ++ .box 0 37 (pav (loP p)) :: .lst 0 F.length 37 18 (prows F) :: e', [none]⟩ = some ⟨B' ++ [.box 0 37 (pav (loP p)), .lst 0 F.length 37 18 (prows F)], [none]⟩ := fun B' e' hl hw => by
            rw [show B' ++ Blk.box 0 37 (pav (loP p)) :: Blk.lst 0 F.length 37 18 (prows F) :: e' = (B' ++ [.box 0 37 (pav (loP p)), .lst 0 F.length 37 18 (prows F)]) ++ e' by simp]
            refine shrink_app (by rw [List.length_append, hl]; rfl) rfl ?_
            rw [ball_app, belowAll_mono (by omega) hw]; simp [LPB]
          have hsh1 := sh B1 e1 l1 w1
          have hsh2 := sh B2 e2 l2 w2
          simp only [List.append_assoc, List.cons_append, List.nil_append] at r1 r2
          clear ih sh rows hids
          simp only [RB, pickV, eqbV, notV, negV, convV, faddrV, fldV, idxV, eqaggV, iaddrV, isnilV, nilckV, pnilV, cloV, extrV, slenV, minV, sidxV, abin, cmpInt, params, growLists, fillCells, newAt, rdPtr, wrPtr, AV.cells, asVal, lenOf, boundOf, rowsOf, argIds, freshIn, scalar1, setAll, AV.isData, AV.isYld, Nat.reduceAdd, Nat.reduceMul, Nat.reduceSub, Nat.reduceEqDiff, Nat.reduceLeDiff, Nat.reduceLT, Int.reduceNeg, ↓reduceIte, reduceCtorEq, Int.reduceEq, Int.reduceLT, Int.reduceLE, Int.reduceBEq, Int.reduceBNe, Int.reduceToNat, IntKind.bits, Int.reduceAdd, Int.reduceSub, Int.reduceMul, Int.reduceTDiv, Int.reduceTMod, DB, R7B, List.length_append, fk, z0, hBl, l1, l2, fb, fo, h56, r1, r2, hsh1, hsh2]
          exact ⟨_, rfl⟩
    · rfl
    · rfl
  · skip
    have lenB : ∀ s, (S s ++ ext).length = m + ext.length := fun s => H.lenx s ext
    have lowB : ∀ s, belowAll (m + ext.length) (S s ++ ext) = true := fun s => H.lowx s hlow
    rw [LR_R (fn := f48) rfl rfl rfl]
    obtain ⟨B, hB⟩ : ∃ B, B = S s ++ ext := ⟨_, rfl⟩
    have hBl : B.length = m + ext.length := by rw [hB]; exact lenB s
    have hBlow : belowAll (m + ext.length) B = true := by rw [hB]; exact lowB s
    have hids := (show ∀ r, (B ++ r)[id]? = some (.lst lk g 37 18 (prows b)) from fun r => by (rw [hB]; exact get_lt (hid s)))
    rw [← hB]
    generalize hM : m + ext.length = M at *
    simp only [f48, RB, pickV, eqbV, notV, negV, convV, faddrV, fldV, idxV, eqaggV, iaddrV, isnilV, nilckV, pnilV, cloV, extrV, slenV, minV, sidxV, abin, cmpInt, params, growLists, fillCells, newAt, rdPtr, wrPtr, AV.cells, asVal, lenOf, boundOf, rowsOf, argIds, freshIn, scalar1, setAll, AV.isData, AV.isYld, Nat.reduceAdd, Nat.reduceMul, Nat.reduceSub, Nat.reduceEqDiff, Nat.reduceLeDiff, Nat.reduceLT, Int.reduceNeg, ↓reduceIte, reduceCtorEq, Int.reduceEq, Int.reduceLT, Int.reduceLE, Int.reduceBEq, Int.reduceBNe, Int.reduceToNat, IntKind.bits, Int.reduceAdd, Int.reduceSub, Int.reduceMul, Int.reduceTDiv, Int.reduceTMod, DB, R7B, List.append_assoc, List.length_append, Nat.add_assoc, hBl, prows_len]
    refine W_recP2 (ι := {k : Nat // k ≤ b.length ∧ (b.take k).any (fun q => decide (Holds q p)) = false})
      (Q := fun _ x => ∃ ext', x = some ((AV.bool true, ⟨S (s ++ restL n p b) ++ (ext ++ ext'), [none]⟩) : AV × Hp))
      (M := fun k => [(2, .yld 0), (3, .ptr M 0 0 0), (7, .lis (M + 1) ((b.take k.1).filter fun q => decide (Holds p q)).length 0 ((b.take k.1).filter fun q => decide (Holds p q)).length), (10, .lis id g 0 b.length), (11, .int .i64 (b.length : Int)), (12, .int .i64 (k.1 : Int))])
      (H := fun k => ⟨B ++ [.box 0 37 (pav p), .lst 0 ((b.take k.1).filter fun q => decide (Holds p q)).length 37 18 (prows ((b.take k.1).filter fun q => decide (Holds p q)))], [none]⟩)
      (μ := fun k => b.length - k.1) (fun k => ⟨?_, ?_⟩) (fun k kh => ?_) ⟨0, Nat.zero_le _, rfl⟩ ?_ ?_
    · have f1 : M < M + 2 := by omega
      have f2 : M + 1 < M + 2 := by omega
      simp only [List.map_cons, List.map_nil, List.length_append, hBl, LPB, f1, f2, (show id < M + 2 by (have := (List.getElem?_eq_some_iff.1 (hid s)).1; rw [lenB] at this; omega)), decide_true, Bool.and_self]
    · show belowAll (M + 2) (B ++ _) = true
      rw [ball_app, belowAll_mono (by omega) hBlow]; simp [LPB]
    · obtain ⟨k, hkl, hany⟩ := k
      simp only at kh hkl hany ⊢
      by_cases hk : k < b.length
      · have f1 : (k : Int) < (b.length : Int) := by omega
        have f2 : (0 : Int) ≤ (k : Int) := by omega
        have f6 : IntKind.i64.wrap ((k : Int) + 1) = ((k + 1 : Nat) : Int) := by rw [IntWalk.i64_in _ (by omega)] <;> omega
        have g1 := prows_get b hk
        have hq := hb _ (List.getElem_mem hk)
        have htk : b.take (k + 1) = b.take k ++ [b[k]] := by rw [List.take_add_one, List.getElem?_eq_getElem hk]; rfl
        generalize hqe : b[k] = q at *
        by_cases h1 : Holds q p
        · have hr : restL n p b = [] := by
            have : b.any (fun q => decide (Holds q p)) = true := List.any_eq_true.2 ⟨q, hqe ▸ List.getElem_mem hk, decide_eq_true h1⟩
            unfold restL; rw [if_pos this]
          simp only [RB, pickV, eqbV, notV, negV, convV, faddrV, fldV, idxV, eqaggV, iaddrV, isnilV, nilckV, pnilV, cloV, extrV, slenV, minV, sidxV, abin, cmpInt, params, growLists, fillCells, newAt, rdPtr, wrPtr, AV.cells, asVal, lenOf, boundOf, rowsOf, argIds, freshIn, scalar1, setAll, AV.isData, AV.isYld, Nat.reduceAdd, Nat.reduceMul, Nat.reduceSub, Nat.reduceEqDiff, Nat.reduceLeDiff, Nat.reduceLT, Int.reduceNeg, ↓reduceIte, reduceCtorEq, Int.reduceEq, Int.reduceLT, Int.reduceLE, Int.reduceBEq, Int.reduceBNe, Int.reduceToNat, IntKind.bits, Int.reduceAdd, Int.reduceSub, Int.reduceMul, Int.reduceTDiv, Int.reduceTMod, DB, R7B, List.append_assoc, List.length_append, Nat.add_assoc, hBl, f1, f2, f6, hk, g1, lisFits, hids, e_prefix_Holds, h1, hr, List.append_nil]
          have conv : ∀ X, B ++ X = S s ++ (ext ++ X) := fun X => by rw [hB, List.append_assoc]
          rw [conv]
          exact ⟨_, rfl⟩
        · have hfl : ((b.take k).filter fun q => decide (Holds p q)).length ≤ k := by
            have := List.length_filter_le (fun q => decide (Holds p q)) (b.take k)
            rw [List.length_take] at this; omega
          have hany' : (b.take (k + 1)).any (fun q => decide (Holds q p)) = false := by rw [htk, List.any_append, hany]; simp [h1]
          have kh := kh ⟨k + 1, hk, hany'⟩ (by simp only; omega)
          simp only [htk, List.filter_append] at kh
          by_cases h2 : Holds p q
          · have e : ([q].filter fun q => decide (Holds p q)) = [q] := by simp [h2]
            simp only [e, List.length_append, List.length_singleton, ← prows_snoc] at kh
            generalize ((b.take k).filter fun q => decide (Holds p q)) = F at *
            have f7 : (F.length + 1) * 32 ≤ 140737488355328 := by omega
            have f8 : F.length + 1 ≤ 4611686018427387904 := by omega
            have fh : headFits 18 [pav q] = true := by simp [headFits, pav_len]
            have tF : (prows F).take F.length = prows F := by rw [prows_take, List.take_length]
            simp only [RB, pickV, eqbV, notV, negV, convV, faddrV, fldV, idxV, eqaggV, iaddrV, isnilV, nilckV, pnilV, cloV, extrV, slenV, minV, sidxV, abin, cmpInt, params, growLists, fillCells, newAt, rdPtr, wrPtr, AV.cells, asVal, lenOf, boundOf, rowsOf, argIds, freshIn, scalar1, setAll, AV.isData, AV.isYld, Nat.reduceAdd, Nat.reduceMul, Nat.reduceSub, Nat.reduceEqDiff, Nat.reduceLeDiff, Nat.reduceLT, Int.reduceNeg, ↓reduceIte, reduceCtorEq, Int.reduceEq, Int.reduceLT, Int.reduceLE, Int.reduceBEq, Int.reduceBNe, Int.reduceToNat, IntKind.bits, Int.reduceAdd, Int.reduceSub, Int.reduceMul, Int.reduceTDiv, Int.reduceTMod, DB, R7B, O_buildSlq, quietOk, aop_buildSl, fillRows, asData, aappend, List.append_assoc, List.length_append, Nat.add_assoc, hBl, f1, f2, f6, f7, f8, fh, tF, hk, g1, lisFits, hids, e_prefix_Holds, h1, h2, prows_len, Nat.le_refl, take_add hBl]
            exact kh
          · have e : ([q].filter fun q => decide (Holds p q)) = [] := by simp [h2]
            simp only [e, List.append_nil] at kh
            simp only [RB, pickV, eqbV, notV, negV, convV, faddrV, fldV, idxV, eqaggV, iaddrV, isnilV, nilckV, pnilV, cloV, extrV, slenV, minV, sidxV, abin, cmpInt, params, growLists, fillCells, newAt, rdPtr, wrPtr, AV.cells, asVal, lenOf, boundOf, rowsOf, argIds, freshIn, scalar1, setAll, AV.isData, AV.isYld, Nat.reduceAdd, Nat.reduceMul, Nat.reduceSub, Nat.reduceEqDiff, Nat.reduceLeDiff, Nat.reduceLT, Int.reduceNeg, ↓reduceIte, reduceCtorEq, Int.reduceEq, Int.reduceLT, Int.reduceLE, Int.reduceBEq, Int.reduceBNe, Int.reduceToNat, IntKind.bits, Int.reduceAdd, Int.reduceSub, Int.reduceMul, Int.reduceTDiv, Int.reduceTMod, DB, R7B, List.append_assoc, List.length_append, Nat.add_assoc, hBl, f1, f2, f6, hk, g1, lisFits, hids, e_prefix_Holds, h1, h2, take_add hBl]
            exact kh
      · have ek : b.take k = b := List.take_of_length_le (by omega)
        clear kh
        rw [ek] at hany ⊢
        have hnot : ¬ b.any (fun q => decide (Holds q p)) = true := by rw [hany]; simp
        have fk : ¬ (k : Int) < (b.length : Int) := by omega
        have hFl : (b.filter fun q => decide (Holds p q)).length ≤ b.length := List.length_filter_le _ _
        have hFo : Oks (b.filter fun q => decide (Holds p q)) := fun q hq => hb q (List.mem_filter.1 hq).1
        have hlow2 : ∀ x y : Blk, x.refsLt (M + 2) = true → y.refsLt (M + 2) = true → belowAll (m + (ext ++ [x, y]).length) (ext ++ [x, y]) = true := fun x y hx hy => by
          have e : m + (ext ++ [x, y]).length = M + 2 := by rw [List.length_append, ← hM]; simp; omega
          rw [e, ball_app, belowAll_mono (by omega) hlow]; simp [ball_cons, ball_nil, hx, hy]
        by_cases hF : (b.filter fun q => decide (Holds p q)) = []
        · have hr : restL n p b = [p] := by unfold restL; rw [if_neg hnot, if_pos hF]
          rw [hr] at hN ⊢
          have hh : h [.agg (pav p)] ⟨B ++ [.box 0 37 (pav p), .lst 0 0 37 18 []], [none]⟩ = some (true, ⟨S (s ++ [p]) ++ (ext ++ [.box 0 37 (pav p), .lst 0 0 37 18 []]), [none]⟩) := by
            rw [hB, List.append_assoc]
            exact H.hd s p _ (by simp at hN; omega) (hlow2 _ _ (by simp [LPB]) rfl)
          have z0 : (((0 : Nat) : Int) == 0) = true := rfl
          have z1 : prows [] = [] := rfl
          have hy : [h][0]? = some h := rfl
          simp only [RB, pickV, eqbV, notV, negV, convV, faddrV, fldV, idxV, eqaggV, iaddrV, isnilV, nilckV, pnilV, cloV, extrV, slenV, minV, sidxV, abin, cmpInt, params, growLists, fillCells, newAt, rdPtr, wrPtr, AV.cells, asVal, lenOf, boundOf, rowsOf, argIds, freshIn, scalar1, setAll, AV.isData, AV.isYld, Nat.reduceAdd, Nat.reduceMul, Nat.reduceSub, Nat.reduceEqDiff, Nat.reduceLeDiff, Nat.reduceLT, Int.reduceNeg, ↓reduceIte, reduceCtorEq, Int.reduceEq, Int.reduceLT, Int.reduceLE, Int.reduceBEq, Int.reduceBNe, Int.reduceToNat, IntKind.bits, Int.reduceAdd, Int.reduceSub, Int.reduceMul, Int.reduceTDiv, Int.reduceTMod, DB, R7B, hF, fk, z0, z1, hBl, CR_yld' hy, hh]
          exact ⟨_, rfl⟩
        · have hw := filter_step hb hp hnot hF
          obtain ⟨n', rfl⟩ : ∃ n', n = n' + 1 := ⟨n - 1, by omega⟩
          have hr : restL (n' + 1) p b = restL n' (loP p) (b.filter fun q => decide (Holds p q)) ++ restL n' (hiP p) (b.filter fun q => decide (Holds p q)) := by
            rw [restL, if_neg hnot, if_neg hF]
          rw [hr] at hN ⊢
          generalize hFe : (b.filter fun q => decide (Holds p q)) = F at *
          have hlo := loP_ok hp hw
          have hhi := hiP_ok hp hw
          have hpb := hp.2.1
          have hwl := width_le p.adr.ver
          rw [List.length_append] at hN
          have z0 : ((F.length : Int) == 0) = false := by
            have := List.length_pos_iff.2 hF
            rw [beq_eq_false_iff_ne]; omega
          have fb : IntKind.i64.wrap (p.bits + 1) = p.bits + 1 := IntWalk.i64_in _ (by omega)
          have fo : ovr (pav p) 17 [.int .i64 (p.bits + 1)] = some (pav (loP p)) := pav_on p _
          have h56 : LV E 56 [.agg (pav (loP p))] = some (.agg (pav (hiP p))) := by
            rw [← half_lo hpb]; exact e56 _ (by unfold loP; simp only; omega) (by unfold loP; simp only; omega)
          have rows : RowsAt (.lis (M + 1) F.length 0 F.length) F S (ext ++ [.box 0 37 (pav (loP p)), .lst 0 F.length 37 18 (prows F)]) := .inr ⟨M + 1, F.length, 0, rfl, fun s' => by
            rw [← List.append_assoc, get_add (lenB s')]; rfl⟩
          obtain ⟨e1, r1⟩ := ih n' (by omega) (s := s) (ext := ext ++ [.box 0 37 (pav (loP p)), .lst 0 F.length 37 18 (prows F)]) hlo hFo (by unfold loP; simp only; omega) (by omega) rows (hlow2 _ _ (by simp [LPB]) rfl) (by omega)
          obtain ⟨e2, r2⟩ := ih n' (by omega) (s := s ++ restL n' (loP p) F) (ext := ext ++ [.box 0 37 (pav (loP p)), .lst 0 F.length 37 18 (prows F)]) hhi hFo (by unfold hiP; simp only; omega) (by omega) rows (hlow2 _ _ (by simp [LPB]) rfl) (by rw [List.length_append]; omega)
          rw [List.append_assoc s] at r2
          simp only [← List.append_assoc (S _)] at r1 r2
          rw [← hB] at r1
          obtain ⟨B1, hB1⟩ : ∃ B1, B1 = S (s ++ restL n' (loP p) F) ++ ext := ⟨_, rfl⟩
          obtain ⟨B2, hB2⟩ : ∃ B2, B2 = S (s ++ (restL n' (loP p) F ++ restL n' (hiP p) F)) ++ ext := ⟨_, rfl⟩
          have l1 : B1.length = M := by rw [hB1]; exact lenB _
          have l2 : B2.length = M := by rw [hB2]; exact lenB _
          have w1 : belowAll M B1 = true := by rw [hB1]; exact lowB _
          have w2 : belowAll M B2 = true := by rw [hB2]; exact lowB _
          rw [← hB1] at r1 r2
          rw [← hB2] at r2
          refine (show ∀ x, (∃ e, x = some ((AV.bool true, ⟨B2 ++ e, [none]⟩) : AV × Hp)) → ∃ ext', x = some ((AV.bool true, ⟨S (s ++ (restL n' (loP p) F ++ restL n' (hiP p) F)) ++ (ext ++ ext'), [none]⟩) : AV × Hp) from fun x ⟨e, he⟩ => ⟨e, by rw [he, hB2, List.append_assoc]⟩) _ ?_
          have sh : ∀ (B' e' : List Blk), B'.length = M → belowAll M B' = true → shrink false (M + 2) (.bool true) ⟨B' ++ .box 0 37 (pav (loP p)) :: .lst 0 F.length 37 18 (prows F) :: e', [none]⟩ = some ⟨B' ++ [.box 0 37 (pav (loP p)), .lst 0 F.length 37 18 (prows F)], [none]⟩ := fun B' e' hl hw => by
            rw [show B' ++ Blk.box 0 37 (pav (loP p)) :: Blk.lst 0 F.length 37 18 (prows F) :: e' = (B' ++ [.box 0 37 (pav (loP p)), .lst 0 F.length 37 18 (prows F)]) ++ e' by simp]
            refine shrink_app (by rw [List.length_append, hl]; rfl) rfl ?_
            rw [ball_app, belowAll_mono (by omega) hw]; simp [LPB]
          have hsh1 := sh B1 e1 l1 w1
          have hsh2 := sh B2 e2 l2 w2
          simp only [List.append_assoc, List.cons_append, List.nil_append] at r1 r2
          clear ih sh rows hids
          simp only [RB, pickV, eqbV, notV, negV, convV, faddrV, fldV, idxV, eqaggV, iaddrV, isnilV, nilckV, pnilV, cloV, extrV, slenV, minV, sidxV, abin, cmpInt, params, growLists, fillCells, newAt, rdPtr, wrPtr, AV.cells, asVal, lenOf, boundOf, rowsOf, argIds, freshIn, scalar1, setAll, AV.isData, AV.isYld, Nat.reduceAdd, Nat.reduceMul, Nat.reduceSub, Nat.reduceEqDiff, Nat.reduceLeDiff, Nat.reduceLT, Int.reduceNeg, ↓reduceIte, reduceCtorEq, Int.reduceEq, Int.reduceLT, Int.reduceLE, Int.reduceBEq, Int.reduceBNe, Int.reduceToNat, IntKind.bits, Int.reduceAdd, Int.reduceSub, Int.reduceMul, Int.reduceTDiv, Int.reduceTMod, DB, R7B, List.length_append, fk, z0, hBl, l1, l2, fb, fo, h56, r1, r2, hsh1, hsh2]
          exact ⟨_, rfl⟩
    · rfl
    · rfl
end Go.Proofs.YtnpdaegfmfkghaaDoor.F

/- What iterators tell; all that they tell, collected. No condition. -/
set_option linter.unusedSimpArgs false
namespace Go.Proofs.YtnpdaegfmfkghaaDoor.F
open Go Go.Proofs.YtnpdaegfmfkghaaDoor.A Go.Proofs.YtnpdaegfmfkghaaDoor.D
/-- A function over which one ranges tells these, in turn. -/
def Tells (g : FuncId) (caps : List AV) (l : List Pfx) (bs0 : List Blk) : Prop :=
  ∀ {h : Hd} {S : List Pfx → List Blk} {m N : Nat}, Hnd h S m N → (∀ s, ∃ r, S s = bs0 ++ r) → l.length ≤ N → ∃ ext, LR E [h] g (.yld 0 :: caps) ⟨S [], [none]⟩ = some (.tup [], ⟨S l ++ ext, [none]⟩)
theorem at_S {S : List Pfx → List Blk} {bs0 : List Blk} (hp : ∀ s, ∃ r, S s = bs0 ++ r) {i : Nat} {x : Blk} (h : bs0[i]? = some x) (s : List Pfx) (r : List Blk) : (S s ++ r)[i]? = some x := by
  obtain ⟨q, hq⟩ := hp s
  rw [hq, List.append_assoc]; exact get_lt h
theorem at_S0 {S : List Pfx → List Blk} {bs0 : List Blk} (hp : ∀ s, ∃ r, S s = bs0 ++ r) {i : Nat} {x : Blk} (h : bs0[i]? = some x) (s : List Pfx) : (S s)[i]? = some x := by
  have := at_S hp h s []; rwa [List.append_nil] at this
theorem take_next {l : List Pfx} {k : Nat} (h : k < l.length) : l.take (k + 1) = l.take k ++ [l[k]] := by rw [List.take_add_one, List.getElem?_eq_getElem h]; rfl
theorem low_box {m : Nat} (p : Pfx) : belowAll (m + 1) [.box 0 37 (pav p)] = true := by simp [LPB]
theorem r65 {bs0 : List Blk} {a j lk lk' e gg : Nat} {l : List Pfx} (hl : l.length ≤ 1000000000) (ha : bs0[a]? = some (.box lk e [.lis j gg 0 l.length])) (hj : bs0[j]? = some (.lst lk' gg 37 18 (prows l))) : Tells 65 [.ptr a 0 0 0] l bs0 := by
  intro h S m N H hp hN
  have ga := at_S0 hp ha
  have gj := at_S hp hj
  have hy : [h][0]? = some h := rfl
  have hjm : j < m := by have := (List.getElem?_eq_some_iff.1 (at_S0 hp hj [])).1; rw [H.len] at this; exact this
  rw [LR_R (fn := f65) rfl rfl rfl]
  simp only [f65, RB, pickV, eqbV, notV, negV, convV, faddrV, fldV, idxV, eqaggV, iaddrV, isnilV, nilckV, pnilV, cloV, extrV, slenV, minV, sidxV, abin, cmpInt, params, growLists, fillCells, newAt, rdPtr, wrPtr, AV.cells, asVal, lenOf, boundOf, rowsOf, argIds, freshIn, scalar1, setAll, AV.isData, AV.isYld, Nat.reduceAdd, Nat.reduceMul, Nat.reduceSub, Nat.reduceEqDiff, Nat.reduceLeDiff, Nat.reduceLT, Int.reduceNeg, ↓reduceIte, reduceCtorEq, Int.reduceEq, Int.reduceLT, Int.reduceLE, Int.reduceBEq, Int.reduceBNe, Int.reduceToNat, IntKind.bits, Int.reduceAdd, Int.reduceSub, Int.reduceMul, Int.reduceTDiv, Int.reduceTMod, DB, R7B, ga, H.len]
  refine W_recP2 (ι := Nat) (Q := fun _ x => ∃ ext, x = some ((AV.tup [], ⟨S l ++ ext, [none]⟩) : AV × Hp))
    (M := fun k => [(0, .yld 0), (5, .lis j gg 0 l.length), (6, .int .i64 (l.length : Int)), (7, .int .i64 (k : Int))]) (H := fun k => ⟨S (l.take k), [none]⟩) (μ := fun k => l.length - k) (fun k => ⟨?_, H.low _⟩) (fun k ih => ?_) 0 rfl rfl
  · simp only [List.map_cons, List.map_nil, LPB, hjm, decide_true, Bool.and_self]
  · by_cases hk : k < l.length
    · have f1 : (k : Int) < (l.length : Int) := by omega
      have f2 : (0 : Int) ≤ (k : Int) := by omega
      have f6 : IntKind.i64.wrap ((k : Int) + 1) = ((k + 1 : Nat) : Int) := by rw [IntWalk.i64_in _ (by omega)] <;> omega
      have g1 := prows_get l hk
      have hh := H.hd (l.take k) l[k] [.box 0 37 (pav l[k])] (by rw [List.length_take]; omega) (low_box _)
      rw [← take_next hk] at hh
      have ih := ih (k + 1) (by omega)
      simp only [RB, pickV, eqbV, notV, negV, convV, faddrV, fldV, idxV, eqaggV, iaddrV, isnilV, nilckV, pnilV, cloV, extrV, slenV, minV, sidxV, abin, cmpInt, params, growLists, fillCells, newAt, rdPtr, wrPtr, AV.cells, asVal, lenOf, boundOf, rowsOf, argIds, freshIn, scalar1, setAll, AV.isData, AV.isYld, Nat.reduceAdd, Nat.reduceMul, Nat.reduceSub, Nat.reduceEqDiff, Nat.reduceLeDiff, Nat.reduceLT, Int.reduceNeg, ↓reduceIte, reduceCtorEq, Int.reduceEq, Int.reduceLT, Int.reduceLE, Int.reduceBEq, Int.reduceBNe, Int.reduceToNat, IntKind.bits, Int.reduceAdd, Int.reduceSub, Int.reduceMul, Int.reduceTDiv, Int.reduceTMod, DB, R7B, f1, f2, f6, hk, gj, lisFits, g1, H.len, CR_yld' hy, hh, take_at (H.len _)]
      exact ih
    · simp only [RB, pickV, eqbV, notV, negV, convV, faddrV, fldV, idxV, eqaggV, iaddrV, isnilV, nilckV, pnilV, cloV, extrV, slenV, minV, sidxV, abin, cmpInt, params, growLists, fillCells, newAt, rdPtr, wrPtr, AV.cells, asVal, lenOf, boundOf, rowsOf, argIds, freshIn, scalar1, setAll, AV.isData, AV.isYld, Nat.reduceAdd, Nat.reduceMul, Nat.reduceSub, Nat.reduceEqDiff, Nat.reduceLeDiff, Nat.reduceLT, Int.reduceNeg, ↓reduceIte, reduceCtorEq, Int.reduceEq, Int.reduceLT, Int.reduceLE, Int.reduceBEq, Int.reduceBNe, Int.reduceToNat, IntKind.bits, Int.reduceAdd, Int.reduceSub, Int.reduceMul, Int.reduceTDiv, Int.reduceTMod, R7B, show ¬ (k : Int) < (l.length : Int) by omega, List.take_of_length_le (show l.length ≤ k by omega)]
      exact ⟨[], by rw [List.append_nil]⟩
theorem r47 {bs0 : List Blk} {a b lk lk' e e' : Nat} {A B : List Pfx} (hA : A.length ≤ 1000000) (hB : B.length ≤ 1000000) (hao : Oks A) (hbo : Oks B) (ha : bs0[a]? = some (.box lk e [.ro (prows A)])) (hb : bs0[b]? = some (.box lk' e' [.ro (prows B)])) : Tells 47 [.ptr a 0 0 0, .ptr b 0 0 0] (minusL A B) bs0 := by
  intro h S m N H hp hN
  have ga := at_S0 hp ha
  have gb := at_S hp hb
  have hy : [h][0]? = some h := rfl
  have hbm : b < m := by have := (List.getElem?_eq_some_iff.1 (at_S0 hp hb [])).1; rw [H.len] at this; exact this
  rw [LR_R (fn := f47) rfl rfl rfl]
  simp only [f47, RB, pickV, eqbV, notV, negV, convV, faddrV, fldV, idxV, eqaggV, iaddrV, isnilV, nilckV, pnilV, cloV, extrV, slenV, minV, sidxV, abin, cmpInt, params, growLists, fillCells, newAt, rdPtr, wrPtr, AV.cells, asVal, lenOf, boundOf, rowsOf, argIds, freshIn, scalar1, setAll, AV.isData, AV.isYld, Nat.reduceAdd, Nat.reduceMul, Nat.reduceSub, Nat.reduceEqDiff, Nat.reduceLeDiff, Nat.reduceLT, Int.reduceNeg, ↓reduceIte, reduceCtorEq, Int.reduceEq, Int.reduceLT, Int.reduceLE, Int.reduceBEq, Int.reduceBNe, Int.reduceToNat, IntKind.bits, Int.reduceAdd, Int.reduceSub, Int.reduceMul, Int.reduceTDiv, Int.reduceTMod, DB, R7B, ga, H.len, prows_len]
  refine W_recP2 (ι := Nat) (Q := fun _ x => ∃ ext, x = some ((AV.tup [], ⟨S (minusL A B) ++ ext, [none]⟩) : AV × Hp))
    (M := fun k => [(0, .yld 0), (2, .ptr b 0 0 0), (6, .ro (prows A)), (7, .int .i64 (A.length : Int)), (8, .int .i64 (k : Int))]) (H := fun k => ⟨S (minusL (A.take k) B), [none]⟩) (μ := fun k => A.length - k) (fun k => ⟨?_, H.low _⟩) (fun k ih => ?_) 0 rfl rfl
  · simp only [List.map_cons, List.map_nil, LPB, hbm, decide_true, Bool.and_self]
  · by_cases hk : k < A.length
    · have f1 : (k : Int) < (A.length : Int) := by omega
      have f2 : (0 : Int) ≤ (k : Int) := by omega
      have f6 : IntKind.i64.wrap ((k : Int) + 1) = ((k + 1 : Nat) : Int) := by rw [IntWalk.i64_in _ (by omega)] <;> omega
      have g1 := prows_get A hk
      have hpo := hao _ (List.getElem_mem hk)
      have en : minusL (A.take (k + 1)) B = minusL (A.take k) B ++ restL (gap A[k]) A[k] B := by unfold minusL; rw [take_next hk, List.flatMap_append, List.flatMap_cons, List.flatMap_nil, List.append_nil]
      have hle : (minusL (A.take (k + 1)) B).length ≤ (minusL A B).length := by
        have : minusL A B = minusL (A.take (k + 1)) B ++ minusL (A.drop (k + 1)) B := by
          conv => lhs; rw [← List.take_append_drop (k + 1) A]
          unfold minusL; rw [List.flatMap_append]
        rw [this, List.length_append]; omega
      rw [en, List.length_append] at hle
      obtain ⟨e1, hr⟩ := r48 H (gap A[k]) (s := minusL (A.take k) B) (v := .ro (prows B)) (ext := [.box 0 37 (pav A[k])]) hpo hbo (gap_ok hpo) hB (.inl rfl) (low_box _) (by omega)
      rw [← en] at hr
      have hs : shrink false (m + 1) (.bool true) ⟨S (minusL (A.take (k + 1)) B) ++ ([.box 0 37 (pav A[k])] ++ e1), [none]⟩ = some ⟨S (minusL (A.take (k + 1)) B) ++ [.box 0 37 (pav A[k])], [none]⟩ := by
        rw [← List.append_assoc]
        refine shrink_app (by rw [List.length_append, H.len]; rfl) rfl ?_
        rw [ball_app, belowAll_mono (by omega) (H.low _)]; simp [LPB]
      have ih := ih (k + 1) (by omega)
      simp only [List.cons_append, List.nil_append] at hr hs
      simp only [RB, pickV, eqbV, notV, negV, convV, faddrV, fldV, idxV, eqaggV, iaddrV, isnilV, nilckV, pnilV, cloV, extrV, slenV, minV, sidxV, abin, cmpInt, params, growLists, fillCells, newAt, rdPtr, wrPtr, AV.cells, asVal, lenOf, boundOf, rowsOf, argIds, freshIn, scalar1, setAll, AV.isData, AV.isYld, Nat.reduceAdd, Nat.reduceMul, Nat.reduceSub, Nat.reduceEqDiff, Nat.reduceLeDiff, Nat.reduceLT, Int.reduceNeg, ↓reduceIte, reduceCtorEq, Int.reduceEq, Int.reduceLT, Int.reduceLE, Int.reduceBEq, Int.reduceBNe, Int.reduceToNat, IntKind.bits, Int.reduceAdd, Int.reduceSub, Int.reduceMul, Int.reduceTDiv, Int.reduceTMod, DB, R7B, List.length_append, f1, f2, f6, g1, gb, H.len, hr, hs, take_at (H.len _)]
      exact ih
    · simp only [RB, pickV, eqbV, notV, negV, convV, faddrV, fldV, idxV, eqaggV, iaddrV, isnilV, nilckV, pnilV, cloV, extrV, slenV, minV, sidxV, abin, cmpInt, params, growLists, fillCells, newAt, rdPtr, wrPtr, AV.cells, asVal, lenOf, boundOf, rowsOf, argIds, freshIn, scalar1, setAll, AV.isData, AV.isYld, Nat.reduceAdd, Nat.reduceMul, Nat.reduceSub, Nat.reduceEqDiff, Nat.reduceLeDiff, Nat.reduceLT, Int.reduceNeg, ↓reduceIte, reduceCtorEq, Int.reduceEq, Int.reduceLT, Int.reduceLE, Int.reduceBEq, Int.reduceBNe, Int.reduceToNat, IntKind.bits, Int.reduceAdd, Int.reduceSub, Int.reduceMul, Int.reduceTDiv, Int.reduceTMod, R7B, show ¬ (k : Int) < (A.length : Int) by omega, List.take_of_length_le (show A.length ≤ k by omega)]
      exact ⟨[], by rw [List.append_nil]⟩
theorem meet_split (A B : List Pfx) {k : Nat} (hk : k < A.length) : meetL A B = meetL (A.take k) B ++ ((B.flatMap fun q => pairM A[k] q) ++ meetL (A.drop (k + 1)) B) := by
  conv => lhs; rw [← List.take_append_drop k A, List.drop_eq_getElem_cons hk]
  unfold meetL; rw [List.flatMap_append, List.flatMap_cons]
theorem r45 {bs0 : List Blk} {a b lk lk' e e' : Nat} {A B : List Pfx} (hA : A.length ≤ 1000000) (hB : B.length ≤ 1000000) (ha : bs0[a]? = some (.box lk e [.ro (prows A)])) (hb : bs0[b]? = some (.box lk' e' [.ro (prows B)])) : Tells 45 [.ptr a 0 0 0, .ptr b 0 0 0] (meetL A B) bs0 := by
  intro h S m N H hp hN
  have ga := at_S0 hp ha
  have gb := at_S hp hb
  have hy : [h][0]? = some h := rfl
  have hbm : b < m := by have := (List.getElem?_eq_some_iff.1 (at_S0 hp hb [])).1; rw [H.len] at this; exact this
  rw [LR_R (fn := f45) rfl rfl rfl]
  simp only [f45, RB, pickV, eqbV, notV, negV, convV, faddrV, fldV, idxV, eqaggV, iaddrV, isnilV, nilckV, pnilV, cloV, extrV, slenV, minV, sidxV, abin, cmpInt, params, growLists, fillCells, newAt, rdPtr, wrPtr, AV.cells, asVal, lenOf, boundOf, rowsOf, argIds, freshIn, scalar1, setAll, AV.isData, AV.isYld, Nat.reduceAdd, Nat.reduceMul, Nat.reduceSub, Nat.reduceEqDiff, Nat.reduceLeDiff, Nat.reduceLT, Int.reduceNeg, ↓reduceIte, reduceCtorEq, Int.reduceEq, Int.reduceLT, Int.reduceLE, Int.reduceBEq, Int.reduceBNe, Int.reduceToNat, IntKind.bits, Int.reduceAdd, Int.reduceSub, Int.reduceMul, Int.reduceTDiv, Int.reduceTMod, DB, R7B, ga, H.len, prows_len]
  refine W_recP2 (ι := Nat) (Q := fun _ x => ∃ ext, x = some ((AV.tup [], ⟨S (meetL A B) ++ ext, [none]⟩) : AV × Hp))
    (M := fun k => [(0, .yld 0), (2, .ptr b 0 0 0), (8, .ro (prows A)), (9, .int .i64 (A.length : Int)), (10, .int .i64 (k : Int))]) (H := fun k => ⟨S (meetL (A.take k) B), [none]⟩) (μ := fun k => A.length - k) (fun k => ⟨?_, H.low _⟩) (fun k ih => ?_) 0 rfl rfl
  · simp only [List.map_cons, List.map_nil, LPB, hbm, decide_true, Bool.and_self]
  · by_cases hk : k < A.length
    · have f1 : (k : Int) < (A.length : Int) := by omega
      have f2 : (0 : Int) ≤ (k : Int) := by omega
      have f6 : IntKind.i64.wrap ((k : Int) + 1) = ((k + 1 : Nat) : Int) := by rw [IntWalk.i64_in _ (by omega)] <;> omega
      have g1 := prows_get A hk
      have hsp := meet_split A B hk
      have en : meetL (A.take (k + 1)) B = meetL (A.take k) B ++ (B.flatMap fun q => pairM A[k] q) := by unfold meetL; rw [take_next hk, List.flatMap_append, List.flatMap_cons, List.flatMap_nil, List.append_nil]
      have ih := ih (k + 1) (by omega)
      rw [en] at ih
      generalize hpe : A[k] = p at *
      generalize meetL (A.take k) B = s0 at *
      have hm1 : (S s0 ++ [Blk.box 0 37 (pav p)]).length = m + 1 := by rw [List.length_append, H.len]; rfl
      simp only [RB, pickV, eqbV, notV, negV, convV, faddrV, fldV, idxV, eqaggV, iaddrV, isnilV, nilckV, pnilV, cloV, extrV, slenV, minV, sidxV, abin, cmpInt, params, growLists, fillCells, newAt, rdPtr, wrPtr, AV.cells, asVal, lenOf, boundOf, rowsOf, argIds, freshIn, scalar1, setAll, AV.isData, AV.isYld, Nat.reduceAdd, Nat.reduceMul, Nat.reduceSub, Nat.reduceEqDiff, Nat.reduceLeDiff, Nat.reduceLT, Int.reduceNeg, ↓reduceIte, reduceCtorEq, Int.reduceEq, Int.reduceLT, Int.reduceLE, Int.reduceBEq, Int.reduceBNe, Int.reduceToNat, IntKind.bits, Int.reduceAdd, Int.reduceSub, Int.reduceMul, Int.reduceTDiv, Int.reduceTMod, DB, R7B, List.length_append, f1, f2, f6, g1, gb, H.len, prows_len]
      refine W_recP2 (ι := Nat) (Q := fun _ x => ∃ ext, x = some ((AV.tup [], ⟨S (meetL A B) ++ ext, [none]⟩) : AV × Hp))
        (M := fun j => [(0, .yld 0), (2, .ptr b 0 0 0), (5, .ptr m 0 0 0), (8, .ro (prows A)), (9, .int .i64 (A.length : Int)), (10, .int .i64 (k : Int)), (14, .ro (prows B)), (15, .int .i64 (B.length : Int)), (16, .int .i64 (j : Int))])
        (H := fun j => ⟨S (s0 ++ (B.take j).flatMap fun q => pairM p q) ++ [.box 0 37 (pav p)], [none]⟩) (μ := fun j => B.length - j) (fun j => ⟨?_, ?_⟩) (fun j jh => ?_) 0 rfl ?_
      · have hb1 : b < m + 1 := by omega
        simp only [List.map_cons, List.map_nil, LPB, hb1, show m < m + 1 by omega, decide_true, Bool.and_self]
      · show belowAll (m + 1) (S _ ++ _) = true
        rw [ball_app, belowAll_mono (by omega) (H.low _)]; simp [LPB]
      · by_cases hj : j < B.length
        · have k1 : (j : Int) < (B.length : Int) := by omega
          have k2 : (0 : Int) ≤ (j : Int) := by omega
          have k6 : IntKind.i64.wrap ((j : Int) + 1) = ((j + 1 : Nat) : Int) := by rw [IntWalk.i64_in _ (by omega)] <;> omega
          have g2 := prows_get B hj
          have jn : ((B.take (j + 1)).flatMap fun q => pairM p q) = ((B.take j).flatMap fun q => pairM p q) ++ pairM p B[j] := by rw [take_next hj, List.flatMap_append, List.flatMap_cons, List.flatMap_nil, List.append_nil]
          have jle : ((B.take (j + 1)).flatMap fun q => pairM p q).length ≤ (B.flatMap fun q => pairM p q).length := by
            conv => rhs; rw [← List.take_append_drop (j + 1) B]
            rw [List.flatMap_append, List.length_append]; omega
          rw [jn, List.length_append] at jle
          have jh := jh (j + 1) (by omega)
          rw [jn] at jh
          have hNN : s0.length + (B.flatMap fun q => pairM p q).length ≤ N := by rw [hsp, List.length_append, List.length_append] at hN; omega
          generalize hqe : B[j] = q at *
          generalize ((B.take j).flatMap fun q => pairM p q) = s1 at *
          have hlw : belowAll (m + 2) [Blk.box 0 37 (pav p), .box 0 37 (pav q)] = true := by simp [LPB]
          have l1 : ∀ s, (S s ++ [Blk.box 0 37 (pav p)]).length = m + 1 := fun s => by rw [List.length_append, H.len]; rfl
          rw [show pairM p q = (if Holds p q then [q] else []) ++ (if Holds q p ∧ p ≠ q then [p] else []) from rfl] at jh jle
          by_cases h1 : Holds p q
          · have hh := H.hd (s0 ++ s1) q [.box 0 37 (pav p), .box 0 37 (pav q)] (by rw [List.length_append]; rw [if_pos h1] at jle; simp only [List.length_append, List.length_singleton] at jle; omega) hlw
            rw [List.append_assoc s0] at hh
            rw [if_pos h1] at jh jle
            by_cases h2 : Holds q p
            · have epq : p = q := holds_anti h1 h2
              subst epq
              rw [if_neg (fun c => c.2 rfl), List.append_nil] at jh
              simp only [RB, pickV, eqbV, notV, negV, convV, faddrV, fldV, idxV, eqaggV, iaddrV, isnilV, nilckV, pnilV, cloV, extrV, slenV, minV, sidxV, abin, cmpInt, params, growLists, fillCells, newAt, rdPtr, wrPtr, AV.cells, asVal, lenOf, boundOf, rowsOf, argIds, freshIn, scalar1, setAll, AV.isData, AV.isYld, Nat.reduceAdd, Nat.reduceMul, Nat.reduceSub, Nat.reduceEqDiff, Nat.reduceLeDiff, Nat.reduceLT, Int.reduceNeg, ↓reduceIte, reduceCtorEq, Int.reduceEq, Int.reduceLT, Int.reduceLE, Int.reduceBEq, Int.reduceBNe, Int.reduceToNat, IntKind.bits, Int.reduceAdd, Int.reduceSub, Int.reduceMul, Int.reduceTDiv, Int.reduceTMod, DB, R7B, List.length_append, List.append_assoc, Nat.add_assoc, k1, k2, k6, g2, H.len, e_prefix_Holds, h1, CR_yld' hy, hh, take_add (H.len _)]
              exact jh
            · rw [if_neg (fun c => h2 c.1), List.append_nil] at jh
              simp only [RB, pickV, eqbV, notV, negV, convV, faddrV, fldV, idxV, eqaggV, iaddrV, isnilV, nilckV, pnilV, cloV, extrV, slenV, minV, sidxV, abin, cmpInt, params, growLists, fillCells, newAt, rdPtr, wrPtr, AV.cells, asVal, lenOf, boundOf, rowsOf, argIds, freshIn, scalar1, setAll, AV.isData, AV.isYld, Nat.reduceAdd, Nat.reduceMul, Nat.reduceSub, Nat.reduceEqDiff, Nat.reduceLeDiff, Nat.reduceLT, Int.reduceNeg, ↓reduceIte, reduceCtorEq, Int.reduceEq, Int.reduceLT, Int.reduceLE, Int.reduceBEq, Int.reduceBNe, Int.reduceToNat, IntKind.bits, Int.reduceAdd, Int.reduceSub, Int.reduceMul, Int.reduceTDiv, Int.reduceTMod, DB, R7B, List.length_append, List.append_assoc, Nat.add_assoc, k1, k2, k6, g2, H.len, e_prefix_Holds, h1, h2, CR_yld' hy, hh, take_add (H.len _)]
              exact jh
          · rw [if_neg h1, List.nil_append] at jh jle
            by_cases h2 : Holds q p ∧ p ≠ q
            · have hh := H.hd (s0 ++ s1) p [.box 0 37 (pav p), .box 0 37 (pav q)] (by rw [List.length_append]; rw [if_pos h2] at jle; simp only [List.length_singleton] at jle; omega) hlw
              rw [List.append_assoc s0] at hh
              rw [if_pos h2] at jh
              obtain ⟨h2, h3⟩ := h2
              simp only [RB, pickV, eqbV, notV, negV, convV, faddrV, fldV, idxV, eqaggV, iaddrV, isnilV, nilckV, pnilV, cloV, extrV, slenV, minV, sidxV, abin, cmpInt, params, growLists, fillCells, newAt, rdPtr, wrPtr, AV.cells, asVal, lenOf, boundOf, rowsOf, argIds, freshIn, scalar1, setAll, AV.isData, AV.isYld, Nat.reduceAdd, Nat.reduceMul, Nat.reduceSub, Nat.reduceEqDiff, Nat.reduceLeDiff, Nat.reduceLT, Int.reduceNeg, ↓reduceIte, reduceCtorEq, Int.reduceEq, Int.reduceLT, Int.reduceLE, Int.reduceBEq, Int.reduceBNe, Int.reduceToNat, IntKind.bits, Int.reduceAdd, Int.reduceSub, Int.reduceMul, Int.reduceTDiv, Int.reduceTMod, DB, R7B, List.length_append, List.append_assoc, Nat.add_assoc, k1, k2, k6, g2, H.len, e_prefix_Holds, h1, h2, h3, CR_yld' hy, hh, take_add (H.len _)]
              exact jh
            · rw [if_neg h2, List.append_nil] at jh
              by_cases h3 : Holds q p
              · have epq : p = q := Classical.byContradiction fun c => h2 ⟨h3, c⟩
                subst epq
                exact absurd h3 h1
              · simp only [RB, pickV, eqbV, notV, negV, convV, faddrV, fldV, idxV, eqaggV, iaddrV, isnilV, nilckV, pnilV, cloV, extrV, slenV, minV, sidxV, abin, cmpInt, params, growLists, fillCells, newAt, rdPtr, wrPtr, AV.cells, asVal, lenOf, boundOf, rowsOf, argIds, freshIn, scalar1, setAll, AV.isData, AV.isYld, Nat.reduceAdd, Nat.reduceMul, Nat.reduceSub, Nat.reduceEqDiff, Nat.reduceLeDiff, Nat.reduceLT, Int.reduceNeg, ↓reduceIte, reduceCtorEq, Int.reduceEq, Int.reduceLT, Int.reduceLE, Int.reduceBEq, Int.reduceBNe, Int.reduceToNat, IntKind.bits, Int.reduceAdd, Int.reduceSub, Int.reduceMul, Int.reduceTDiv, Int.reduceTMod, DB, R7B, List.length_append, List.append_assoc, Nat.add_assoc, k1, k2, k6, g2, H.len, e_prefix_Holds, h1, h3, take_add (H.len _)]
                exact jh
        · have ej : B.take j = B := List.take_of_length_le (by omega)
          rw [ej]
          simp only [RB, pickV, eqbV, notV, negV, convV, faddrV, fldV, idxV, eqaggV, iaddrV, isnilV, nilckV, pnilV, cloV, extrV, slenV, minV, sidxV, abin, cmpInt, params, growLists, fillCells, newAt, rdPtr, wrPtr, AV.cells, asVal, lenOf, boundOf, rowsOf, argIds, freshIn, scalar1, setAll, AV.isData, AV.isYld, Nat.reduceAdd, Nat.reduceMul, Nat.reduceSub, Nat.reduceEqDiff, Nat.reduceLeDiff, Nat.reduceLT, Int.reduceNeg, ↓reduceIte, reduceCtorEq, Int.reduceEq, Int.reduceLT, Int.reduceLE, Int.reduceBEq, Int.reduceBNe, Int.reduceToNat, IntKind.bits, Int.reduceAdd, Int.reduceSub, Int.reduceMul, Int.reduceTDiv, Int.reduceTMod, DB, R7B, f6, show ¬ (j : Int) < (B.length : Int) by omega, take_at (H.len _)]
          exact ih
      · simp
    · simp only [RB, pickV, eqbV, notV, negV, convV, faddrV, fldV, idxV, eqaggV, iaddrV, isnilV, nilckV, pnilV, cloV, extrV, slenV, minV, sidxV, abin, cmpInt, params, growLists, fillCells, newAt, rdPtr, wrPtr, AV.cells, asVal, lenOf, boundOf, rowsOf, argIds, freshIn, scalar1, setAll, AV.isData, AV.isYld, Nat.reduceAdd, Nat.reduceMul, Nat.reduceSub, Nat.reduceEqDiff, Nat.reduceLeDiff, Nat.reduceLT, Int.reduceNeg, ↓reduceIte, reduceCtorEq, Int.reduceEq, Int.reduceLT, Int.reduceLE, Int.reduceBEq, Int.reduceBNe, Int.reduceToNat, IntKind.bits, Int.reduceAdd, Int.reduceSub, Int.reduceMul, Int.reduceTDiv, Int.reduceTMod, R7B, show ¬ (k : Int) < (A.length : Int) by omega, List.take_of_length_le (show A.length ≤ k by omega)]
      exact ⟨[], by rw [List.append_nil]⟩
end Go.Proofs.YtnpdaegfmfkghaaDoor.F

/- Unions, meets and rests of two rows; who lies within whom. No condition. -/
set_option linter.unusedSimpArgs false
namespace Go.Proofs.YtnpdaegfmfkghaaDoor.F
open Go Go.Proofs.YtnpdaegfmfkghaaDoor.A Go.Proofs.YtnpdaegfmfkghaaDoor.D
theorem bindE {α β : Type} {x : Option α} {F : α → Option β} {y : Option β} {a : α} (h : x = some a) (h2 : F a = y) : x.bind F = y := by rw [h]; exact h2
theorem bindEx {α β γ : Type} {x : Option α} {F : α → Option β} {y : Option β} {a : γ → α} (h : ∃ e, x = some (a e)) (h2 : ∀ e, F (a e) = y) : x.bind F = y := by
  obtain ⟨e, rfl⟩ := h; exact h2 e
theorem take_len2 {l r : List Blk} {n k : Nat} (h : l.length = n) : (l ++ r).take (n + k) = l ++ r.take k := take_add h
theorem r64 {g : FuncId} {caps : List AV} {l : List Pfx} {bs : List Blk} (hg : E.prim g = none) (hT : Tells g caps l bs) (hl : l.length ≤ 1000000000) (hlow : belowAll bs.length bs = true) (hc : belowL bs.length caps = true) :
    ∃ ext, LR E [] 64 [.clo g caps] ⟨bs, []⟩ = some (.lis (bs.length + 2) l.length 0 l.length, ⟨bs ++ ext, []⟩) ∧ (bs ++ ext)[bs.length + 2]? = some (.lst 0 l.length 37 18 (prows l)) ∧ belowAll (bs ++ ext).length (bs ++ ext) = true := by
  rw [LR_R (fn := f64) rfl rfl rfl]
  simp only [f64, RB, pickV, eqbV, notV, negV, convV, faddrV, fldV, idxV, eqaggV, iaddrV, isnilV, nilckV, pnilV, cloV, extrV, slenV, minV, sidxV, abin, cmpInt, params, growLists, fillCells, newAt, rdPtr, wrPtr, AV.cells, asVal, lenOf, boundOf, rowsOf, argIds, freshIn, scalar1, setAll, AV.isData, AV.isYld, Nat.reduceAdd, Nat.reduceMul, Nat.reduceSub, Nat.reduceEqDiff, Nat.reduceLeDiff, Nat.reduceLT, Int.reduceNeg, ↓reduceIte, reduceCtorEq, Int.reduceEq, Int.reduceLT, Int.reduceLE, Int.reduceBEq, Int.reduceBNe, Int.reduceToNat, IntKind.bits, Int.reduceAdd, Int.reduceSub, Int.reduceMul, Int.reduceTDiv, Int.reduceTMod, DB, R7B, List.append_assoc, List.length_append, Nat.add_assoc]
  rw [R_range (g := g) (caps := caps) (by simp only [RB, pickV, eqbV, notV, negV, convV, faddrV, fldV, idxV, eqaggV, iaddrV, isnilV, nilckV, pnilV, cloV, extrV, slenV, minV, sidxV, abin, cmpInt, params, growLists, fillCells, newAt, rdPtr, wrPtr, AV.cells, asVal, lenOf, boundOf, rowsOf, argIds, freshIn, scalar1, setAll, AV.isData, AV.isYld, Nat.reduceAdd, Nat.reduceMul, Nat.reduceSub, Nat.reduceEqDiff, Nat.reduceLeDiff, Nat.reduceLT, Int.reduceNeg, ↓reduceIte, reduceCtorEq, Int.reduceEq, Int.reduceLT, Int.reduceLE, Int.reduceBEq, Int.reduceBNe, Int.reduceToNat, IntKind.bits, Int.reduceAdd, Int.reduceSub, Int.reduceMul, Int.reduceTDiv, Int.reduceTMod]) hg]
  simp only [RB, pickV, eqbV, notV, negV, convV, faddrV, fldV, idxV, eqaggV, iaddrV, isnilV, nilckV, pnilV, cloV, extrV, slenV, minV, sidxV, abin, cmpInt, params, growLists, fillCells, newAt, rdPtr, wrPtr, AV.cells, asVal, lenOf, boundOf, rowsOf, argIds, freshIn, scalar1, setAll, AV.isData, AV.isYld, Nat.reduceAdd, Nat.reduceMul, Nat.reduceSub, Nat.reduceEqDiff, Nat.reduceLeDiff, Nat.reduceLT, Int.reduceNeg, ↓reduceIte, reduceCtorEq, Int.reduceEq, Int.reduceLT, Int.reduceLE, Int.reduceBEq, Int.reduceBNe, Int.reduceToNat, IntKind.bits, Int.reduceAdd, Int.reduceSub, Int.reduceMul, Int.reduceTDiv, Int.reduceTMod, R7B, List.length_append]
  have lB : ∀ (a b c : Blk) (ext : List Blk), (bs ++ a :: b :: c :: ext).length = bs.length + (ext.length + 3) := fun a b c ext => by simp
  have wB : ∀ n, bs.length ≤ n → belowAll n bs = true := fun n h => belowAll_mono h hlow
  refine ⟨[.lst 0 0 37 18 [], .box 0 24 [.lis (bs.length + 2) l.length 0 l.length], .lst 0 l.length 37 18 (prows l)], ?_, rfl, ?_⟩
  · refine bindEx (a := fun e => ((AV.tup [], ⟨(bs ++ [.lst 0 0 37 18 [], .box 0 24 [.lis (bs.length + 2) l.length 0 l.length], .lst 0 l.length 37 18 (prows l)]) ++ e, [none]⟩) : AV × Hp))
      (hT (S := fun s => bs ++ [.lst 0 0 37 18 [], .box 0 24 [.lis (bs.length + 2) s.length 0 s.length], .lst 0 s.length 37 18 (prows s)]) (m := bs.length + 3) (N := 1000000000) ⟨fun s => by simp, fun s => ?_, fun s p ext hs he => ?_⟩ (fun s => ⟨_, rfl⟩) hl) (fun e => ?_)
    · have f1 : bs.length + 2 < bs.length + 3 := by omega
      rw [ball_app, wB _ (by omega)]; simp [LPB, f1]
    · simp only [List.append_assoc, List.cons_append, List.nil_append]
      rw [handler_run rfl rfl]
      have f7 : (s.length + 1) * 32 ≤ 140737488355328 := by omega
      have f8 : s.length + 1 ≤ 4611686018427387904 := by omega
      have fh : headFits 18 [pav p] = true := by simp [headFits, pav_len]
      have tF : (prows s).take s.length = prows s := by rw [prows_take, List.take_length]
      simp only [RB, pickV, eqbV, notV, negV, convV, faddrV, fldV, idxV, eqaggV, iaddrV, isnilV, nilckV, pnilV, cloV, extrV, slenV, minV, sidxV, abin, cmpInt, params, growLists, fillCells, newAt, rdPtr, wrPtr, AV.cells, asVal, lenOf, boundOf, rowsOf, argIds, freshIn, scalar1, setAll, AV.isData, AV.isYld, Nat.reduceAdd, Nat.reduceMul, Nat.reduceSub, Nat.reduceEqDiff, Nat.reduceLeDiff, Nat.reduceLT, Int.reduceNeg, ↓reduceIte, reduceCtorEq, Int.reduceEq, Int.reduceLT, Int.reduceLE, Int.reduceBEq, Int.reduceBNe, Int.reduceToNat, IntKind.bits, Int.reduceAdd, Int.reduceSub, Int.reduceMul, Int.reduceTDiv, Int.reduceTMod, DB, R7B, O_buildSlq, quietOk, aop_buildSl, fillRows, asData, aappend, List.append_assoc, List.length_append, Nat.add_assoc, f7, f8, fh, tF, prows_len, Nat.le_refl, lB, ← prows_snoc]
      have sh : ∀ (a b c : Blk) (X : List Blk), a.refsLt (bs.length + 3) = true → b.refsLt (bs.length + 3) = true → c.refsLt (bs.length + 3) = true → shrink false (bs.length + (ext.length + 3)) .undef ⟨bs ++ a :: b :: c :: (ext ++ X), []⟩ = some ⟨bs ++ a :: b :: c :: ext, []⟩ := fun a b c X ha hb hc => by
        rw [show bs ++ a :: b :: c :: (ext ++ X) = (bs ++ a :: b :: c :: ext) ++ X by simp]
        refine shrink_app (lB a b c ext) rfl ?_
        rw [ball_app, wB _ (by omega), ball_cons, ball_cons, ball_cons, Blk.refsLt_mono (by omega) a ha, Blk.refsLt_mono (by omega) b hb, Blk.refsLt_mono (by omega) c hc, belowAll_mono (by omega) he]; rfl
      rw [sh _ _ _ _ rfl (by simp [LPB]) rfl]; rfl
    · have hsh : shrink false (bs.length + 3) .undef ⟨bs ++ [Blk.lst 0 0 37 18 [], Blk.box 0 24 [AV.lis (bs.length + 2) l.length 0 l.length], Blk.lst 0 l.length 37 18 (prows l)] ++ e, []⟩ = some ⟨bs ++ [Blk.lst 0 0 37 18 [], Blk.box 0 24 [AV.lis (bs.length + 2) l.length 0 l.length], Blk.lst 0 l.length 37 18 (prows l)], []⟩ := by
        refine shrink_app (by simp) rfl ?_
        rw [ball_app, wB _ (by omega)]; simp [LPB]
      simp only [List.getElem?_cons_zero, RG, hsh]
      simp only [RB, pickV, eqbV, notV, negV, convV, faddrV, fldV, idxV, eqaggV, iaddrV, isnilV, nilckV, pnilV, cloV, extrV, slenV, minV, sidxV, abin, cmpInt, params, growLists, fillCells, newAt, rdPtr, wrPtr, AV.cells, asVal, lenOf, boundOf, rowsOf, argIds, freshIn, scalar1, setAll, AV.isData, AV.isYld, Nat.reduceAdd, Nat.reduceMul, Nat.reduceSub, Nat.reduceEqDiff, Nat.reduceLeDiff, Nat.reduceLT, Int.reduceNeg, ↓reduceIte, reduceCtorEq, Int.reduceEq, Int.reduceLT, Int.reduceLE, Int.reduceBEq, Int.reduceBNe, Int.reduceToNat, IntKind.bits, Int.reduceAdd, Int.reduceSub, Int.reduceMul, Int.reduceTDiv, Int.reduceTMod, DB, R7B]
  · have f1 : bs.length + 2 < bs.length + 3 := by omega
    rw [ball_app, wB _ (by omega)]; simp [LPB]
theorem r43 {bs : List Blk} {v : AV} (hv : ∀ x, v.cells = some [x] → True) {id g n : Nat} (e : v = .lis id g 0 n) : LR E [] 43 [v] ⟨bs, []⟩ = some (.clo 65 [.ptr bs.length 0 0 0], ⟨bs ++ [.box 0 24 [v]], []⟩) := by
  subst e
  rw [LR_R (fn := f43) rfl rfl rfl]
  simp only [f43, RB, pickV, eqbV, notV, negV, convV, faddrV, fldV, idxV, eqaggV, iaddrV, isnilV, nilckV, pnilV, cloV, extrV, slenV, minV, sidxV, abin, cmpInt, params, growLists, fillCells, newAt, rdPtr, wrPtr, AV.cells, asVal, lenOf, boundOf, rowsOf, argIds, freshIn, scalar1, setAll, AV.isData, AV.isYld, Nat.reduceAdd, Nat.reduceMul, Nat.reduceSub, Nat.reduceEqDiff, Nat.reduceLeDiff, Nat.reduceLT, Int.reduceNeg, ↓reduceIte, reduceCtorEq, Int.reduceEq, Int.reduceLT, Int.reduceLE, Int.reduceBEq, Int.reduceBNe, Int.reduceToNat, IntKind.bits, Int.reduceAdd, Int.reduceSub, Int.reduceMul, Int.reduceTDiv, Int.reduceTMod, DB, R7B, List.append_assoc, List.length_append, Nat.add_assoc]
theorem r44 {bs : List Blk} {a b : Nat} : LR E [] 44 [.ptr a 0 0 0, .ptr b 0 0 0] ⟨bs, []⟩ = some (.clo 45 [.ptr a 0 0 0, .ptr b 0 0 0], ⟨bs, []⟩) := by
  rw [LR_R (fn := f44) rfl rfl rfl]
  simp only [f44, RB, pickV, eqbV, notV, negV, convV, faddrV, fldV, idxV, eqaggV, iaddrV, isnilV, nilckV, pnilV, cloV, extrV, slenV, minV, sidxV, abin, cmpInt, params, growLists, fillCells, newAt, rdPtr, wrPtr, AV.cells, asVal, lenOf, boundOf, rowsOf, argIds, freshIn, scalar1, setAll, AV.isData, AV.isYld, Nat.reduceAdd, Nat.reduceMul, Nat.reduceSub, Nat.reduceEqDiff, Nat.reduceLeDiff, Nat.reduceLT, Int.reduceNeg, ↓reduceIte, reduceCtorEq, Int.reduceEq, Int.reduceLT, Int.reduceLE, Int.reduceBEq, Int.reduceBNe, Int.reduceToNat, IntKind.bits, Int.reduceAdd, Int.reduceSub, Int.reduceMul, Int.reduceTDiv, Int.reduceTMod, R7B]
theorem r46 {bs : List Blk} {a b : Nat} : LR E [] 46 [.ptr a 0 0 0, .ptr b 0 0 0] ⟨bs, []⟩ = some (.clo 47 [.ptr a 0 0 0, .ptr b 0 0 0], ⟨bs, []⟩) := by
  rw [LR_R (fn := f46) rfl rfl rfl]
  simp only [f46, RB, pickV, eqbV, notV, negV, convV, faddrV, fldV, idxV, eqaggV, iaddrV, isnilV, nilckV, pnilV, cloV, extrV, slenV, minV, sidxV, abin, cmpInt, params, growLists, fillCells, newAt, rdPtr, wrPtr, AV.cells, asVal, lenOf, boundOf, rowsOf, argIds, freshIn, scalar1, setAll, AV.isData, AV.isYld, Nat.reduceAdd, Nat.reduceMul, Nat.reduceSub, Nat.reduceEqDiff, Nat.reduceLeDiff, Nat.reduceLT, Int.reduceNeg, ↓reduceIte, reduceCtorEq, Int.reduceEq, Int.reduceLT, Int.reduceLE, Int.reduceBEq, Int.reduceBNe, Int.reduceToNat, IntKind.bits, Int.reduceAdd, Int.reduceSub, Int.reduceMul, Int.reduceTDiv, Int.reduceTMod, R7B]
theorem r42 {bs : List Blk} {a b lk lk' e e' : Nat} {A B : List Pfx} (hA : A.length ≤ 1000000) (hB : B.length ≤ 1000000) (hao : Oks A) (hbo : Oks B) (ha : bs[a]? = some (.box lk e [.ro (prows A)])) (hb : bs[b]? = some (.box lk' e' [.ro (prows B)])) :
    LR E [] 42 [.ptr a 0 0 0, .ptr b 0 0 0] ⟨bs, []⟩ = some (.clo 65 [.ptr (bs.length + 2) 0 0 0], ⟨bs ++ [.dead, .lst 0 0 37 18 (prows (oneL (A ++ B))), .box 0 24 [.lis (bs.length + 1) 0 0 (oneL (A ++ B)).length]], []⟩) := by
  have g1 : ∀ r, (bs ++ r)[a]? = some (.box lk e [.ro (prows A)]) := fun r => get_lt ha
  have g2 : ∀ r, (bs ++ r)[b]? = some (.box lk' e' [.ro (prows B)]) := fun r => get_lt hb
  have h33 := e33 [A, B] (by simp) (by simp; omega) (by
    intro p hp
    simp at hp
    rcases hp with h | h
    · exact hao p h
    · exact hbo p h)
  simp only [xr2, List.flatten_cons, List.flatten_nil, List.append_nil] at h33
  rw [LR_R (fn := f42) rfl rfl rfl]
  have h43 := r43 (bs := bs ++ [.dead, .lst 0 0 37 18 (prows (oneL (A ++ B)))]) (v := .lis (bs.length + 1) 0 0 (oneL (A ++ B)).length) (fun _ _ => trivial) rfl
  simp only [List.append_assoc, List.length_append, List.cons_append, List.nil_append, List.length_cons, List.length_nil, Nat.zero_add] at h43
  simp only [f42, RB, pickV, eqbV, notV, negV, convV, faddrV, fldV, idxV, eqaggV, iaddrV, isnilV, nilckV, pnilV, cloV, extrV, slenV, minV, sidxV, abin, cmpInt, params, growLists, fillCells, newAt, rdPtr, wrPtr, AV.cells, asVal, lenOf, boundOf, rowsOf, argIds, freshIn, scalar1, setAll, AV.isData, AV.isYld, Nat.reduceAdd, Nat.reduceMul, Nat.reduceSub, Nat.reduceEqDiff, Nat.reduceLeDiff, Nat.reduceLT, Int.reduceNeg, ↓reduceIte, reduceCtorEq, Int.reduceEq, Int.reduceLT, Int.reduceLE, Int.reduceBEq, Int.reduceBNe, Int.reduceToNat, IntKind.bits, Int.reduceAdd, Int.reduceSub, Int.reduceMul, Int.reduceTDiv, Int.reduceTMod, DB, R7B, O_buildSlq, quietOk, aop_buildSl, fillRows, asData, aappend, g1, g2, h33, List.append_assoc, List.length_append, Nat.add_assoc, prows_len, h43]
end Go.Proofs.YtnpdaegfmfkghaaDoor.F

/- Unions, meets and rests of two rows, as calls; who lies within whom. No condition. -/
set_option linter.unusedSimpArgs false
namespace Go.Proofs.YtnpdaegfmfkghaaDoor.D
open Go Go.Proofs.YtnpdaegfmfkghaaDoor.A
def bothS (A B L : List Pfx) : List Pfx × Int := if chkB A = true then (if chkB B = true then (if 300 < (oneL L).length then ([], 6) else (oneL L, 0)) else ([], 340)) else ([], 340)
end Go.Proofs.YtnpdaegfmfkghaaDoor.D
namespace Go.Proofs.YtnpdaegfmfkghaaDoor.F
open Go Go.Proofs.YtnpdaegfmfkghaaDoor.A Go.Proofs.YtnpdaegfmfkghaaDoor.D
theorem r41 {bs : List Blk} {A B L : List Pfx} {g0 : FuncId} {caps0 : List AV} (hA : A.length ≤ 1000000) (hB : B.length ≤ 1000000) (hlow : belowAll bs.length bs = true) (hc : belowL bs.length caps0 = true)
    (hL : chkB A = true → chkB B = true → L.length ≤ 1000000000 ∧ Oks L ∧ ∀ r, belowAll (bs ++ r).length (bs ++ r) = true → ∃ g caps e, LR E [] g0 caps0 ⟨bs ++ r, []⟩ = some (.clo g caps, ⟨bs ++ (r ++ e), []⟩) ∧ E.prim g = none ∧ belowAll (bs ++ (r ++ e)).length (bs ++ (r ++ e)) = true ∧ belowL (bs ++ (r ++ e)).length caps = true ∧ Tells g caps L (bs ++ (r ++ e))) :
    ∃ id r, LR E [] 41 [.ro (prows A), .ro (prows B), .clo g0 caps0] ⟨bs, []⟩ = some (.tup [.lis id 0 0 (bothS A B L).1.length, .int .i64 (bothS A B L).2], ⟨r, []⟩) ∧ r[id]? = some (.lst 0 0 37 18 (prows (bothS A B L).1)) := by
  rw [LR_R (fn := f41) rfl rfl rfl]
  have ho : ovr [.ro (prows A), .clip []] 1 [.ro (prows B)] = some [.ro (prows A), .ro (prows B)] := rfl
  simp only [f41, RB, pickV, eqbV, notV, negV, convV, faddrV, fldV, idxV, eqaggV, iaddrV, isnilV, nilckV, pnilV, cloV, extrV, slenV, minV, sidxV, abin, cmpInt, params, growLists, fillCells, newAt, rdPtr, wrPtr, AV.cells, asVal, lenOf, boundOf, rowsOf, argIds, freshIn, scalar1, setAll, AV.isData, AV.isYld, Nat.reduceAdd, Nat.reduceMul, Nat.reduceSub, Nat.reduceEqDiff, Nat.reduceLeDiff, Nat.reduceLT, Int.reduceNeg, ↓reduceIte, reduceCtorEq, Int.reduceEq, Int.reduceLT, Int.reduceLE, Int.reduceBEq, Int.reduceBNe, Int.reduceToNat, IntKind.bits, Int.reduceAdd, Int.reduceSub, Int.reduceMul, Int.reduceTDiv, Int.reduceTMod, DB, R7B, List.append_assoc, List.length_append, Nat.add_assoc, ho]
  refine W_recP2 (ι := {k : Nat // k = 0 ∨ (k = 1 ∧ chkB A = true) ∨ (k = 2 ∧ chkB A = true ∧ chkB B = true)})
    (Q := fun _ x => ∃ id r, x = some ((AV.tup [.lis id 0 0 (bothS A B L).1.length, .int .i64 (bothS A B L).2], ⟨r, []⟩) : AV × Hp) ∧ r[id]? = some (.lst 0 0 37 18 (prows (bothS A B L).1)))
    (M := fun k => [(2, .clo g0 caps0), (14, .agg [.ro (prows A), .ro (prows B)]), (15, .int .i64 (k.1 : Int))]) (H := fun _ => ⟨bs ++ [.lst 0 0 37 18 []], []⟩) (μ := fun k => 2 - k.1) (fun k => ⟨?_, ?_⟩) (fun k kh => ?_) ⟨0, .inl rfl⟩ rfl rfl
  · simp only [List.map_cons, List.map_nil, LPB, belowL_mono (show bs.length ≤ bs.length + 1 by omega) _ hc, Bool.and_self]
  · rw [ball_app, belowAll_mono (by omega) hlow]; simp [LPB]
  · obtain ⟨k, hk⟩ := k
    simp only at kh ⊢
    have tk : (bs ++ [Blk.lst 0 0 37 18 []]).take (bs.length + 1) = bs ++ [Blk.lst 0 0 37 18 []] := List.take_of_length_le (by simp)
    have hfail : ∀ X : List Blk, (bs ++ Blk.lst 0 0 37 18 [] :: X)[bs.length + 1]? = X[0]? := fun X => by rw [get_add rfl]; rfl
    rcases hk with rfl | ⟨rfl, h1⟩ | ⟨rfl, h1, h2⟩
    · have h16 := e16 A (by omega)
      by_cases h1 : chkB A = true
      · rw [if_pos h1] at h16
        have kh := kh ⟨1, .inr (.inl ⟨rfl, h1⟩)⟩ (by simp)
        simp only at kh
        simp only [RB, pickV, eqbV, notV, negV, convV, faddrV, fldV, idxV, eqaggV, iaddrV, isnilV, nilckV, pnilV, cloV, extrV, slenV, minV, sidxV, abin, cmpInt, params, growLists, fillCells, newAt, rdPtr, wrPtr, AV.cells, asVal, lenOf, boundOf, rowsOf, argIds, freshIn, scalar1, setAll, AV.isData, AV.isYld, Nat.reduceAdd, Nat.reduceMul, Nat.reduceSub, Nat.reduceEqDiff, Nat.reduceLeDiff, Nat.reduceLT, Int.reduceNeg, ↓reduceIte, reduceCtorEq, Int.reduceEq, Int.reduceLT, Int.reduceLE, Int.reduceBEq, Int.reduceBNe, Int.reduceToNat, IntKind.bits, Int.reduceAdd, Int.reduceSub, Int.reduceMul, Int.reduceTDiv, Int.reduceTMod, DB, R7B, h16, show ((0 : Nat) : Int) < 2 by decide, show ((0 : Nat) : Int).toNat = 0 from rfl, piece, bne_self_eq_false, IntWalk.i64_in, tk]
        exact kh
      · rw [if_neg h1] at h16
        have e : bothS A B L = ([], 340) := by unfold bothS; rw [if_neg h1]
        rw [e]
        simp only [RB, pickV, eqbV, notV, negV, convV, faddrV, fldV, idxV, eqaggV, iaddrV, isnilV, nilckV, pnilV, cloV, extrV, slenV, minV, sidxV, abin, cmpInt, params, growLists, fillCells, newAt, rdPtr, wrPtr, AV.cells, asVal, lenOf, boundOf, rowsOf, argIds, freshIn, scalar1, setAll, AV.isData, AV.isYld, Nat.reduceAdd, Nat.reduceMul, Nat.reduceSub, Nat.reduceEqDiff, Nat.reduceLeDiff, Nat.reduceLT, Int.reduceNeg, ↓reduceIte, reduceCtorEq, Int.reduceEq, Int.reduceLT, Int.reduceLE, Int.reduceBEq, Int.reduceBNe, Int.reduceToNat, IntKind.bits, Int.reduceAdd, Int.reduceSub, Int.reduceMul, Int.reduceTDiv, Int.reduceTMod, DB, R7B, h16, show ((0 : Nat) : Int) < 2 by decide, show ((0 : Nat) : Int).toNat = 0 from rfl, piece, show ((340 : Int) != 0) = true from rfl, List.append_assoc, List.length_append, Nat.add_assoc, hfail]
        exact ⟨_, _, rfl, by rw [hfail]; rfl⟩
    · have h16 := e16 B (by omega)
      by_cases h2 : chkB B = true
      · rw [if_pos h2] at h16
        have kh := kh ⟨2, .inr (.inr ⟨rfl, h1, h2⟩)⟩ (by simp)
        simp only at kh
        simp only [RB, pickV, eqbV, notV, negV, convV, faddrV, fldV, idxV, eqaggV, iaddrV, isnilV, nilckV, pnilV, cloV, extrV, slenV, minV, sidxV, abin, cmpInt, params, growLists, fillCells, newAt, rdPtr, wrPtr, AV.cells, asVal, lenOf, boundOf, rowsOf, argIds, freshIn, scalar1, setAll, AV.isData, AV.isYld, Nat.reduceAdd, Nat.reduceMul, Nat.reduceSub, Nat.reduceEqDiff, Nat.reduceLeDiff, Nat.reduceLT, Int.reduceNeg, ↓reduceIte, reduceCtorEq, Int.reduceEq, Int.reduceLT, Int.reduceLE, Int.reduceBEq, Int.reduceBNe, Int.reduceToNat, IntKind.bits, Int.reduceAdd, Int.reduceSub, Int.reduceMul, Int.reduceTDiv, Int.reduceTMod, DB, R7B, h16, show ((1 : Nat) : Int) < 2 by decide, show ((1 : Nat) : Int).toNat = 1 from rfl, piece, bne_self_eq_false, tk]
        exact kh
      · rw [if_neg h2] at h16
        have e : bothS A B L = ([], 340) := by unfold bothS; rw [if_pos h1, if_neg h2]
        rw [e]
        simp only [RB, pickV, eqbV, notV, negV, convV, faddrV, fldV, idxV, eqaggV, iaddrV, isnilV, nilckV, pnilV, cloV, extrV, slenV, minV, sidxV, abin, cmpInt, params, growLists, fillCells, newAt, rdPtr, wrPtr, AV.cells, asVal, lenOf, boundOf, rowsOf, argIds, freshIn, scalar1, setAll, AV.isData, AV.isYld, Nat.reduceAdd, Nat.reduceMul, Nat.reduceSub, Nat.reduceEqDiff, Nat.reduceLeDiff, Nat.reduceLT, Int.reduceNeg, ↓reduceIte, reduceCtorEq, Int.reduceEq, Int.reduceLT, Int.reduceLE, Int.reduceBEq, Int.reduceBNe, Int.reduceToNat, IntKind.bits, Int.reduceAdd, Int.reduceSub, Int.reduceMul, Int.reduceTDiv, Int.reduceTMod, DB, R7B, h16, show ((1 : Nat) : Int) < 2 by decide, show ((1 : Nat) : Int).toNat = 1 from rfl, piece, show ((340 : Int) != 0) = true from rfl, List.append_assoc, List.length_append, Nat.add_assoc, hfail]
        exact ⟨_, _, rfl, by rw [hfail]; rfl⟩
    · clear kh
      obtain ⟨hLl, hLo, hdo⟩ := hL h1 h2
      obtain ⟨g, caps, e, hr, hg, hlw, hcl, hT⟩ := hdo [.lst 0 0 37 18 [], .dead, .dead] (by rw [ball_app, belowAll_mono (by simp) hlow]; rfl)
      obtain ⟨ext, h64, hat, hlw2⟩ := r64 hg hT hLl hlw hcl
      have h33 := e33' L hLl hLo
      clear hlw2 hlw hcl hT
      obtain ⟨X, hX⟩ : ∃ X, X = bs ++ ([.lst 0 0 37 18 [], .dead, .dead] ++ e) := ⟨_, rfl⟩
      have hXl : bs.length + 3 ≤ X.length := by rw [hX]; simp
      have hXd : ∀ r, (X ++ r)[bs.length + 2]? = some .dead := fun r => by
        rw [hX, List.append_assoc, get_add rfl]; rfl
      rw [← hX] at hr h64 hat
      have hsl := hXd ext
      obtain ⟨Y, hY⟩ : ∃ Y, Y = X ++ ext := ⟨_, rfl⟩
      rw [← hY] at h64 hat hsl
      obtain ⟨idx, hidx⟩ : ∃ idx, idx = X.length + 2 := ⟨_, rfl⟩
      rw [← hidx] at h64 hat
      have hne : idx ≠ bs.length + 2 := by omega
      have q2 := lockAt_of hat
      have q3 : (Y.set idx (.lst 2 L.length 37 18 (prows L)))[bs.length + 2]? = some .dead := by rw [List.getElem?_set_ne hne]; exact hsl
      have hYl : bs.length + 2 < Y.length := (List.getElem?_eq_some_iff.1 hsl).1
      have tL : (prows L).take L.length = prows L := by rw [prows_take, List.take_length]
      have tO : ∀ l : List Pfx, (prows l).take l.length = prows l := fun l => by rw [prows_take, List.take_length]
      have q5 : toDataL Y [.lis idx L.length 0 L.length] = some ([.ro (prows L)], Y.set idx (.lst 2 L.length 37 18 (prows L))) := by
        simp [toDataL, toData, rowsOf, hat, q2, prows_len, tL]
      have z2 : ¬ ((2 : Nat) : Int) < 2 := by decide
      have q4 : ((Y.set idx (.lst 2 L.length 37 18 (prows L))).set (bs.length + 2) (.lst 0 0 37 18 (prows (oneL L))))[bs.length + 2]? = some (.lst 0 0 37 18 (prows (oneL L))) := by
        rw [List.getElem?_set_self (by simpa using hYl)]
      have hlen : 300 < (oneL L).length ∨ (oneL L).length ≤ 300 := by omega
      rcases hlen with hbig | hok
      · have e : bothS A B L = ([], 6) := by unfold bothS; rw [if_pos h1, if_pos h2, if_pos hbig]
        have f1 : (300 : Int) < ((oneL L).length : Int) := by omega
        rw [e]
        simp only [RB, pickV, eqbV, notV, negV, convV, faddrV, fldV, idxV, eqaggV, iaddrV, isnilV, nilckV, pnilV, cloV, extrV, slenV, minV, sidxV, abin, cmpInt, params, growLists, fillCells, newAt, rdPtr, wrPtr, AV.cells, asVal, lenOf, boundOf, rowsOf, argIds, freshIn, scalar1, setAll, AV.isData, AV.isYld, Nat.reduceAdd, Nat.reduceMul, Nat.reduceSub, Nat.reduceEqDiff, Nat.reduceLeDiff, Nat.reduceLT, Int.reduceNeg, ↓reduceIte, reduceCtorEq, Int.reduceEq, Int.reduceLT, Int.reduceLE, Int.reduceBEq, Int.reduceBNe, Int.reduceToNat, IntKind.bits, Int.reduceAdd, Int.reduceSub, Int.reduceMul, Int.reduceTDiv, Int.reduceTMod, DB, R7B, O_buildSlq, quietOk, aop_buildSl, fillRows, asData, aappend, List.append_assoc, List.length_append, Nat.add_assoc, z2, hr, h64, shrink_true, hat, prows_len, tL, q5, h33, q3, f1]
        refine ⟨_, _, rfl, ?_⟩
        rw [List.getElem?_append_right (by simp)]
        simp [prows]
      · have e : bothS A B L = (oneL L, 0) := by unfold bothS; rw [if_pos h1, if_pos h2, if_neg (by omega)]
        have f1 : ¬ (300 : Int) < ((oneL L).length : Int) := by omega
        rw [e]
        simp only [RB, pickV, eqbV, notV, negV, convV, faddrV, fldV, idxV, eqaggV, iaddrV, isnilV, nilckV, pnilV, cloV, extrV, slenV, minV, sidxV, abin, cmpInt, params, growLists, fillCells, newAt, rdPtr, wrPtr, AV.cells, asVal, lenOf, boundOf, rowsOf, argIds, freshIn, scalar1, setAll, AV.isData, AV.isYld, Nat.reduceAdd, Nat.reduceMul, Nat.reduceSub, Nat.reduceEqDiff, Nat.reduceLeDiff, Nat.reduceLT, Int.reduceNeg, ↓reduceIte, reduceCtorEq, Int.reduceEq, Int.reduceLT, Int.reduceLE, Int.reduceBEq, Int.reduceBNe, Int.reduceToNat, IntKind.bits, Int.reduceAdd, Int.reduceSub, Int.reduceMul, Int.reduceTDiv, Int.reduceTMod, DB, R7B, O_buildSlq, quietOk, aop_buildSl, fillRows, asData, aappend, List.append_assoc, List.length_append, Nat.add_assoc, z2, hr, h64, shrink_true, hat, prows_len, tL, q5, h33, q3, f1]
        exact ⟨_, _, rfl, q4⟩
theorem chk_oks {l : List Pfx} (h : chkB l = true) : Oks l := ((chk_iff l).1 h).2.2
theorem e23 (A B : List Pfx) (hA : A.length ≤ 1000000) (hB : B.length ≤ 1000000) : LV E 23 [.ro (prows A), .ro (prows B)] = some (.tup [.fresh 37 18 (prows (bothS A B (oneL (A ++ B))).1), .int .i64 (bothS A B (oneL (A ++ B))).2]) := by
  rw [LV_R (fn := f23) rfl rfl rfl]
  obtain ⟨id, r, h, hat⟩ := r41 (bs := [.box 0 24 [.ro (prows A)], .box 0 24 [.ro (prows B)], .lst 0 0 37 18 []]) (A := A) (B := B) (L := oneL (A ++ B)) (g0 := 42) (caps0 := [.ptr 0 0 0 0, .ptr 1 0 0 0]) (by omega) (by omega) (by simp [LPB]) (by simp [LPB]) (fun h1 h2 => by
    have ha := chk_oks h1
    have hb := chk_oks h2
    have la := ((chk_iff A).1 h1).1
    have lb := ((chk_iff B).1 h2).1
    have hab : Oks (A ++ B) := fun p hp => (List.mem_append.1 hp).elim (ha p) (hb p)
    have ho := oneL_ok hab
    have hol : (oneL (A ++ B)).length ≤ 1000000000 := by (have := ho.2.2; rw [List.length_append] at this; omega)
    refine ⟨hol, ho.1.2, fun r hr => ?_⟩
    have h42 := r42 (bs := [.box 0 24 [.ro (prows A)], .box 0 24 [.ro (prows B)], .lst 0 0 37 18 []] ++ r) (a := 0) (b := 1) (lk := 0) (lk' := 0) (e := 24) (e' := 24) hA hB ha hb rfl rfl
    rw [List.append_assoc] at h42
    refine ⟨_, _, _, h42, rfl, ?_, ?_, ?_⟩
    · rw [← List.append_assoc, ball_app, belowAll_mono (by simp) hr]; simp [LPB]
    · simp [LPB]
    · rw [← List.append_assoc]
      exact r65 hol (get_add rfl) (get_add rfl))
  simp only [f23, RB, pickV, eqbV, notV, negV, convV, faddrV, fldV, idxV, eqaggV, iaddrV, isnilV, nilckV, pnilV, cloV, extrV, slenV, minV, sidxV, abin, cmpInt, params, growLists, fillCells, newAt, rdPtr, wrPtr, AV.cells, asVal, lenOf, boundOf, rowsOf, argIds, freshIn, scalar1, setAll, AV.isData, AV.isYld, Nat.reduceAdd, Nat.reduceMul, Nat.reduceSub, Nat.reduceEqDiff, Nat.reduceLeDiff, Nat.reduceLT, Int.reduceNeg, ↓reduceIte, reduceCtorEq, Int.reduceEq, Int.reduceLT, Int.reduceLE, Int.reduceBEq, Int.reduceBNe, Int.reduceToNat, IntKind.bits, Int.reduceAdd, Int.reduceSub, Int.reduceMul, Int.reduceTDiv, Int.reduceTMod, DB, R7B, h, shrink_true, expCell, List.nodup_cons, List.nodup_nil, List.not_mem_nil, not_false_eq_true, not_true_eq_false, and_true, and_false, if_false, List.mem_cons, mutIds, hat, prows_len, prows_take, List.take_length]
theorem e24 (A B : List Pfx) (hA : A.length ≤ 1000000) (hB : B.length ≤ 1000000) : LV E 24 [.ro (prows A), .ro (prows B)] = some (.tup [.fresh 37 18 (prows (bothS A B (meetL A B)).1), .int .i64 (bothS A B (meetL A B)).2]) := by
  rw [LV_R (fn := f24) rfl rfl rfl]
  obtain ⟨id, r, h, hat⟩ := r41 (bs := [.box 0 24 [.ro (prows A)], .box 0 24 [.ro (prows B)], .lst 0 0 37 18 []]) (A := A) (B := B) (L := meetL A B) (g0 := 44) (caps0 := [.ptr 0 0 0 0, .ptr 1 0 0 0]) (by omega) (by omega) (by simp [LPB]) (by simp [LPB]) (fun h1 h2 => by
    have ha := chk_oks h1
    have hb := chk_oks h2
    have la := ((chk_iff A).1 h1).1
    have lb := ((chk_iff B).1 h2).1
    have hl := meet_len A B
    have hl2 : A.length * (B.length * 2) ≤ 300 * (300 * 2) := Nat.mul_le_mul la (by omega)
    refine ⟨by omega, meet_oks A B, fun r hr => ⟨_, _, [], by (rw [List.append_nil]; exact r44), rfl, ?_, ?_, ?_⟩⟩
    · rw [List.append_nil]; exact hr
    · simp [LPB]
    · rw [List.append_nil]
      exact r45 hA hB (lk := 0) (e := 24) (lk' := 0) (e' := 24) rfl rfl)
  simp only [f24, RB, pickV, eqbV, notV, negV, convV, faddrV, fldV, idxV, eqaggV, iaddrV, isnilV, nilckV, pnilV, cloV, extrV, slenV, minV, sidxV, abin, cmpInt, params, growLists, fillCells, newAt, rdPtr, wrPtr, AV.cells, asVal, lenOf, boundOf, rowsOf, argIds, freshIn, scalar1, setAll, AV.isData, AV.isYld, Nat.reduceAdd, Nat.reduceMul, Nat.reduceSub, Nat.reduceEqDiff, Nat.reduceLeDiff, Nat.reduceLT, Int.reduceNeg, ↓reduceIte, reduceCtorEq, Int.reduceEq, Int.reduceLT, Int.reduceLE, Int.reduceBEq, Int.reduceBNe, Int.reduceToNat, IntKind.bits, Int.reduceAdd, Int.reduceSub, Int.reduceMul, Int.reduceTDiv, Int.reduceTMod, DB, R7B, h, shrink_true, expCell, List.nodup_cons, List.nodup_nil, List.not_mem_nil, not_false_eq_true, not_true_eq_false, and_true, and_false, if_false, List.mem_cons, mutIds, hat, prows_len, prows_take, List.take_length]
theorem e25 (A B : List Pfx) (hA : A.length ≤ 1000000) (hB : B.length ≤ 1000000) : LV E 25 [.ro (prows A), .ro (prows B)] = some (.tup [.fresh 37 18 (prows (bothS A B (minusL A B)).1), .int .i64 (bothS A B (minusL A B)).2]) := by
  rw [LV_R (fn := f25) rfl rfl rfl]
  obtain ⟨id, r, h, hat⟩ := r41 (bs := [.box 0 24 [.ro (prows A)], .box 0 24 [.ro (prows B)], .lst 0 0 37 18 []]) (A := A) (B := B) (L := minusL A B) (g0 := 46) (caps0 := [.ptr 0 0 0 0, .ptr 1 0 0 0]) (by omega) (by omega) (by simp [LPB]) (by simp [LPB]) (fun h1 h2 => by
    have ha := chk_oks h1
    have hb := chk_oks h2
    have la := ((chk_iff A).1 h1).1
    have lb := ((chk_iff B).1 h2).1
    have hl := minus_len ha hb
    have hl2 : A.length * (1 + 128 * B.length) ≤ 300 * (1 + 128 * 300) := Nat.mul_le_mul la (by omega)
    refine ⟨by omega, (minus_ok ha hb).1, fun r hr => ⟨_, _, [], by (rw [List.append_nil]; exact r46), rfl, ?_, ?_, ?_⟩⟩
    · rw [List.append_nil]; exact hr
    · simp [LPB]
    · rw [List.append_nil]
      exact r47 hA hB ha hb (lk := 0) (e := 24) (lk' := 0) (e' := 24) rfl rfl)
  simp only [f25, RB, pickV, eqbV, notV, negV, convV, faddrV, fldV, idxV, eqaggV, iaddrV, isnilV, nilckV, pnilV, cloV, extrV, slenV, minV, sidxV, abin, cmpInt, params, growLists, fillCells, newAt, rdPtr, wrPtr, AV.cells, asVal, lenOf, boundOf, rowsOf, argIds, freshIn, scalar1, setAll, AV.isData, AV.isYld, Nat.reduceAdd, Nat.reduceMul, Nat.reduceSub, Nat.reduceEqDiff, Nat.reduceLeDiff, Nat.reduceLT, Int.reduceNeg, ↓reduceIte, reduceCtorEq, Int.reduceEq, Int.reduceLT, Int.reduceLE, Int.reduceBEq, Int.reduceBNe, Int.reduceToNat, IntKind.bits, Int.reduceAdd, Int.reduceSub, Int.reduceMul, Int.reduceTDiv, Int.reduceTMod, DB, R7B, h, shrink_true, expCell, List.nodup_cons, List.nodup_nil, List.not_mem_nil, not_false_eq_true, not_true_eq_false, and_true, and_false, if_false, List.mem_cons, mutIds, hat, prows_len, prows_take, List.take_length]
theorem e30 (A B : List Pfx) (hA : A.length ≤ 1000000) (hB : B.length ≤ 1000000) : LV E 30 [.ro (prows A), .ro (prows B)] = some (.tup [.bool (decide ((bothS A B (meetL A B)).2 = 0) && decide ((bothS A B (meetL A B)).1 = A)), .int .i64 (bothS A B (meetL A B)).2]) := by
  rw [LV_R (fn := f30) rfl rfl rfl]
  have h := e24 A B hA hB
  have hr : (bothS A B (meetL A B)).2 = 0 → (bothS A B (meetL A B)).1.length ≤ 4611686018427387904 := fun h => by
    unfold bothS at h ⊢
    split
    · split
      · split
        · simp
        · simp only; omega
      · simp
    · simp
  generalize bothS A B (meetL A B) = R at *
  obtain ⟨R, e⟩ := R
  simp only at h hr ⊢
  by_cases h0 : e = 0
  · subst h0
    have h29 := e29 R A (hr rfl)
    by_cases hRA : R = A
    · rw [decide_eq_true hRA] at h29 ⊢
      simp only [f30, RB, pickV, eqbV, notV, negV, convV, faddrV, fldV, idxV, eqaggV, iaddrV, isnilV, nilckV, pnilV, cloV, extrV, slenV, minV, sidxV, abin, cmpInt, params, growLists, fillCells, newAt, rdPtr, wrPtr, AV.cells, asVal, lenOf, boundOf, rowsOf, argIds, freshIn, scalar1, setAll, AV.isData, AV.isYld, Nat.reduceAdd, Nat.reduceMul, Nat.reduceSub, Nat.reduceEqDiff, Nat.reduceLeDiff, Nat.reduceLT, Int.reduceNeg, ↓reduceIte, reduceCtorEq, Int.reduceEq, Int.reduceLT, Int.reduceLE, Int.reduceBEq, Int.reduceBNe, Int.reduceToNat, IntKind.bits, Int.reduceAdd, Int.reduceSub, Int.reduceMul, Int.reduceTDiv, Int.reduceTMod, R7B, h, freshIn, prows_len, prows_take, List.take_length, h29, CW_some, scalar, expCell, List.nodup_cons, List.nodup_nil, List.not_mem_nil, not_false_eq_true, not_true_eq_false, and_true, and_false, if_false, List.mem_cons, mutIds]
    · rw [decide_eq_false hRA] at h29 ⊢
      simp only [f30, RB, pickV, eqbV, notV, negV, convV, faddrV, fldV, idxV, eqaggV, iaddrV, isnilV, nilckV, pnilV, cloV, extrV, slenV, minV, sidxV, abin, cmpInt, params, growLists, fillCells, newAt, rdPtr, wrPtr, AV.cells, asVal, lenOf, boundOf, rowsOf, argIds, freshIn, scalar1, setAll, AV.isData, AV.isYld, Nat.reduceAdd, Nat.reduceMul, Nat.reduceSub, Nat.reduceEqDiff, Nat.reduceLeDiff, Nat.reduceLT, Int.reduceNeg, ↓reduceIte, reduceCtorEq, Int.reduceEq, Int.reduceLT, Int.reduceLE, Int.reduceBEq, Int.reduceBNe, Int.reduceToNat, IntKind.bits, Int.reduceAdd, Int.reduceSub, Int.reduceMul, Int.reduceTDiv, Int.reduceTMod, R7B, h, freshIn, prows_len, prows_take, List.take_length, h29, CW_some, scalar, expCell, List.nodup_cons, List.nodup_nil, List.not_mem_nil, not_false_eq_true, not_true_eq_false, and_true, and_false, if_false, List.mem_cons, mutIds]
  · have n0 : (e == 0) = false := by rw [beq_eq_false_iff_ne]; exact h0
    simp only [f30, RB, pickV, eqbV, notV, negV, convV, faddrV, fldV, idxV, eqaggV, iaddrV, isnilV, nilckV, pnilV, cloV, extrV, slenV, minV, sidxV, abin, cmpInt, params, growLists, fillCells, newAt, rdPtr, wrPtr, AV.cells, asVal, lenOf, boundOf, rowsOf, argIds, freshIn, scalar1, setAll, AV.isData, AV.isYld, Nat.reduceAdd, Nat.reduceMul, Nat.reduceSub, Nat.reduceEqDiff, Nat.reduceLeDiff, Nat.reduceLT, Int.reduceNeg, ↓reduceIte, reduceCtorEq, Int.reduceEq, Int.reduceLT, Int.reduceLE, Int.reduceBEq, Int.reduceBNe, Int.reduceToNat, IntKind.bits, Int.reduceAdd, Int.reduceSub, Int.reduceMul, Int.reduceTDiv, Int.reduceTMod, R7B, h, freshIn, prows_len, prows_take, List.take_length, n0, h0, CW_some, scalar, expCell, List.nodup_cons, List.nodup_nil, List.not_mem_nil, not_false_eq_true, not_true_eq_false, and_true, and_false, if_false, List.mem_cons, mutIds]
end Go.Proofs.YtnpdaegfmfkghaaDoor.F

/- A prefix of version 4. No condition. -/
set_option linter.unusedSimpArgs false
namespace Go.Proofs.YtnpdaegfmfkghaaDoor.D
open Go Go.Proofs.YtnpdaegfmfkghaaDoor.A
def fourP (x y n : Int) : Pfx := ⟨⟨4, (zerB.put 0 x.toNat).put 1 y.toNat⟩, n⟩
def rowS (l : List Pfx) : List Pfx := l.take (if 64 < l.length then 65 else 16)
def setS (l : List Pfx) (f : Bool) : List Pfx := if f && okB (l.take 12) then oneL (l.take 12) else l.take 12
def formS (l : List Pfx) : List Pfx × Bool := ((oneS (l.take 12)).1, decide ((oneS (l.take 12)).2 = 0))
def comesB (got : List Pfx) (e kind : Int) (a b : List Pfx) : Bool :=
  if chkB a && chkB b then (if 300 < (comesL kind a b).length then decide (e = 6) && decide (got.length = 0) else decide (e = 0) && decide (got = comesL kind a b)) else decide (e = 340) && decide (got.length = 0)
theorem comes_len {kind : Int} {a b : List Pfx} (ha : a.length ≤ 1000) (hb : b.length ≤ 1000) : (comesL kind a b).length ≤ 1000000 := by
  have l4 := wth_le (kind := kind) (a := a) (b := b) 32 (root_ok (.inl rfl)) (by decide)
  have l6 := wth_le (kind := kind) (a := a) (b := b) 128 (root_ok (.inr rfl)) (by decide)
  unfold comesL; rw [List.length_append]; omega
end Go.Proofs.YtnpdaegfmfkghaaDoor.D

/- The statements' own functions: rows, sets, forms; whether the layer does anything. No condition. -/
set_option linter.unusedSimpArgs false
namespace Go.Proofs.YtnpdaegfmfkghaaDoor.F
open Go Go.Proofs.YtnpdaegfmfkghaaDoor.A Go.Proofs.YtnpdaegfmfkghaaDoor.D
theorem head0 : headFits 18 [] = true := rfl
set_option maxHeartbeats 1000000 in
theorem e31 (x y n : Int) (h1 : 0 ≤ x ∧ x < 256) (h2 : 0 ≤ y ∧ y < 256) : LV E 31 [.int .u8 x, .int .u8 y, .int .i64 n] = some (.agg (pav (fourP x y n))) := by
  rw [LV_R (fn := f31) rfl rfl rfl]
  have g1 := pav_put ⟨⟨4, zerB⟩, n⟩ (n := 0) (v := x.toNat) (by omega) (by omega)
  have g2 := pav_put ⟨⟨4, zerB.put 0 x.toNat⟩, n⟩ (n := 1) (v := y.toNat) (by omega) (by omega)
  rw [show ((x.toNat : Nat) : Int) = x by omega] at g1
  rw [show ((y.toNat : Nat) : Int) = y by omega] at g2
  simp only [Nat.add_zero, Nat.reduceAdd] at g1 g2
  simp only [f31, ← pav_zer, root_aav, root_ov, RB, pickV, eqbV, notV, negV, convV, faddrV, fldV, idxV, eqaggV, iaddrV, isnilV, nilckV, pnilV, cloV, extrV, slenV, minV, sidxV, abin, cmpInt, params, growLists, fillCells, newAt, rdPtr, wrPtr, AV.cells, asVal, lenOf, boundOf, rowsOf, argIds, freshIn, scalar1, setAll, AV.isData, AV.isYld, Nat.reduceAdd, Nat.reduceMul, Nat.reduceSub, Nat.reduceEqDiff, Nat.reduceLeDiff, Nat.reduceLT, Int.reduceNeg, ↓reduceIte, reduceCtorEq, Int.reduceEq, Int.reduceLT, Int.reduceLE, Int.reduceBEq, Int.reduceBNe, Int.reduceToNat, IntKind.bits, Int.reduceAdd, Int.reduceSub, Int.reduceMul, Int.reduceTDiv, Int.reduceTMod, DB, g1, g2]
  rfl
theorem e10 (l : List Pfx) (hl : l.length ≤ 9223372036854775807) : LV E 10 [.ro (prows l)] = some (.fresh 37 18 (prows (rowS l))) := by
  rw [LV_R (fn := f10) rfl rfl rfl]
  unfold rowS
  by_cases h1 : 64 < l.length
  · have f1 : (64 : Int) < (l.length : Int) := by omega
    have f2 : 65 ≤ l.length := by omega
    have f3 := prows_fits l (Nat.zero_le 65) f2
    have f4 : (prows (l.take 65)).length = 65 := by rw [prows_len, List.length_take]; omega
    have f5 := prows_fit (l.take 65)
    have f6 : (prows (l.take 65)).take 65 = prows (l.take 65) := List.take_of_length_le (Nat.le_of_eq f4)
    simp only [f10, RB, pickV, eqbV, notV, negV, convV, faddrV, fldV, idxV, eqaggV, iaddrV, isnilV, nilckV, pnilV, cloV, extrV, slenV, minV, sidxV, abin, cmpInt, params, growLists, fillCells, newAt, rdPtr, wrPtr, AV.cells, asVal, lenOf, boundOf, rowsOf, argIds, freshIn, scalar1, setAll, AV.isData, AV.isYld, Nat.reduceAdd, Nat.reduceMul, Nat.reduceSub, Nat.reduceEqDiff, Nat.reduceLeDiff, Nat.reduceLT, Int.reduceNeg, ↓reduceIte, reduceCtorEq, Int.reduceEq, Int.reduceLT, Int.reduceLE, Int.reduceBEq, Int.reduceBNe, Int.reduceToNat, IntKind.bits, Int.reduceAdd, Int.reduceSub, Int.reduceMul, Int.reduceTDiv, Int.reduceTMod, O_buildSlq, quietOk, aop_buildSl, fillRows, asData, aappend, R7B, head0, prows_len, f1, h1, aslice, f2, f3, prows_take, f4, f5, f6, expCell, List.nodup_cons, List.nodup_nil, List.not_mem_nil, not_false_eq_true, not_true_eq_false, and_true, and_false, if_false, List.mem_cons, mutIds]
  · have f1 : ¬ (64 : Int) < (l.length : Int) := by omega
    by_cases h2 : 16 < l.length
    · have k1 : (16 : Int) < (l.length : Int) := by omega
      have f2 : 16 ≤ l.length := by omega
      have f3 := prows_fits l (Nat.zero_le 16) f2
      have f4 : (prows (l.take 16)).length = 16 := by rw [prows_len, List.length_take]; omega
      have f5 := prows_fit (l.take 16)
      have f6 : (prows (l.take 16)).take 16 = prows (l.take 16) := List.take_of_length_le (Nat.le_of_eq f4)
      simp only [f10, RB, pickV, eqbV, notV, negV, convV, faddrV, fldV, idxV, eqaggV, iaddrV, isnilV, nilckV, pnilV, cloV, extrV, slenV, minV, sidxV, abin, cmpInt, params, growLists, fillCells, newAt, rdPtr, wrPtr, AV.cells, asVal, lenOf, boundOf, rowsOf, argIds, freshIn, scalar1, setAll, AV.isData, AV.isYld, Nat.reduceAdd, Nat.reduceMul, Nat.reduceSub, Nat.reduceEqDiff, Nat.reduceLeDiff, Nat.reduceLT, Int.reduceNeg, ↓reduceIte, reduceCtorEq, Int.reduceEq, Int.reduceLT, Int.reduceLE, Int.reduceBEq, Int.reduceBNe, Int.reduceToNat, IntKind.bits, Int.reduceAdd, Int.reduceSub, Int.reduceMul, Int.reduceTDiv, Int.reduceTMod, O_buildSlq, quietOk, aop_buildSl, fillRows, asData, aappend, R7B, head0, prows_len, f1, h1, aminmax, k1, aslice, f2, f3, prows_take, f4, f5, f6, expCell, List.nodup_cons, List.nodup_nil, List.not_mem_nil, not_false_eq_true, not_true_eq_false, and_true, and_false, if_false, List.mem_cons, mutIds]
    · have k1 : ¬ (16 : Int) < (l.length : Int) := by omega
      have f2 : l.take 16 = l := List.take_of_length_le (by omega)
      have f3 := prows_fits l (Nat.zero_le l.length) (Nat.le_refl _)
      have f5 := prows_fit l
      have f7 : l.length * 32 ≤ 140737488355328 := by omega
      have f8 : l.length ≤ 4611686018427387904 := by omega
      simp only [f10, RB, pickV, eqbV, notV, negV, convV, faddrV, fldV, idxV, eqaggV, iaddrV, isnilV, nilckV, pnilV, cloV, extrV, slenV, minV, sidxV, abin, cmpInt, params, growLists, fillCells, newAt, rdPtr, wrPtr, AV.cells, asVal, lenOf, boundOf, rowsOf, argIds, freshIn, scalar1, setAll, AV.isData, AV.isYld, Nat.reduceAdd, Nat.reduceMul, Nat.reduceSub, Nat.reduceEqDiff, Nat.reduceLeDiff, Nat.reduceLT, Int.reduceNeg, ↓reduceIte, reduceCtorEq, Int.reduceEq, Int.reduceLT, Int.reduceLE, Int.reduceBEq, Int.reduceBNe, Int.reduceToNat, IntKind.bits, Int.reduceAdd, Int.reduceSub, Int.reduceMul, Int.reduceTDiv, Int.reduceTMod, O_buildSlq, quietOk, aop_buildSl, fillRows, asData, aappend, R7B, head0, prows_len, f1, h1, aminmax, k1, aslice, f2, f3, prows_take, List.take_length, f5, f7, f8, Nat.le_refl, expCell, List.nodup_cons, List.nodup_nil, List.not_mem_nil, not_false_eq_true, not_true_eq_false, and_true, and_false, if_false, List.mem_cons, mutIds]
theorem take12 (l : List Pfx) : (l.take 12).length ≤ 12 := by rw [List.length_take]; omega
theorem e22 (l : List Pfx) (f : Bool) (hl : l.length ≤ 9223372036854775807) : LV E 22 [.ro (prows l), .bool f] = some (.fresh 37 18 (prows (setS l f))) := by
  rw [LV_R (fn := f22) rfl rfl rfl]
  have h12 := e12 (l.take 12) (by have := take12 l; omega)
  have h14 : okB (l.take 12) = true → LV E 14 [.int .i64 0, .ro (prows (l.take 12)), .clip []] = some (.fresh 37 18 (prows (oneL (l.take 12)))) := fun h => by
    have := e14 (kind := 0) (a := l.take 12) (b := []) (by have := take12 l; omega) (by simp) (.inr ⟨rfl, rfl⟩) ((okB_iff _).1 h) (fun _ h => by cases h)
    rwa [comes_nil ((okB_iff _).1 h)] at this
  unfold setS
  obtain ⟨n, hn, hnl, hni⟩ : ∃ n : Nat, (if (12 : Int) < (l.length : Int) then (12 : Int) else (l.length : Int)) = (n : Int) ∧ n ≤ l.length ∧ l.take n = l.take 12 ∧ n ≤ 12 := by
    by_cases h : 12 < l.length
    · exact ⟨12, by rw [if_pos (by omega)]; rfl, by omega, rfl, by omega⟩
    · exact ⟨l.length, by rw [if_neg (by omega)], Nat.le_refl _, by rw [List.take_length, List.take_of_length_le (by omega)], by omega⟩
  have hlen : (l.take 12).length = n := by rw [← hni.1, List.length_take]; omega
  have f3 := prows_fits l (Nat.zero_le n) hnl
  have f5 := prows_fit (l.take 12)
  have e : (prows l).take n = prows (l.take 12) := by rw [prows_take, hni.1]
  have f0 : (0 : Int) ≤ (n : Int) := by omega
  have f7 : n * 32 ≤ 140737488355328 := by omega
  have f8 : n ≤ 4611686018427387904 := by omega
  have tk : (prows (l.take 12)).take n = prows (l.take 12) := by rw [← hlen, prows_take, List.take_length]
  have mn : aminmax false .i64 (l.length : Int) [.int .i64 12] = some (.int .i64 (n : Int)) := by rw [← hn]; rfl
  generalize l.take 12 = a at *
  cases f with
  | false =>
    simp only [f22, RB, pickV, eqbV, notV, negV, convV, faddrV, fldV, idxV, eqaggV, iaddrV, isnilV, nilckV, pnilV, cloV, extrV, slenV, minV, sidxV, abin, cmpInt, params, growLists, fillCells, newAt, rdPtr, wrPtr, AV.cells, asVal, lenOf, boundOf, rowsOf, argIds, freshIn, scalar1, setAll, AV.isData, AV.isYld, Nat.reduceAdd, Nat.reduceMul, Nat.reduceSub, Nat.reduceEqDiff, Nat.reduceLeDiff, Nat.reduceLT, Int.reduceNeg, ↓reduceIte, reduceCtorEq, Int.reduceEq, Int.reduceLT, Int.reduceLE, Int.reduceBEq, Int.reduceBNe, Int.reduceToNat, IntKind.bits, Int.reduceAdd, Int.reduceSub, Int.reduceMul, Int.reduceTDiv, Int.reduceTMod, O_buildSlq, quietOk, aop_buildSl, fillRows, asData, aappend, R7B, head0, prows_len, hlen, mn, aslice, hnl, f3, e, f0, f5, f7, f8, tk, expCell, List.nodup_cons, List.nodup_nil, List.not_mem_nil, not_false_eq_true, not_true_eq_false, and_true, and_false, if_false, List.mem_cons, mutIds]
  | true =>
    cases hk : okB a with
    | false =>
      rw [hk] at h12
      simp only [f22, RB, pickV, eqbV, notV, negV, convV, faddrV, fldV, idxV, eqaggV, iaddrV, isnilV, nilckV, pnilV, cloV, extrV, slenV, minV, sidxV, abin, cmpInt, params, growLists, fillCells, newAt, rdPtr, wrPtr, AV.cells, asVal, lenOf, boundOf, rowsOf, argIds, freshIn, scalar1, setAll, AV.isData, AV.isYld, Nat.reduceAdd, Nat.reduceMul, Nat.reduceSub, Nat.reduceEqDiff, Nat.reduceLeDiff, Nat.reduceLT, Int.reduceNeg, ↓reduceIte, reduceCtorEq, Int.reduceEq, Int.reduceLT, Int.reduceLE, Int.reduceBEq, Int.reduceBNe, Int.reduceToNat, IntKind.bits, Int.reduceAdd, Int.reduceSub, Int.reduceMul, Int.reduceTDiv, Int.reduceTMod, O_buildSlq, quietOk, aop_buildSl, fillRows, asData, aappend, R7B, head0, prows_len, hlen, mn, aslice, hnl, f3, e, f0, f5, f7, f8, tk, h12, expCell, List.nodup_cons, List.nodup_nil, List.not_mem_nil, not_false_eq_true, not_true_eq_false, and_true, and_false, if_false, List.mem_cons, mutIds, CW_some, scalar]
    | true =>
      rw [hk] at h12
      have h14 := h14 hk
      simp only [f22, RB, pickV, eqbV, notV, negV, convV, faddrV, fldV, idxV, eqaggV, iaddrV, isnilV, nilckV, pnilV, cloV, extrV, slenV, minV, sidxV, abin, cmpInt, params, growLists, fillCells, newAt, rdPtr, wrPtr, AV.cells, asVal, lenOf, boundOf, rowsOf, argIds, freshIn, scalar1, setAll, AV.isData, AV.isYld, Nat.reduceAdd, Nat.reduceMul, Nat.reduceSub, Nat.reduceEqDiff, Nat.reduceLeDiff, Nat.reduceLT, Int.reduceNeg, ↓reduceIte, reduceCtorEq, Int.reduceEq, Int.reduceLT, Int.reduceLE, Int.reduceBEq, Int.reduceBNe, Int.reduceToNat, IntKind.bits, Int.reduceAdd, Int.reduceSub, Int.reduceMul, Int.reduceTDiv, Int.reduceTMod, O_buildSlq, quietOk, aop_buildSl, fillRows, asData, aappend, R7B, head0, prows_len, hlen, mn, aslice, hnl, f3, e, f0, f5, f7, f8, tk, h12, h14, expCell, List.nodup_cons, List.nodup_nil, List.not_mem_nil, not_false_eq_true, not_true_eq_false, and_true, and_false, if_false, List.mem_cons, mutIds, CW_some, scalar, lockAll, lockAt, prows_take, List.take_length]
theorem e17 (l : List Pfx) (hl : l.length ≤ 9223372036854775807) : LV E 17 [.ro (prows l)] = some (.tup [.fresh 37 18 (prows (formS l).1), .bool (formS l).2]) := by
  rw [LV_R (fn := f17) rfl rfl rfl]
  have h11 := e11 (l.take 12) (by have := take12 l; omega)
  unfold formS
  obtain ⟨n, hn, hnl, hni⟩ : ∃ n : Nat, (if (12 : Int) < (l.length : Int) then (12 : Int) else (l.length : Int)) = (n : Int) ∧ n ≤ l.length ∧ l.take n = l.take 12 ∧ n ≤ 12 := by
    by_cases h : 12 < l.length
    · exact ⟨12, by rw [if_pos (by omega)]; rfl, by omega, rfl, by omega⟩
    · exact ⟨l.length, by rw [if_neg (by omega)], Nat.le_refl _, by rw [List.take_length, List.take_of_length_le (by omega)], by omega⟩
  have f3 := prows_fits l (Nat.zero_le n) hnl
  have e : (prows l).take n = prows (l.take 12) := by rw [prows_take, hni.1]
  have f0 : (0 : Int) ≤ (n : Int) := by omega
  have mn : aminmax false .i64 (l.length : Int) [.int .i64 12] = some (.int .i64 (n : Int)) := by rw [← hn]; rfl
  generalize oneS (l.take 12) = R at *
  obtain ⟨R, k⟩ := R
  simp only at h11 ⊢
  have hb : (k == 0) = decide (k = 0) := rfl
  simp only [f17, RB, pickV, eqbV, notV, negV, convV, faddrV, fldV, idxV, eqaggV, iaddrV, isnilV, nilckV, pnilV, cloV, extrV, slenV, minV, sidxV, abin, cmpInt, params, growLists, fillCells, newAt, rdPtr, wrPtr, AV.cells, asVal, lenOf, boundOf, rowsOf, argIds, freshIn, scalar1, setAll, AV.isData, AV.isYld, Nat.reduceAdd, Nat.reduceMul, Nat.reduceSub, Nat.reduceEqDiff, Nat.reduceLeDiff, Nat.reduceLT, Int.reduceNeg, ↓reduceIte, reduceCtorEq, Int.reduceEq, Int.reduceLT, Int.reduceLE, Int.reduceBEq, Int.reduceBNe, Int.reduceToNat, IntKind.bits, Int.reduceAdd, Int.reduceSub, Int.reduceMul, Int.reduceTDiv, Int.reduceTMod, R7B, prows_len, mn, aslice, hnl, f3, e, f0, h11, freshIn, hb, expCell, List.nodup_cons, List.nodup_nil, List.not_mem_nil, not_false_eq_true, not_true_eq_false, and_true, and_false, if_false, List.mem_cons, mutIds, prows_take, List.take_length]
theorem e26 (got : List Pfx) (e kind : Int) (a b : List Pfx) (hg : got.length ≤ 1000000) (ha : a.length ≤ 1000) (hb : b.length ≤ 1000) : LV E 26 [.ro (prows got), .int .i64 e, .int .i64 kind, .ro (prows a), .ro (prows b)] = some (.bool (comesB got e kind a b)) := by
  rw [LV_R (fn := f26) rfl rfl rfl]
  have ha15 := e15 a (by omega)
  have hb15 := e15 b (by omega)
  have hl0 : ((got.length : Int) == 0) = decide (got.length = 0) := by
    by_cases h : got.length = 0
    · rw [h]; rfl
    · rw [decide_eq_false h, beq_eq_false_iff_ne]; omega
  unfold comesB
  by_cases h : (chkB a && chkB b) = true
  · rw [Bool.and_eq_true] at h
    rw [h.1] at ha15
    rw [h.2] at hb15
    have h14 := e14 (kind := kind) (by omega : a.length ≤ 1000000) (by omega : b.length ≤ 1000000) (.inl rfl) (chk_oks h.1) (chk_oks h.2)
    have hcl := comes_len (kind := kind) ha hb
    rw [if_pos (by rw [h.1, h.2]; rfl)]
    generalize comesL kind a b = W at *
    have h13 := e13 got W (by omega)
    by_cases h3 : 300 < W.length
    · have f1 : (300 : Int) < (W.length : Int) := by omega
      rw [if_pos h3]
      by_cases h6 : e = 6
      · subst h6
        simp only [f26, RB, pickV, eqbV, notV, negV, convV, faddrV, fldV, idxV, eqaggV, iaddrV, isnilV, nilckV, pnilV, cloV, extrV, slenV, minV, sidxV, abin, cmpInt, params, growLists, fillCells, newAt, rdPtr, wrPtr, AV.cells, asVal, lenOf, boundOf, rowsOf, argIds, freshIn, scalar1, setAll, AV.isData, AV.isYld, Nat.reduceAdd, Nat.reduceMul, Nat.reduceSub, Nat.reduceEqDiff, Nat.reduceLeDiff, Nat.reduceLT, Int.reduceNeg, ↓reduceIte, reduceCtorEq, Int.reduceEq, Int.reduceLT, Int.reduceLE, Int.reduceBEq, Int.reduceBNe, Int.reduceToNat, IntKind.bits, Int.reduceAdd, Int.reduceSub, Int.reduceMul, Int.reduceTDiv, Int.reduceTMod, R7B, prows_len, ha15, hb15, h14, f1, hl0]
      · have n6 : (e == 6) = false := by rw [beq_eq_false_iff_ne]; exact h6
        simp only [f26, RB, pickV, eqbV, notV, negV, convV, faddrV, fldV, idxV, eqaggV, iaddrV, isnilV, nilckV, pnilV, cloV, extrV, slenV, minV, sidxV, abin, cmpInt, params, growLists, fillCells, newAt, rdPtr, wrPtr, AV.cells, asVal, lenOf, boundOf, rowsOf, argIds, freshIn, scalar1, setAll, AV.isData, AV.isYld, Nat.reduceAdd, Nat.reduceMul, Nat.reduceSub, Nat.reduceEqDiff, Nat.reduceLeDiff, Nat.reduceLT, Int.reduceNeg, ↓reduceIte, reduceCtorEq, Int.reduceEq, Int.reduceLT, Int.reduceLE, Int.reduceBEq, Int.reduceBNe, Int.reduceToNat, IntKind.bits, Int.reduceAdd, Int.reduceSub, Int.reduceMul, Int.reduceTDiv, Int.reduceTMod, R7B, prows_len, ha15, hb15, h14, f1, hl0, n6, h6]
    · have f1 : ¬ (300 : Int) < (W.length : Int) := by omega
      rw [if_neg h3]
      by_cases h0 : e = 0
      · subst h0
        simp only [f26, RB, pickV, eqbV, notV, negV, convV, faddrV, fldV, idxV, eqaggV, iaddrV, isnilV, nilckV, pnilV, cloV, extrV, slenV, minV, sidxV, abin, cmpInt, params, growLists, fillCells, newAt, rdPtr, wrPtr, AV.cells, asVal, lenOf, boundOf, rowsOf, argIds, freshIn, scalar1, setAll, AV.isData, AV.isYld, Nat.reduceAdd, Nat.reduceMul, Nat.reduceSub, Nat.reduceEqDiff, Nat.reduceLeDiff, Nat.reduceLT, Int.reduceNeg, ↓reduceIte, reduceCtorEq, Int.reduceEq, Int.reduceLT, Int.reduceLE, Int.reduceBEq, Int.reduceBNe, Int.reduceToNat, IntKind.bits, Int.reduceAdd, Int.reduceSub, Int.reduceMul, Int.reduceTDiv, Int.reduceTMod, R7B, prows_len, ha15, hb15, h14, f1, h13, prows_take, List.take_length, CW_some, scalar]
      · have n0 : (e == 0) = false := by rw [beq_eq_false_iff_ne]; exact h0
        simp only [f26, RB, pickV, eqbV, notV, negV, convV, faddrV, fldV, idxV, eqaggV, iaddrV, isnilV, nilckV, pnilV, cloV, extrV, slenV, minV, sidxV, abin, cmpInt, params, growLists, fillCells, newAt, rdPtr, wrPtr, AV.cells, asVal, lenOf, boundOf, rowsOf, argIds, freshIn, scalar1, setAll, AV.isData, AV.isYld, Nat.reduceAdd, Nat.reduceMul, Nat.reduceSub, Nat.reduceEqDiff, Nat.reduceLeDiff, Nat.reduceLT, Int.reduceNeg, ↓reduceIte, reduceCtorEq, Int.reduceEq, Int.reduceLT, Int.reduceLE, Int.reduceBEq, Int.reduceBNe, Int.reduceToNat, IntKind.bits, Int.reduceAdd, Int.reduceSub, Int.reduceMul, Int.reduceTDiv, Int.reduceTMod, R7B, prows_len, ha15, hb15, h14, f1, n0, h0]
  · rw [if_neg h]
    have hh : (chkB a = true ∧ chkB b = false) ∨ chkB a = false := by
      cases h1 : chkB a <;> cases h2 : chkB b <;> simp_all
    rcases hh with ⟨h1, h2⟩ | h1
    · rw [h1] at ha15
      rw [h2] at hb15
      by_cases h3 : e = 340
      · subst h3
        simp only [f26, RB, pickV, eqbV, notV, negV, convV, faddrV, fldV, idxV, eqaggV, iaddrV, isnilV, nilckV, pnilV, cloV, extrV, slenV, minV, sidxV, abin, cmpInt, params, growLists, fillCells, newAt, rdPtr, wrPtr, AV.cells, asVal, lenOf, boundOf, rowsOf, argIds, freshIn, scalar1, setAll, AV.isData, AV.isYld, Nat.reduceAdd, Nat.reduceMul, Nat.reduceSub, Nat.reduceEqDiff, Nat.reduceLeDiff, Nat.reduceLT, Int.reduceNeg, ↓reduceIte, reduceCtorEq, Int.reduceEq, Int.reduceLT, Int.reduceLE, Int.reduceBEq, Int.reduceBNe, Int.reduceToNat, IntKind.bits, Int.reduceAdd, Int.reduceSub, Int.reduceMul, Int.reduceTDiv, Int.reduceTMod, prows_len, ha15, hb15, hl0]
      · have n3 : (e == 340) = false := by rw [beq_eq_false_iff_ne]; exact h3
        simp only [f26, RB, pickV, eqbV, notV, negV, convV, faddrV, fldV, idxV, eqaggV, iaddrV, isnilV, nilckV, pnilV, cloV, extrV, slenV, minV, sidxV, abin, cmpInt, params, growLists, fillCells, newAt, rdPtr, wrPtr, AV.cells, asVal, lenOf, boundOf, rowsOf, argIds, freshIn, scalar1, setAll, AV.isData, AV.isYld, Nat.reduceAdd, Nat.reduceMul, Nat.reduceSub, Nat.reduceEqDiff, Nat.reduceLeDiff, Nat.reduceLT, Int.reduceNeg, ↓reduceIte, reduceCtorEq, Int.reduceEq, Int.reduceLT, Int.reduceLE, Int.reduceBEq, Int.reduceBNe, Int.reduceToNat, IntKind.bits, Int.reduceAdd, Int.reduceSub, Int.reduceMul, Int.reduceTDiv, Int.reduceTMod, prows_len, ha15, hb15, hl0, n3, h3]
    · rw [h1] at ha15
      by_cases h3 : e = 340
      · subst h3
        simp only [f26, RB, pickV, eqbV, notV, negV, convV, faddrV, fldV, idxV, eqaggV, iaddrV, isnilV, nilckV, pnilV, cloV, extrV, slenV, minV, sidxV, abin, cmpInt, params, growLists, fillCells, newAt, rdPtr, wrPtr, AV.cells, asVal, lenOf, boundOf, rowsOf, argIds, freshIn, scalar1, setAll, AV.isData, AV.isYld, Nat.reduceAdd, Nat.reduceMul, Nat.reduceSub, Nat.reduceEqDiff, Nat.reduceLeDiff, Nat.reduceLT, Int.reduceNeg, ↓reduceIte, reduceCtorEq, Int.reduceEq, Int.reduceLT, Int.reduceLE, Int.reduceBEq, Int.reduceBNe, Int.reduceToNat, IntKind.bits, Int.reduceAdd, Int.reduceSub, Int.reduceMul, Int.reduceTDiv, Int.reduceTMod, prows_len, ha15, hl0]
      · have n3 : (e == 340) = false := by rw [beq_eq_false_iff_ne]; exact h3
        simp only [f26, RB, pickV, eqbV, notV, negV, convV, faddrV, fldV, idxV, eqaggV, iaddrV, isnilV, nilckV, pnilV, cloV, extrV, slenV, minV, sidxV, abin, cmpInt, params, growLists, fillCells, newAt, rdPtr, wrPtr, AV.cells, asVal, lenOf, boundOf, rowsOf, argIds, freshIn, scalar1, setAll, AV.isData, AV.isYld, Nat.reduceAdd, Nat.reduceMul, Nat.reduceSub, Nat.reduceEqDiff, Nat.reduceLeDiff, Nat.reduceLT, Int.reduceNeg, ↓reduceIte, reduceCtorEq, Int.reduceEq, Int.reduceLT, Int.reduceLE, Int.reduceBEq, Int.reduceBNe, Int.reduceToNat, IntKind.bits, Int.reduceAdd, Int.reduceSub, Int.reduceMul, Int.reduceTDiv, Int.reduceTMod, prows_len, ha15, hl0, n3, h3]
end Go.Proofs.YtnpdaegfmfkghaaDoor.F

/- The layer does something. No condition. -/
set_option linter.unusedSimpArgs false
namespace Go.Proofs.YtnpdaegfmfkghaaDoor.F
open Go Go.Proofs.YtnpdaegfmfkghaaDoor.A Go.Proofs.YtnpdaegfmfkghaaDoor.D
theorem w1 : oneS [fourP 10 128 9, fourP 10 0 9, fourP 10 1 16] = ([fourP 10 0 8], 0) := by decide +kernel
theorem w2 : bothS [fourP 10 0 8] [fourP 10 0 10] (minusL [fourP 10 0 8] [fourP 10 0 10]) = ([fourP 10 64 10, fourP 10 128 9], 0) := by decide +kernel
theorem e9 : LV E 9 [] = some (.bool true) := by
  rw [LV_R (fn := f9) rfl rfl rfl]
  have a1 := e31 10 128 9 (by decide) (by decide)
  have a2 := e31 10 0 9 (by decide) (by decide)
  have a3 := e31 10 1 16 (by decide) (by decide)
  have a4 := e31 10 0 8 (by decide) (by decide)
  have a5 := e31 10 0 10 (by decide) (by decide)
  have a6 := e31 10 64 10 (by decide) (by decide)
  have h11 := e11 [fourP 10 128 9, fourP 10 0 9, fourP 10 1 16] (by decide)
  rw [w1] at h11
  have h25 := e25 [fourP 10 0 8] [fourP 10 0 10] (by decide) (by decide)
  rw [w2] at h25
  have b1 := e13 [fourP 10 0 8] [fourP 10 0 8] (by decide)
  have b2 := e13 [fourP 10 64 10, fourP 10 128 9] [fourP 10 64 10, fourP 10 128 9] (by decide)
  rw [decide_eq_true rfl] at b1 b2
  simp only [prows, List.map_cons, List.map_nil] at h11 h25 b1 b2
  generalize fourP 10 128 9 = p1 at *
  generalize fourP 10 0 9 = p2 at *
  generalize fourP 10 1 16 = p3 at *
  generalize fourP 10 0 8 = p4 at *
  generalize fourP 10 0 10 = p5 at *
  generalize fourP 10 64 10 = p6 at *
  simp only [f9, RB, pickV, eqbV, notV, negV, convV, faddrV, fldV, idxV, eqaggV, iaddrV, isnilV, nilckV, pnilV, cloV, extrV, slenV, minV, sidxV, abin, cmpInt, params, growLists, fillCells, newAt, rdPtr, wrPtr, AV.cells, asVal, lenOf, boundOf, rowsOf, argIds, freshIn, scalar1, setAll, AV.isData, AV.isYld, Nat.reduceAdd, Nat.reduceMul, Nat.reduceSub, Nat.reduceEqDiff, Nat.reduceLeDiff, Nat.reduceLT, Int.reduceNeg, ↓reduceIte, reduceCtorEq, Int.reduceEq, Int.reduceLT, Int.reduceLE, Int.reduceBEq, Int.reduceBNe, Int.reduceToNat, IntKind.bits, Int.reduceAdd, Int.reduceSub, Int.reduceMul, Int.reduceTDiv, Int.reduceTMod, DB, O_buildSlq, quietOk, aop_buildSl, fillRows, asData, aappend, R7B, a1, a2, a3, a4, a5, a6, h11, h25, b1, b2, freshIn, lockAll, lockAt, CW_some, scalar, decide_eq_true_eq]
end Go.Proofs.YtnpdaegfmfkghaaDoor.F

/- Arguments that are read: flat structs, slices of flat things. No condition. -/
set_option linter.unusedSimpArgs false
set_option maxRecDepth 20000
namespace Go.Proofs.YtnpdaegfmfkghaaDoor.D
open Go Go.RowKit Go.Proofs.YtnpdaegfmfkghaaDoor.A Go.Proofs.YtnpdaegfmfkghaaDoor.J
variable {w : World} {P : Program} {t : TypeId} {v : Value}
def I64 (n : Int) : Prop := -9223372036854775808 ≤ n ∧ n ≤ 9223372036854775807
theorem plain_one {u : Value} (h : plainV u = true) : u.oneCell' = true := by cases u <;> first | rfl | cases h
theorem rep_flat {ks : List CK} {cs : List Value} (h : Fits ks cs) : Rep w (Old w) [] [] [] (.agg (cs.map avOf)) (.agg cs.toArray) :=
  .agg _ _ (by simp) (fun u hu => plain_one (fits_plain h u hu)) (avOf_repL (fits_plain h)).2
/-- A flat struct. -/
theorem reads_flat {fs : Array Field} {n : Nat} {ks : List CK} (h : Reads P w t v) (ht : P.underlying t = some (.struct fs)) (hf : flat P n t = some ks) : ∃ cs, Fits ks cs ∧ Rep w (Old w) [] [] [] (.agg (cs.map avOf)) v := by
  obtain ⟨cs, rfl, hr⟩ := h.agg ht
  exact ⟨cs, hr.flat hf, rep_flat (hr.flat hf)⟩
theorem rdc_slice {e : TypeId} {k : Nat} {α : Type} {enc : α → List AV} {ok : α → Prop} {n : Nat} {ks : List CK} {a : Option Addr} {css : List (List Value)} {cap : Nat} (hk : 0 < k) (hc : css.length ≤ cap) (hs : SlC w k a css) (hcs : ∀ c ∈ css, RdC P w e c) (hf : flat P n e = some ks) (hfit : ∀ cs, Fits ks cs → ∃ x : α, cs.map avOf = enc x ∧ ok x) :
    ∃ l : List α, l.length = css.length ∧ (∀ x ∈ l, ok x) ∧ Rep w (Old w) [] [] [] (.ro (l.map enc)) (.slice a css.length cap) := by
  have key : ∀ css : List (List Value), (∀ c ∈ css, RdC P w e c) → ∃ l : List α, l.length = css.length ∧ (∀ x ∈ l, ok x) ∧ css.map (·.map avOf) = l.map enc := by
    intro css
    induction css with
    | nil => exact fun _ => ⟨[], rfl, by simp, rfl⟩
    | cons c css ih =>
      intro h
      obtain ⟨l, h1, h2, h3⟩ := ih fun x hx => h x (List.mem_cons_of_mem _ hx)
      obtain ⟨x, h4, h5⟩ := hfit c ((h c List.mem_cons_self).flat hf)
      exact ⟨x :: l, by simp [h1], fun y hy => by
        rcases List.mem_cons.1 hy with rfl | hy
        · exact h5
        · exact h2 y hy, by simp only [List.map_cons, h4, h3]⟩
  obtain ⟨l, h1, h2, h3⟩ := key css hcs
  exact ⟨l, h1, h2, h3 ▸ slice_rep hk hs hc fun c hc u hu => fits_plain ((hcs c hc).flat hf) u hu⟩
theorem maxLen_le : maxLen ≤ 9223372036854775807 := by decide
/-- A slice of flat things. -/
theorem reads_slice {e : TypeId} {k : Nat} {α : Type} {enc : α → List AV} {ok : α → Prop} {n : Nat} {ks : List CK} (h : Reads P w t v) (ht : P.underlying t = some (.slice e)) (hk : k = P.cellsOf e) (hpos : 0 < k) (hf : flat P n e = some ks) (hfit : ∀ cs, Fits ks cs → ∃ x : α, cs.map avOf = enc x ∧ ok x) :
    ∃ l : List α, l.length ≤ 9223372036854775807 ∧ (∀ x ∈ l, ok x) ∧ Rep w (Old w) [] [] [] (.ro (l.map enc)) v := by
  obtain ⟨a, cap, css, rfl, h1, h2, h3, h4⟩ := h.slice ht hk hpos
  obtain ⟨l, h5, h6, h7⟩ := rdc_slice hpos h1 h3 h4 hf hfit
  exact ⟨l, by have := maxLen_le; omega, h6, h7⟩
theorem fits_int {cs : List Value} (h : Fits [.i .i64] cs) : ∃ n : Int, cs.map avOf = [.int .i64 n] ∧ I64 n := by
  obtain ⟨c, rfl⟩ := List.length_eq_one_iff.1 h.length.symm
  obtain ⟨⟨n, hc, hn⟩, _⟩ := h
  subst hc; exact ⟨n, rfl, wf_i64 hn⟩
/-- A struct of one slice of flat things. -/
theorem reads_one {e ts : TypeId} {k : Nat} {α : Type} {enc : α → List AV} {ok : α → Prop} {n : Nat} {ks : List CK} {f : Field} (h : Reads P w t v) (ht : P.underlying t = some (.struct #[f])) (hoff : f.offset = 0) (hty : f.type = ts) (hc1 : P.cellsOf t = 1) (hc2 : P.cellsOf ts = 1) (hts : P.underlying ts = some (.slice e)) (hk : k = P.cellsOf e) (hpos : 0 < k) (hf : flat P n e = some ks) (hfit : ∀ cs, Fits ks cs → ∃ x : α, cs.map avOf = enc x ∧ ok x) :
    ∃ l : List α, l.length ≤ 9223372036854775807 ∧ (∀ x ∈ l, ok x) ∧ Rep w (Old w) [] [] [] (.agg [.ro (l.map enc)]) v := by
  obtain ⟨cs, rfl, hr⟩ := h.agg ht
  obtain ⟨h1, h2⟩ := hr.struct ht
  rw [hc1] at h1
  obtain ⟨c, rfl⟩ := List.length_eq_one_iff.1 h1
  have h3 := h2 f (by simp)
  rw [hoff, hty, hc2] at h3
  obtain ⟨a, cap, css, h4, h5, h6, h7, h8⟩ := h3.slice hts hk hpos
  simp at h4
  subst h4
  obtain ⟨l, h9, h10, h11⟩ := rdc_slice hpos h5 h7 h8 hf hfit
  refine ⟨l, by have := maxLen_le; omega, h10, .agg _ _ rfl (by simp [Value.oneCell']) fun i x u hx hu => ?_⟩
  cases i with
  | zero =>
    simp at hx hu
    subst hx; subst hu
    exact h11
  | succ i => simp at hx
/-- A struct of a number and a slice of flat things. -/
theorem reads_num_slice {kd : IntKind} {e ts tn : TypeId} {k : Nat} {α : Type} {enc : α → List AV} {ok : α → Prop} {n : Nat} {ks : List CK} {f g : Field} (h : Reads P w t v) (ht : P.underlying t = some (.struct #[f, g])) (hf0 : f.offset = 0) (hft : f.type = tn) (hg1 : g.offset = 1) (hgt : g.type = ts) (hc2 : P.cellsOf t = 2) (hcn : P.cellsOf tn = 1) (hcs : P.cellsOf ts = 1)
    (htn : P.underlying tn = some (.int kd)) (hts : P.underlying ts = some (.slice e)) (hk : k = P.cellsOf e) (hpos : 0 < k) (hf : flat P n e = some ks) (hfit : ∀ cs, Fits ks cs → ∃ x : α, cs.map avOf = enc x ∧ ok x) :
    ∃ (m : Int) (l : List α), l.length ≤ 9223372036854775807 ∧ (∀ x ∈ l, ok x) ∧ Rep w (Old w) [] [] [] (.agg [.int kd m, .ro (l.map enc)]) v := by
  obtain ⟨cs, rfl, hr⟩ := h.agg ht
  obtain ⟨h1, h2⟩ := hr.struct ht
  rw [hc2] at h1
  obtain ⟨c, d, rfl⟩ : ∃ c d, cs = [c, d] := by
    match cs, h1 with
    | [c, d], _ => exact ⟨c, d, rfl⟩
  have h3 := h2 f (by simp)
  rw [hf0, hft, hcn] at h3
  have h4 := h2 g (by simp)
  rw [hg1, hgt, hcs] at h4
  simp only [List.drop_succ_cons, List.drop_zero, List.take_succ_cons, List.take_zero] at h3 h4
  obtain ⟨m, hm, hw⟩ := RdC.int h3 htn
  simp at hm
  subst hm
  obtain ⟨a, cap, css, h5, h6, h7, h8, h9⟩ := h4.slice hts hk hpos
  simp at h5
  subst h5
  obtain ⟨l, k1, k2, k3⟩ := rdc_slice hpos h6 h8 h9 hf hfit
  refine ⟨m, l, by have := maxLen_le; omega, k2, .agg _ _ rfl (by simp [Value.oneCell']) fun i x u hx hu => ?_⟩
  match i with
  | 0 => simp at hx hu; subst hx; subst hu; exact .int _ _
  | 1 => simp at hx hu; subst hx; subst hu; exact k3
  | i + 2 => simp at hx
end Go.Proofs.YtnpdaegfmfkghaaDoor.D

/- Arguments that are read: prefixes, addresses, rows, tables, rows of numbers. No condition. -/
set_option linter.unusedSimpArgs false
set_option maxRecDepth 20000
namespace Go.Proofs.YtnpdaegfmfkghaaDoor.D
open Go Go.RowKit Go.Proofs.YtnpdaegfmfkghaaDoor.A Go.Proofs.YtnpdaegfmfkghaaDoor.J
variable {w : World} {P : Program} {t : TypeId} {v : Value}
def k8 : List CK := List.replicate 16 (.i .u8)
theorem fits_u8 : ∀ (n : Nat) (cs : List Value), Fits (List.replicate n (.i .u8)) cs → ∃ l : List Nat, l.length = n ∧ (∀ x ∈ l, x < 256) ∧ cs.map avOf = l.map u8c
  | 0, [], _ => ⟨[], rfl, by simp, rfl⟩
  | n + 1, c :: cs, h => by
    rw [List.replicate_succ] at h
    obtain ⟨⟨m, rfl, hm⟩, h2⟩ := h
    obtain ⟨l, h3, h4, h5⟩ := fits_u8 n cs h2
    have hm' : 0 ≤ m ∧ m ≤ 255 := by simp [Lit.wf] at hm; exact hm
    refine ⟨m.toNat :: l, by simp [h3], ?_, ?_⟩
    · intro x hx
      rcases List.mem_cons.1 hx with rfl | hx
      · omega
      · exact h4 x hx
    · simp only [List.map_cons, h5, avOf, u8c]
      rw [show ((m.toNat : Nat) : Int) = m by omega]
  | 0, _ :: _, h => h.elim
  | n + 1, [], h => by rw [List.replicate_succ] at h; exact h.elim
theorem fits_split : ∀ (k1 k2 : List CK) (cs : List Value), Fits (k1 ++ k2) cs → ∃ a b, cs = a ++ b ∧ Fits k1 a ∧ Fits k2 b
  | [], k2, cs, h => ⟨[], cs, rfl, trivial, h⟩
  | k :: k1, k2, c :: cs, h => by
    obtain ⟨a, b, rfl, h1, h2⟩ := fits_split k1 k2 cs h.2
    exact ⟨c :: a, b, rfl, ⟨h.1, h1⟩, h2⟩
  | _ :: _, _, [], h => h.elim
theorem fits_b16 {cs : List Value} (h : Fits k8 cs) : ∃ b : B16, cs.map avOf = bav b := by
  obtain ⟨l, h1, h2, h3⟩ := fits_u8 16 cs h
  exact ⟨⟨l, h1, h2⟩, h3⟩
theorem fits_adr {cs : List Value} (h : Fits (.i .i64 :: k8) cs) : ∃ a : Adr, cs.map avOf = aav a ∧ I64 a.ver := by
  match cs, h with
  | c :: cs, ⟨⟨n, hc, hn⟩, h2⟩ =>
    subst hc
    obtain ⟨b, hb⟩ := fits_b16 h2
    exact ⟨⟨n, b⟩, by simp only [List.map_cons, hb, avOf, aav], wf_i64 hn⟩
theorem fits_pfx {cs : List Value} (h : Fits (.i .i64 :: (k8 ++ [.i .i64])) cs) : ∃ p : Pfx, cs.map avOf = pav p ∧ I64 p.adr.ver ∧ I64 p.bits := by
  match cs, h with
  | c :: cs, ⟨⟨n, hc, hn⟩, h2⟩ =>
    subst hc
    obtain ⟨a, b, rfl, h3, h4⟩ := fits_split k8 [.i .i64] cs h2
    clear h2
    obtain ⟨b16, hb⟩ := fits_b16 h3
    obtain ⟨d, rfl⟩ := List.length_eq_one_iff.1 h4.length.symm
    obtain ⟨⟨m, hd, hm⟩, _⟩ := h4
    subst hd
    exact ⟨⟨⟨n, b16⟩, m⟩, by simp only [List.map_cons, List.map_append, hb, avOf, pav, List.map_nil], wf_i64 hn, wf_i64 hm⟩
theorem fits_rw {cs : List Value} (h : Fits (.i .i64 :: (k8 ++ [.i .i64, .i .i64])) cs) : ∃ r : Rw, cs.map avOf = rav r ∧ I64 r.p.adr.ver ∧ I64 r.p.bits ∧ I64 r.hop := by
  match cs, h with
  | c :: cs, ⟨⟨n, hc, hn⟩, h2⟩ =>
    subst hc
    obtain ⟨a, b, rfl, h3, h4⟩ := fits_split k8 [.i .i64, .i .i64] cs h2
    clear h2
    obtain ⟨b16, hb⟩ := fits_b16 h3
    obtain ⟨d, e, rfl⟩ : ∃ d e, b = [d, e] := by
      have h5 := h4.length
      match b, h5 with
      | [d, e], _ => exact ⟨d, e, rfl⟩
    obtain ⟨⟨m, hd, hm⟩, ⟨o, he, ho⟩, _⟩ := h4
    subst hd; subst he
    exact ⟨⟨⟨⟨n, b16⟩, m⟩, o⟩, by simp only [List.map_cons, List.map_append, hb, avOf, rav, List.map_nil], wf_i64 hn, wf_i64 hm, wf_i64 ho⟩
theorem reads_pfx {fs : Array Field} {n : Nat} (h : Reads P w t v) (ht : P.underlying t = some (.struct fs)) (hf : flat P n t = some (.i .i64 :: (k8 ++ [.i .i64]))) : ∃ p : Pfx, Rep w (Old w) [] [] [] (.agg (pav p)) v ∧ I64 p.adr.ver ∧ I64 p.bits := by
  obtain ⟨cs, h1, h2⟩ := reads_flat h ht hf
  obtain ⟨p, h3, h4⟩ := fits_pfx h1
  exact ⟨p, h3 ▸ h2, h4⟩
end Go.Proofs.YtnpdaegfmfkghaaDoor.D

/- Arguments that are read: rows of rows of flat things; truth values. No condition. -/
set_option linter.unusedSimpArgs false
set_option maxRecDepth 20000
namespace Go.Proofs.YtnpdaegfmfkghaaDoor.D
open Go Go.RowKit Go.Proofs.YtnpdaegfmfkghaaDoor.A Go.Proofs.YtnpdaegfmfkghaaDoor.J
variable {w : World} {P : Program} {t : TypeId} {v : Value}
theorem slice_repG {k : Nat} (hk : 0 < k) {a : Option Addr} {css : List (List Value)} {rows : List (List AV)} {cap : Nat} (hs : J.SlC w k a css) (hc : css.length ≤ cap) (hl : rows.length = css.length) (hr : ∀ r ∈ rows, r.length = k) (hd : rows.flatten.all AV.isData = true) (hrep : RepL w (Old w) [] [] rows.flatten css.flatten) :
    Rep w (Old w) [] [] [] (.ro rows) (.slice a css.length cap) := by
  cases css with
  | nil =>
    have : rows = [] := List.eq_nil_of_length_eq_zero hl
    subst this
    exact .ro0 a cap
  | cons c0 css =>
    obtain ⟨h0, b, o, rfl, _⟩ := hs 0 c0 rfl
    have hlen : ∀ c ∈ c0 :: css, c.length = k := fun c hc => by
      obtain ⟨i, hi, rfl⟩ := List.mem_iff_getElem.1 hc
      exact (hs i _ (List.getElem?_eq_getElem hi)).1
    have h9 := Rep.ro (w := w) (Pr := Old w) (σ := []) (γ := []) (ls := []) rows b o k cap (c0 :: css).flatten hk hr (by omega) (by rw [flatten_length _ hlen, hl]) (fun i v hv => ?_) hd hrep.2
    · rw [hl] at h9; exact h9
    · have hi : i < (c0 :: css).length * k := by rw [← flatten_length _ hlen]; exact (List.getElem?_eq_some_iff.1 hv).1
      have hq : i / k < (c0 :: css).length := (Nat.div_lt_iff_lt_mul hk).2 hi
      have hrow := flatten_row hlen (List.getElem?_eq_getElem hq)
      obtain ⟨_, b', o', e, hcell⟩ := hs (i / k) _ (List.getElem?_eq_getElem hq)
      cases e
      have hu : ((c0 :: css)[i / k])[i % k]? = some v := by
        have := congrArg (fun l => l[i % k]?) hrow
        simp only [List.getElem?_take, List.getElem?_drop] at this
        rw [if_pos (Nat.mod_lt _ hk)] at this
        rw [← this, Nat.mul_comm, Nat.div_add_mod]; exact hv
      have := hcell (i % k) v hu
      rw [Nat.add_assoc, Nat.mul_comm (i / k) k, Nat.div_add_mod] at this
      exact ⟨World.block_lt_of_cell? w _ this, this⟩
/-- Rows of rows of flat things. -/
theorem reads_rows2 {e pe : TypeId} {k : Nat} {α : Type} {enc : α → List AV} {ok : α → Prop} {n : Nat} {ks : List CK} (h : Reads P w t v) (ht : P.underlying t = some (.slice e)) (hc1 : 1 = P.cellsOf e) (he : P.underlying e = some (.slice pe)) (hk : k = P.cellsOf pe) (hpos : 0 < k) (hf : flat P n pe = some ks) (hfit : ∀ cs, Fits ks cs → ∃ x : α, cs.map avOf = enc x ∧ ok x) :
    ∃ ls : List (List α), ls.length ≤ 9223372036854775807 ∧ (∀ l ∈ ls, l.length ≤ 9223372036854775807 ∧ ∀ x ∈ l, ok x) ∧ Rep w (Old w) [] [] [] (.ro (ls.map fun l => [.ro (l.map enc)])) v := by
  obtain ⟨a, cap, css, rfl, h1, h2, h3, h4⟩ := h.slice ht hc1 (by decide)
  have key : ∀ css : List (List Value), (∀ c ∈ css, RdC P w e c) → ∃ ls : List (List α), ls.length = css.length ∧ (∀ l ∈ ls, l.length ≤ 9223372036854775807 ∧ ∀ x ∈ l, ok x) ∧ RepL w (Old w) [] [] (ls.map fun l => AV.ro (l.map enc)) css.flatten := by
    intro css
    induction css with
    | nil => exact fun _ => ⟨[], rfl, by simp, rfl, fun i a v h => by simp at h⟩
    | cons c css ih =>
      intro h
      obtain ⟨ls, g1, g2, g3⟩ := ih fun x hx => h x (List.mem_cons_of_mem _ hx)
      obtain ⟨a', cap', css', rfl, k1, k2, k3, k4⟩ := (h c List.mem_cons_self).slice he hk hpos
      obtain ⟨l, q1, q2, q3⟩ := rdc_slice hpos k1 k3 k4 hf hfit
      refine ⟨l :: ls, by simp [g1], fun x hx => ?_, ?_, fun i a v ha hv => ?_⟩
      · rcases List.mem_cons.1 hx with rfl | hx
        · exact ⟨by have := maxLen_le; omega, q2⟩
        · exact g2 x hx
      · simp only [List.map_cons, List.length_cons, List.flatten_cons, List.length_append, List.length_nil]
        have := g3.1
        omega
      · cases i with
        | zero =>
          simp at ha hv
          subst ha; subst hv
          exact q3
        | succ i =>
          simp only [List.map_cons, List.getElem?_cons_succ, List.flatten_cons, List.cons_append, List.nil_append] at ha hv
          exact g3.2 i a v ha hv
  obtain ⟨ls, h5, h6, h7⟩ := key css h4
  have hfl : (ls.map fun l => [AV.ro (l.map enc)]).flatten = ls.map fun l => AV.ro (l.map enc) := by
    clear h5 h6 h7
    induction ls with
    | nil => rfl
    | cons l ls ih => simp only [List.map_cons, List.flatten_cons, ih]; rfl
  refine ⟨ls, by have := maxLen_le; omega, h6, slice_repG (by decide) h3 h1 (by simp [h5]) (fun r hr => ?_) ?_ (by rw [hfl]; exact h7)⟩
  · obtain ⟨l, _, rfl⟩ := List.mem_map.1 hr; rfl
  · rw [hfl, List.all_map]
    exact List.all_eq_true.2 fun l _ => rfl
theorem reads_bool (h : Reads P w t v) (ht : P.underlying t = some .bool) : ∃ b, Rep w (Old w) [] [] [] (.bool b) v := by
  obtain ⟨b, rfl⟩ := h.bool ht
  exact ⟨b, .bool b⟩
theorem fits_byte {cs : List Value} (h : Fits [.i .u8] cs) : ∃ x : Nat, cs.map avOf = [.int .u8 (x : Int)] ∧ x < 256 := by
  obtain ⟨c, rfl⟩ := List.length_eq_one_iff.1 h.length.symm
  obtain ⟨⟨n, hc, hn⟩, _⟩ := h
  have hn' : 0 ≤ n ∧ n ≤ 255 := by simp [Lit.wf] at hn; exact hn
  subst hc
  exact ⟨n.toNat, by rw [show ((n.toNat : Nat) : Int) = n by omega]; rfl, by omega⟩
end Go.Proofs.YtnpdaegfmfkghaaDoor.D

/- CoverSame and CoverParts: what sets of addresses say of unions, meets and rests, and the runs. No condition. -/
set_option linter.unusedSimpArgs false
namespace Go.Proofs.YtnpdaegfmfkghaaDoor.D
open Go Go.Proofs.YtnpdaegfmfkghaaDoor.A
theorem meet_form {a b : List Pfx} (ha : Oks a) (hb : Oks b) : Form (oneL (meetL a b)) ∧ (∀ t, CovP (oneL (meetL a b)) t ↔ CovP a t ∧ CovP b t) ∧ (oneL (meetL a b)).length ≤ a.length * (b.length * 2) := by
  obtain ⟨h1, h2, h3⟩ := oneL_ok (meet_oks a b)
  have := meet_len a b
  exact ⟨h1, fun t => by rw [h2, meet_cov ha hb], by omega⟩
theorem union_form {a b : List Pfx} (ha : Oks a) (hb : Oks b) : Form (oneL (a ++ b)) ∧ (∀ t, CovP (oneL (a ++ b)) t ↔ CovP a t ∨ CovP b t) ∧ (oneL (a ++ b)).length ≤ a.length + b.length ∧ oneL (oneL (a ++ b)) = oneL (a ++ b) := by
  have hab : Oks (a ++ b) := fun p hp => (List.mem_append.1 hp).elim (ha p) (hb p)
  obtain ⟨h1, h2, h3⟩ := oneL_ok hab
  rw [List.length_append] at h3
  exact ⟨h1, fun t => by rw [h2, covP_app], h3, oneL_id h1⟩
theorem minus_form {a b : List Pfx} (ha : Oks a) (hb : Oks b) : Form (oneL (minusL a b)) ∧ ∀ t, CovP (oneL (minusL a b)) t ↔ CovP a t ∧ ¬ CovP b t := by
  obtain ⟨g1, g2⟩ := minus_ok ha hb
  obtain ⟨h1, h2, h3⟩ := oneL_ok g1
  exact ⟨h1, fun t => by rw [h2, g2]⟩
theorem both_ok {a b L : List Pfx} (ha : chkB a = true) (hb : chkB b = true) (hl : (oneL L).length ≤ 300) : bothS a b L = (oneL L, 0) := by
  unfold bothS; rw [if_pos ha, if_pos hb, if_neg (by omega)]
theorem in_iff {a b : List Pfx} (ha : Form a) (hb : Form b) : oneL (meetL a b) = a ↔ ∀ t, CovP a t → CovP b t := by
  obtain ⟨h1, h2, _⟩ := meet_form ha.2 hb.2
  constructor
  · intro e t ht
    rw [← e, h2] at ht; exact ht.2
  · intro h
    exact h1.unique ha fun t => by rw [h2]; exact ⟨fun k => k.1, fun k => ⟨k, h t k⟩⟩
theorem un_iff {a b : List Pfx} (ha : Form a) (hb : Form b) : oneL (a ++ b) = b ↔ ∀ t, CovP a t → CovP b t := by
  obtain ⟨h1, h2, _⟩ := union_form ha.2 hb.2
  constructor
  · intro e t ht
    rw [← e, h2]; exact .inl ht
  · intro h
    exact h1.unique hb fun t => by rw [h2]; exact ⟨fun k => k.elim (h t) id, .inr⟩
theorem un_comm {a b : List Pfx} (ha : Form a) (hb : Form b) : oneL (a ++ b) = oneL (b ++ a) := by
  obtain ⟨h1, h2, _⟩ := union_form ha.2 hb.2
  obtain ⟨k1, k2, _⟩ := union_form hb.2 ha.2
  exact h1.unique k1 fun t => by rw [h2, k2, or_comm]
theorem form_again {a : List Pfx} (hf : Form a) (hl : a.length ≤ 12) : formS a = (a, true) := by
  unfold formS oneS
  rw [List.take_of_length_le hl, if_neg (by omega), if_pos ((okB_iff a).2 hf.2), oneL_id hf]; rfl
theorem rows_all (l : List Pfx) : (prows l).take l.length = prows l := by rw [prows_take, List.take_length]
theorem form_of {x : List Pfx} (h : (formS x).2 = true) : Form (formS x).1 ∧ (formS x).1.length ≤ 12 ∧ chkB (formS x).1 = true ∧ Oks (x.take 12) ∧ (∀ a, CovP (formS x).1 a ↔ CovP (x.take 12) a) := by
  have h12 := F.take12 x
  unfold formS at *
  have hs : oneS (x.take 12) = if okB (x.take 12) = true then (oneL (x.take 12), 0) else ([], 151) := by unfold oneS; rw [if_neg (by omega)]
  simp only [hs] at h ⊢
  by_cases hk : okB (x.take 12) = true
  · rw [if_pos hk]
    have ho := (okB_iff _).1 hk
    obtain ⟨a1, a2, a3⟩ := oneL_ok ho
    exact ⟨a1, by simp only; omega, (chk_iff _).2 ⟨by simp only; omega, a1⟩, ho, a2⟩
  · rw [if_neg hk] at h; simp at h
end Go.Proofs.YtnpdaegfmfkghaaDoor.D
namespace Go.Proofs.YtnpdaegfmfkghaaDoor.F
open Go Go.Proofs.YtnpdaegfmfkghaaDoor.A Go.Proofs.YtnpdaegfmfkghaaDoor.D
set_option maxHeartbeats 2000000 in
theorem sameLaw (x y : List Pfx) (hx : x.length ≤ 9223372036854775807) (hy : y.length ≤ 9223372036854775807) : LV E 8 [.ro (prows x), .ro (prows y)] = some (.bool true) := by
  rw [LV_R (fn := f8) rfl rfl rfl]
  have hx17 := e17 x hx
  have hy17 := e17 y hy
  cases hk : (formS x).2 with
  | false =>
    rw [hk] at hx17
    simp only [f8, RB, pickV, eqbV, notV, negV, convV, faddrV, fldV, idxV, eqaggV, iaddrV, isnilV, nilckV, pnilV, cloV, extrV, slenV, minV, sidxV, abin, cmpInt, params, growLists, fillCells, newAt, rdPtr, wrPtr, AV.cells, asVal, lenOf, boundOf, rowsOf, argIds, freshIn, scalar1, setAll, AV.isData, AV.isYld, Nat.reduceAdd, Nat.reduceMul, Nat.reduceSub, Nat.reduceEqDiff, Nat.reduceLeDiff, Nat.reduceLT, Int.reduceNeg, ↓reduceIte, reduceCtorEq, Int.reduceEq, Int.reduceLT, Int.reduceLE, Int.reduceBEq, Int.reduceBNe, Int.reduceToNat, IntKind.bits, Int.reduceAdd, Int.reduceSub, Int.reduceMul, Int.reduceTDiv, Int.reduceTMod, R7B, e9, hx17, hy17, freshIn]
  | true =>
    cases hj : (formS y).2 with
    | false =>
      rw [hk] at hx17
      rw [hj] at hy17
      simp only [f8, RB, pickV, eqbV, notV, negV, convV, faddrV, fldV, idxV, eqaggV, iaddrV, isnilV, nilckV, pnilV, cloV, extrV, slenV, minV, sidxV, abin, cmpInt, params, growLists, fillCells, newAt, rdPtr, wrPtr, AV.cells, asVal, lenOf, boundOf, rowsOf, argIds, freshIn, scalar1, setAll, AV.isData, AV.isYld, Nat.reduceAdd, Nat.reduceMul, Nat.reduceSub, Nat.reduceEqDiff, Nat.reduceLeDiff, Nat.reduceLT, Int.reduceNeg, ↓reduceIte, reduceCtorEq, Int.reduceEq, Int.reduceLT, Int.reduceLE, Int.reduceBEq, Int.reduceBNe, Int.reduceToNat, IntKind.bits, Int.reduceAdd, Int.reduceSub, Int.reduceMul, Int.reduceTDiv, Int.reduceTMod, R7B, e9, hx17, hy17, freshIn]
    | true =>
      rw [hk] at hx17
      rw [hj] at hy17
      obtain ⟨hf, hlen, hchk, _, _⟩ := form_of hk
      obtain ⟨gf, glen, gchk, _, _⟩ := form_of hj
      generalize (formS x).1 = a at *
      generalize (formS y).1 = b at *
      have h17 := e17 a (by omega)
      rw [form_again hf hlen] at h17
      obtain ⟨m1, m2, m3⟩ := meet_form hf.2 gf.2
      obtain ⟨n1, n2, n3⟩ := meet_form gf.2 hf.2
      obtain ⟨u1, u2, u3, u4⟩ := union_form hf.2 gf.2
      obtain ⟨v1, v2, v3, v4⟩ := union_form gf.2 hf.2
      have l1 : a.length * (b.length * 2) ≤ 12 * (12 * 2) := Nat.mul_le_mul hlen (by omega)
      have l2 : b.length * (a.length * 2) ≤ 12 * (12 * 2) := Nat.mul_le_mul glen (by omega)
      have h30 := e30 a b (by omega) (by omega)
      have k30 := e30 b a (by omega) (by omega)
      rw [both_ok hchk gchk (by omega)] at h30
      rw [both_ok gchk hchk (by omega)] at k30
      have h23 := e23 a b (by omega) (by omega)
      have k23 := e23 b a (by omega) (by omega)
      rw [both_ok hchk gchk (by rw [u4]; omega), u4] at h23
      rw [both_ok gchk hchk (by rw [v4]; omega), v4, ← un_comm hf gf] at k23
      have haa := e29 a a (by omega)
      have hab := e29 a b (by omega)
      have huu := e29 (oneL (a ++ b)) (oneL (a ++ b)) (by omega)
      have hub := e29 (oneL (a ++ b)) b (by omega)
      have q1 : decide (oneL (meetL a b) = a) = decide (oneL (a ++ b) = b) := decide_eq_decide.2 ((in_iff hf gf).trans (un_iff hf gf).symm)
      have q2 : (decide (oneL (a ++ b) = b) && decide (oneL (meetL b a) = b)) = decide (a = b) := by
        rw [← q1, ← Bool.decide_and]
        refine decide_eq_decide.2 ⟨fun h => hf.unique gf fun t => ⟨(in_iff hf gf).1 h.1 t, (in_iff gf hf).1 h.2 t⟩, fun h => ?_⟩
        subst h
        exact ⟨(in_iff hf hf).2 fun _ h => h, (in_iff hf hf).2 fun _ h => h⟩
      rw [decide_eq_true rfl] at haa huu
      simp only [decide_true, Bool.true_and, q1] at h30 k30
      generalize oneL (a ++ b) = U at *
      generalize decide (oneL (meetL b a) = b) = o at *
      have f12 : (a.length : Int) ≤ 12 := by omega
      have ee : ∀ p q : Bool, (p == q) = decide (p = q) := fun p q => by cases p <;> cases q <;> rfl
      rw [← q2] at hab
      clear q1 q2
      generalize decide (U = b) = d at *
      cases d <;> cases o <;>
      simp only [f8, RB, pickV, eqbV, notV, negV, convV, faddrV, fldV, idxV, eqaggV, iaddrV, isnilV, nilckV, pnilV, cloV, extrV, slenV, minV, sidxV, abin, cmpInt, params, growLists, fillCells, newAt, rdPtr, wrPtr, AV.cells, asVal, lenOf, boundOf, rowsOf, argIds, freshIn, scalar1, setAll, AV.isData, AV.isYld, Nat.reduceAdd, Nat.reduceMul, Nat.reduceSub, Nat.reduceEqDiff, Nat.reduceLeDiff, Nat.reduceLT, Int.reduceNeg, ↓reduceIte, reduceCtorEq, Int.reduceEq, Int.reduceLT, Int.reduceLE, Int.reduceBEq, Int.reduceBNe, Int.reduceToNat, IntKind.bits, Int.reduceAdd, Int.reduceSub, Int.reduceMul, Int.reduceTDiv, Int.reduceTMod, R7B, e9, hx17, hy17, h17, freshIn, prows_len, rows_all, lockAt, lockAll, CW_some, scalar, h30, k30, h23, k23, haa, hab, hub, huu, bne_self_eq_false, f12]
      done
end Go.Proofs.YtnpdaegfmfkghaaDoor.F

/- CoverMembers: an address within a prefix, drawn from a byte; addresses as cells. No condition. -/
set_option linter.unusedSimpArgs false
set_option maxRecDepth 20000
namespace Go.Proofs.YtnpdaegfmfkghaaDoor.D
open Go Go.Proofs.YtnpdaegfmfkghaaDoor.A
theorem aav_i (a : Adr) (n : Nat) (h : n < 16) : piece (aav a) (1 + n) 1 = some [.int .u8 (a.b.get n : Int)] := by
  have h1 := bav_i a.b n h
  unfold piece at h1 ⊢
  rw [if_pos (by rw [bav_len]; omega)] at h1
  rw [if_pos (by rw [aav_len]; omega), ← h1, Nat.add_comm 1 n]
  simp only [aav, List.drop_succ_cons]
theorem aav_put (a : Adr) {n v : Nat} (hn : n < 16) (hv : v < 256) : ovr (aav a) (1 + n) [.int .u8 (v : Int)] = some (aav ⟨a.ver, a.b.put n v⟩) := by
  have h := bav_put a.b hn hv
  unfold ovr at h ⊢
  rw [if_pos (by simp [bav_len]; omega)] at h
  rw [if_pos (by simp [aav_len]; omega)]
  have h' := Option.some.inj h
  simp only [aav, ← h', Nat.add_comm 1 n, List.take_succ_cons, List.length_cons, List.length_nil, Nat.zero_add, List.drop_succ_cons, List.cons_append]
theorem bor_lt (b : B16) (i : Nat) : b.get (i / 8) ||| 128 / 2 ^ (i % 8) < 256 := by
  rw [pow7 (Nat.mod_lt _ (by decide))]
  exact Nat.or_lt_two_pow (n := 8) (b.get_lt _) (Nat.pow_lt_pow_right (by decide) (by omega))
def insB (b : B16) (x k : Nat) : B16 := if x / 2 ^ (k % 8) % 2 = 1 then b.put (k / 8) (b.get (k / 8) ||| 128 / 2 ^ (k % 8)) else b
def insL (x : Nat) : Nat → Nat → B16 → B16
  | 0, _, b => b
  | n + 1, k, b => insL x n (k + 1) (insB b x k)
def insS (p : Pfx) (x : Nat) : Adr := ⟨p.adr.ver, insL x (width p.adr.ver - p.bits.toNat) p.bits.toNat p.adr.b⟩
end Go.Proofs.YtnpdaegfmfkghaaDoor.D
namespace Go.Proofs.YtnpdaegfmfkghaaDoor.F
open Go Go.Proofs.YtnpdaegfmfkghaaDoor.A Go.Proofs.YtnpdaegfmfkghaaDoor.D
set_option maxHeartbeats 1000000 in
theorem e49 (p : Pfx) (x : Nat) (hp : PfxOk p) (hx : x < 256) : LV E 49 [.agg (pav p), .int .u8 (x : Int)] = some (.agg (aav (insS p x))) := by
  rw [LV_R (fn := f49) rfl rfl rfl]
  obtain ⟨n, hn⟩ : ∃ n : Nat, p.bits = (n : Int) := ⟨p.bits.toNat, by have := hp.2.1; omega⟩
  have hw := width_le p.adr.ver
  simp only [f49, ← aav_zer, RB, pickV, eqbV, notV, negV, convV, faddrV, fldV, idxV, eqaggV, iaddrV, isnilV, nilckV, pnilV, cloV, extrV, slenV, minV, sidxV, abin, cmpInt, params, growLists, fillCells, newAt, rdPtr, wrPtr, AV.cells, asVal, lenOf, boundOf, rowsOf, argIds, freshIn, scalar1, setAll, AV.isData, AV.isYld, Nat.reduceAdd, Nat.reduceMul, Nat.reduceSub, Nat.reduceEqDiff, Nat.reduceLeDiff, Nat.reduceLT, Int.reduceNeg, ↓reduceIte, reduceCtorEq, Int.reduceEq, Int.reduceLT, Int.reduceLE, Int.reduceBEq, Int.reduceBNe, Int.reduceToNat, IntKind.bits, Int.reduceAdd, Int.reduceSub, Int.reduceMul, Int.reduceTDiv, Int.reduceTMod, DB]
  unfold insS
  rw [hn, Int.toNat_natCast]
  refine (W_rec2 (β := AV) (ι := Nat × B16) (M := fun s => [(1, .int .u8 (x : Int)), (4, .ptr 1 0 0 0), (5, .ptr 2 0 0 0), (6, .int .i64 (s.1 : Int))])
    (H := fun s => ⟨[.box 0 37 (pav p), .box 0 35 (aav zerA), .box 0 35 (aav ⟨p.adr.ver, s.2⟩)], []⟩)
    (r := fun s => some (AV.agg (aav ⟨p.adr.ver, insL x (width p.adr.ver - s.1) s.1 s.2⟩))) (μ := fun s => width p.adr.ver - s.1) (fun s => ?_) (fun s ih => ?_) (n, p.adr.b) rfl rfl)
  · simp [LPB]
  · obtain ⟨k, b⟩ := s
    simp only at ih ⊢
    by_cases hk : k < width p.adr.ver
    · have f1 : (k : Int) < (width p.adr.ver : Int) := by omega
      have f3 : ((k / 8 : Nat) : Int) < 16 := by omega
      have f4 : (0 : Int) ≤ ((k / 8 : Nat) : Int) := by omega
      have f6 : IntKind.i64.wrap ((k : Int) + 1) = ((k + 1 : Nat) : Int) := by rw [IntWalk.i64_in _ (by omega)] <;> omega
      have f7 : IntKind.u64.wrap ((k % 8 : Nat) : Int) = ((k % 8 : Nat) : Int) := IntWalk.u64_in _ (by omega)
      have f8 : (0 : Int) ≤ ((k % 8 : Nat) : Int) := by omega
      have f9 : (128 : Int).fdiv (2 ^ (Nat.min (k % 8) 8)) = ((128 / 2 ^ (k % 8) : Nat) : Int) := shrN 128 (k % 8) (by omega)
      have f10 : (x : Int).fdiv (2 ^ (Nat.min (k % 8) 8)) = ((x / 2 ^ (k % 8) : Nat) : Int) := shrN x (k % 8) (by omega)
      have f11 : bits2 .and .u8 ((x / 2 ^ (k % 8) : Nat) : Int) 1 = some ((x / 2 ^ (k % 8) % 2 : Nat) : Int) := and1 _ (Nat.lt_of_le_of_lt (Nat.div_le_self _ _) hx)
      have g3 := aav_i ⟨p.adr.ver, b⟩ (k / 8) (by omega)
      have g4 := aav_put ⟨p.adr.ver, b⟩ (show k / 8 < 16 by omega) (bor_lt b k)
      have g5 := or_u8 _ (k % 8) (b.get_lt (k / 8)) (by omega)
      have ih := ih (k + 1, insB b x k) (by simp only; omega)
      simp only at ih
      have e : insL x (width p.adr.ver - k) k b = insL x (width p.adr.ver - (k + 1)) (k + 1) (insB b x k) := by
        rw [show width p.adr.ver - k = (width p.adr.ver - (k + 1)) + 1 by omega]; rfl
      rw [e]
      by_cases hb : x / 2 ^ (k % 8) % 2 = 1
      · have f12 : (((x / 2 ^ (k % 8) % 2 : Nat) : Int) == 1) = true := by rw [beq_iff_eq]; omega
        have e2 : insB b x k = b.put (k / 8) (b.get (k / 8) ||| 128 / 2 ^ (k % 8)) := if_pos hb
        rw [e2] at ih ⊢
        simp only [RB, pickV, eqbV, notV, negV, convV, faddrV, fldV, idxV, eqaggV, iaddrV, isnilV, nilckV, pnilV, cloV, extrV, slenV, minV, sidxV, abin, cmpInt, params, growLists, fillCells, newAt, rdPtr, wrPtr, AV.cells, asVal, lenOf, boundOf, rowsOf, argIds, freshIn, scalar1, setAll, AV.isData, AV.isYld, Nat.reduceAdd, Nat.reduceMul, Nat.reduceSub, Nat.reduceEqDiff, Nat.reduceLeDiff, Nat.reduceLT, Int.reduceNeg, ↓reduceIte, reduceCtorEq, Int.reduceEq, Int.reduceLT, Int.reduceLE, Int.reduceBEq, Int.reduceBNe, Int.reduceToNat, IntKind.bits, Int.reduceAdd, Int.reduceSub, Int.reduceMul, Int.reduceTDiv, Int.reduceTMod, DB, e_ref05_Width, f1, f3, f4, f6, f7, f8, f9, f10, f11, f12, quo8 k (by omega), rem8, g3, g4, g5]
        exact ih
      · have f12 : (((x / 2 ^ (k % 8) % 2 : Nat) : Int) == 1) = false := by rw [beq_eq_false_iff_ne]; omega
        have e2 : insB b x k = b := if_neg hb
        rw [e2] at ih ⊢
        simp only [RB, pickV, eqbV, notV, negV, convV, faddrV, fldV, idxV, eqaggV, iaddrV, isnilV, nilckV, pnilV, cloV, extrV, slenV, minV, sidxV, abin, cmpInt, params, growLists, fillCells, newAt, rdPtr, wrPtr, AV.cells, asVal, lenOf, boundOf, rowsOf, argIds, freshIn, scalar1, setAll, AV.isData, AV.isYld, Nat.reduceAdd, Nat.reduceMul, Nat.reduceSub, Nat.reduceEqDiff, Nat.reduceLeDiff, Nat.reduceLT, Int.reduceNeg, ↓reduceIte, reduceCtorEq, Int.reduceEq, Int.reduceLT, Int.reduceLE, Int.reduceBEq, Int.reduceBNe, Int.reduceToNat, IntKind.bits, Int.reduceAdd, Int.reduceSub, Int.reduceMul, Int.reduceTDiv, Int.reduceTMod, DB, e_ref05_Width, f1, f3, f4, f6, f7, f8, f9, f10, f11, f12, quo8 k (by omega), rem8]
        exact ih
    · have e : insL x (width p.adr.ver - k) k b = b := by rw [show width p.adr.ver - k = 0 by omega]; rfl
      rw [e]
      simp only [RB, pickV, eqbV, notV, negV, convV, faddrV, fldV, idxV, eqaggV, iaddrV, isnilV, nilckV, pnilV, cloV, extrV, slenV, minV, sidxV, abin, cmpInt, params, growLists, fillCells, newAt, rdPtr, wrPtr, AV.cells, asVal, lenOf, boundOf, rowsOf, argIds, freshIn, scalar1, setAll, AV.isData, AV.isYld, Nat.reduceAdd, Nat.reduceMul, Nat.reduceSub, Nat.reduceEqDiff, Nat.reduceLeDiff, Nat.reduceLT, Int.reduceNeg, ↓reduceIte, reduceCtorEq, Int.reduceEq, Int.reduceLT, Int.reduceLE, Int.reduceBEq, Int.reduceBNe, Int.reduceToNat, IntKind.bits, Int.reduceAdd, Int.reduceSub, Int.reduceMul, Int.reduceTDiv, Int.reduceTMod, DB, e_ref05_Width, show ¬ (k : Int) < (width p.adr.ver : Int) by omega]
end Go.Proofs.YtnpdaegfmfkghaaDoor.F

/- CoverMembers: the probes. No condition. -/
set_option linter.unusedSimpArgs false
set_option maxRecDepth 20000
namespace Go.Proofs.YtnpdaegfmfkghaaDoor.D
open Go Go.Proofs.YtnpdaegfmfkghaaDoor.A
def urows (l : List Nat) : List (List AV) := l.map fun x : Nat => [.int .u8 (x : Int)]
theorem urows_len (l : List Nat) : (urows l).length = l.length := by simp [urows]
theorem urows_get (l : List Nat) {i : Nat} (h : i < l.length) : (urows l)[i]? = some [.int .u8 (l[i] : Int)] := by simp [urows, h]
def adrs (l : List Adr) : List (List AV) := l.map aav
theorem adrs_len (l : List Adr) : (adrs l).length = l.length := by simp [adrs]
theorem adrs_get (l : List Adr) {i : Nat} (h : i < l.length) : (adrs l)[i]? = some (aav l[i]) := by simp [adrs, h]
theorem adrs_snoc (l : List Adr) (a : Adr) : adrs l ++ [aav a] = adrs (l ++ [a]) := by simp [adrs]
theorem adrs_all (l : List Adr) : (adrs l).take l.length = adrs l := by rw [← adrs_len, List.take_length]
theorem adrs_fit (l : List Adr) : headFits 17 (adrs l) = true := by
  cases l with
  | nil => rfl
  | cons a l => simp [headFits, adrs, aav_len]
theorem app_ok {n k i j m : Nat} (h : n ≤ 96 * k + 8 * i + 2 * j) (h1 : i ≤ 12) (h2 : j ≤ 4) (h3 : k < m) (h4 : m ≤ 1000) : (n + 1) * 24 ≤ 140737488355328 ∧ n + 1 ≤ 4611686018427387904 ∧ (n + 1 + 1) * 24 ≤ 140737488355328 ∧ n + 1 + 1 ≤ 4611686018427387904 := by
  have : n ≤ 1000000 := by omega
  clear h
  exact ⟨by omega, by omega, by omega, by omega⟩
end Go.Proofs.YtnpdaegfmfkghaaDoor.D
namespace Go.Proofs.YtnpdaegfmfkghaaDoor.F
open Go Go.Proofs.YtnpdaegfmfkghaaDoor.A Go.Proofs.YtnpdaegfmfkghaaDoor.D
set_option maxHeartbeats 4000000 in
theorem e27 (z : List Nat) (ls : List (List Pfx)) (hz : z.length ≤ 9223372036854775807) (hz2 : ∀ c ∈ z, c < 256) (hl : ls.length ≤ 1000) (h : ∀ l ∈ ls, l.length ≤ 9223372036854775807 ∧ Oks (l.take 12)) :
    ∃ ps : List Adr, LV E 27 [.ro (urows z), .clip (xrows ls)] = some (.fresh 35 17 (adrs ps)) ∧ ps.length ≤ 1000000 := by
  rw [LV_R (fn := f27) rfl rfl rfl]
  simp only [f27, RB, pickV, eqbV, notV, negV, convV, faddrV, fldV, idxV, eqaggV, iaddrV, isnilV, nilckV, pnilV, cloV, extrV, slenV, minV, sidxV, abin, cmpInt, params, growLists, fillCells, newAt, rdPtr, wrPtr, AV.cells, asVal, lenOf, boundOf, rowsOf, argIds, freshIn, scalar1, setAll, AV.isData, AV.isYld, Nat.reduceAdd, Nat.reduceMul, Nat.reduceSub, Nat.reduceEqDiff, Nat.reduceLeDiff, Nat.reduceLT, Int.reduceNeg, ↓reduceIte, reduceCtorEq, Int.reduceEq, Int.reduceLT, Int.reduceLE, Int.reduceBEq, Int.reduceBNe, Int.reduceToNat, IntKind.bits, Int.reduceAdd, Int.reduceSub, Int.reduceMul, Int.reduceTDiv, Int.reduceTMod, xrows_len]
  refine W_recP2 (β := AV) (Q := fun _ x => ∃ ps : List Adr, x = some (AV.fresh 35 17 (adrs ps)) ∧ ps.length ≤ 1000000) (ι := {s : Nat × List Adr // s.1 ≤ ls.length ∧ s.2.length ≤ 96 * s.1})
    (M := fun s => [(0, .ro (urows z)), (5, .lis 1 s.1.2.length 0 s.1.2.length), (13, .clip (xrows ls)), (14, .int .i64 (ls.length : Int)), (15, .int .i64 (s.1.1 : Int))])
    (H := fun s => ⟨[.lst 0 0 35 17 [], .lst 0 s.1.2.length 35 17 (adrs s.1.2)], []⟩) (μ := fun s => ls.length - s.1.1) (fun s => ⟨?_, ?_⟩) (fun s ih => ?_) ⟨(0, []), Nat.zero_le _, Nat.zero_le _⟩ rfl rfl
  · simp [LPB]
  · simp [LPB]
  · obtain ⟨⟨k, ps⟩, hk0, hps⟩ := s
    simp only at ih hk0 hps ⊢
    by_cases hk : k < ls.length
    · have f1 : (k : Int) < (ls.length : Int) := by omega
      have f2 : (0 : Int) ≤ (k : Int) := by omega
      have f6 : IntKind.i64.wrap ((k : Int) + 1) = ((k + 1 : Nat) : Int) := by rw [IntWalk.i64_in _ (by omega)] <;> omega
      have g1 := xrows_get ls hk
      obtain ⟨hll, hoks⟩ := h ls[k] (List.getElem_mem hk)
      generalize ls[k] = l at *
      simp only [RB, pickV, eqbV, notV, negV, convV, faddrV, fldV, idxV, eqaggV, iaddrV, isnilV, nilckV, pnilV, cloV, extrV, slenV, minV, sidxV, abin, cmpInt, params, growLists, fillCells, newAt, rdPtr, wrPtr, AV.cells, asVal, lenOf, boundOf, rowsOf, argIds, freshIn, scalar1, setAll, AV.isData, AV.isYld, Nat.reduceAdd, Nat.reduceMul, Nat.reduceSub, Nat.reduceEqDiff, Nat.reduceLeDiff, Nat.reduceLT, Int.reduceNeg, ↓reduceIte, reduceCtorEq, Int.reduceEq, Int.reduceLT, Int.reduceLE, Int.reduceBEq, Int.reduceBNe, Int.reduceToNat, IntKind.bits, Int.reduceAdd, Int.reduceSub, Int.reduceMul, Int.reduceTDiv, Int.reduceTMod, f1, f2, g1, prows_len]
      refine W_recP2 (β := AV) (Q := fun _ x => ∃ ps : List Adr, x = some (AV.fresh 35 17 (adrs ps)) ∧ ps.length ≤ 1000000) (ι := {s : Nat × List Adr // s.1 ≤ 12 ∧ s.1 ≤ l.length ∧ s.2.length ≤ 96 * k + 8 * s.1})
        (M := fun s => [(0, .ro (urows z)), (5, .lis 1 s.1.2.length 0 s.1.2.length), (13, .clip (xrows ls)), (14, .int .i64 (ls.length : Int)), (15, .int .i64 (k : Int)), (19, .ro (prows l)), (20, .int .i64 (l.length : Int)), (21, .int .i64 (s.1.1 : Int))])
        (H := fun s => ⟨[.lst 0 0 35 17 [], .lst 0 s.1.2.length 35 17 (adrs s.1.2)], []⟩) (μ := fun s => l.length - s.1.1) (fun s => ⟨?_, ?_⟩) (fun s jh => ?_) ⟨(0, ps), Nat.zero_le _, Nat.zero_le _, by simp only; omega⟩ rfl rfl
      · simp [LPB]
      · simp [LPB]
      · clear hps
        obtain ⟨⟨i, ps⟩, hi12, hil0, hps⟩ := s
        simp only at jh hi12 hil0 hps ⊢
        have ih := ih ⟨(k + 1, ps), hk, by simp only; omega⟩ (by simp only; omega)
        by_cases hi : i < l.length
        · have i1 : (i : Int) < (l.length : Int) := by omega
          have i2 : (0 : Int) ≤ (i : Int) := by omega
          have i6 : IntKind.i64.wrap ((i : Int) + 1) = ((i + 1 : Nat) : Int) := by rw [IntWalk.i64_in _ (by omega)] <;> omega
          have g2 := prows_get l hi
          by_cases h12 : i = 12
          · have b12 : ((i : Int) == 12) = true := by rw [beq_iff_eq]; omega
            simp only [RB, pickV, eqbV, notV, negV, convV, faddrV, fldV, idxV, eqaggV, iaddrV, isnilV, nilckV, pnilV, cloV, extrV, slenV, minV, sidxV, abin, cmpInt, params, growLists, fillCells, newAt, rdPtr, wrPtr, AV.cells, asVal, lenOf, boundOf, rowsOf, argIds, freshIn, scalar1, setAll, AV.isData, AV.isYld, Nat.reduceAdd, Nat.reduceMul, Nat.reduceSub, Nat.reduceEqDiff, Nat.reduceLeDiff, Nat.reduceLT, Int.reduceNeg, ↓reduceIte, reduceCtorEq, Int.reduceEq, Int.reduceLT, Int.reduceLE, Int.reduceBEq, Int.reduceBNe, Int.reduceToNat, IntKind.bits, Int.reduceAdd, Int.reduceSub, Int.reduceMul, Int.reduceTDiv, Int.reduceTMod, DB, i1, i2, g2, b12, ← pav_zer, f6]
            exact ih
          · clear ih
            have b12 : ((i : Int) == 12) = false := by rw [beq_eq_false_iff_ne]; omega
            have hp : PfxOk l[i] := hoks l[i] (by
              rw [List.mem_iff_getElem]
              exact ⟨i, by rw [List.length_take]; omega, List.getElem_take⟩)
            generalize l[i] = p at *
            simp only [RB, pickV, eqbV, notV, negV, convV, faddrV, fldV, idxV, eqaggV, iaddrV, isnilV, nilckV, pnilV, cloV, extrV, slenV, minV, sidxV, abin, cmpInt, params, growLists, fillCells, newAt, rdPtr, wrPtr, AV.cells, asVal, lenOf, boundOf, rowsOf, argIds, freshIn, scalar1, setAll, AV.isData, AV.isYld, Nat.reduceAdd, Nat.reduceMul, Nat.reduceSub, Nat.reduceEqDiff, Nat.reduceLeDiff, Nat.reduceLT, Int.reduceNeg, ↓reduceIte, reduceCtorEq, Int.reduceEq, Int.reduceLT, Int.reduceLE, Int.reduceBEq, Int.reduceBNe, Int.reduceToNat, IntKind.bits, Int.reduceAdd, Int.reduceSub, Int.reduceMul, Int.reduceTDiv, Int.reduceTMod, DB, i1, i2, g2, b12, ← pav_zer, urows_len]
            refine W_recP2 (β := AV) (Q := fun _ x => ∃ ps : List Adr, x = some (AV.fresh 35 17 (adrs ps)) ∧ ps.length ≤ 1000000) (ι := {s : Nat × List Adr // s.1 ≤ 4 ∧ s.1 ≤ z.length ∧ s.2.length ≤ 96 * k + 8 * i + 2 * s.1})
              (M := fun s => [(0, .ro (urows z)), (5, .lis 1 s.1.2.length 0 s.1.2.length), (9, .ptr 2 0 0 0), (13, .clip (xrows ls)), (14, .int .i64 (ls.length : Int)), (15, .int .i64 (k : Int)), (19, .ro (prows l)), (20, .int .i64 (l.length : Int)), (21, .int .i64 (i : Int)), (28, .ro (urows z)), (29, .int .i64 (z.length : Int)), (30, .int .i64 (s.1.1 : Int))])
              (H := fun s => ⟨[.lst 0 0 35 17 [], .lst 0 s.1.2.length 35 17 (adrs s.1.2), .box 0 37 (pav p)], []⟩) (μ := fun s => z.length - s.1.1) (fun s => ⟨?_, ?_⟩) (fun s nh => ?_) ⟨(0, ps), Nat.zero_le _, Nat.zero_le _, by simp only; omega⟩ rfl rfl
            · simp [LPB]
            · simp [LPB]
            · clear hps
              obtain ⟨⟨j, ps⟩, hj4, hjl0, hps⟩ := s
              simp only at nh hj4 hjl0 hps ⊢
              have jh := jh ⟨(i + 1, ps), by omega, hi, by simp only; omega⟩ (by simp only; omega)
              by_cases hj : j < z.length
              · have j1 : (j : Int) < (z.length : Int) := by omega
                have j2 : (0 : Int) ≤ (j : Int) := by omega
                have j6 : IntKind.i64.wrap ((j : Int) + 1) = ((j + 1 : Nat) : Int) := by rw [IntWalk.i64_in _ (by omega)] <;> omega
                have g3 := urows_get z hj
                by_cases h4 : j = 4
                · have b4 : ((j : Int) == 4) = true := by rw [beq_iff_eq]; omega
                  simp only [RB, pickV, eqbV, notV, negV, convV, faddrV, fldV, idxV, eqaggV, iaddrV, isnilV, nilckV, pnilV, cloV, extrV, slenV, minV, sidxV, abin, cmpInt, params, growLists, fillCells, newAt, rdPtr, wrPtr, AV.cells, asVal, lenOf, boundOf, rowsOf, argIds, freshIn, scalar1, setAll, AV.isData, AV.isYld, Nat.reduceAdd, Nat.reduceMul, Nat.reduceSub, Nat.reduceEqDiff, Nat.reduceLeDiff, Nat.reduceLT, Int.reduceNeg, ↓reduceIte, reduceCtorEq, Int.reduceEq, Int.reduceLT, Int.reduceLE, Int.reduceBEq, Int.reduceBNe, Int.reduceToNat, IntKind.bits, Int.reduceAdd, Int.reduceSub, Int.reduceMul, Int.reduceTDiv, Int.reduceTMod, DB, j1, j2, g3, b4, i6]
                  exact jh
                · clear jh
                  have b4 : ((j : Int) == 4) = false := by rw [beq_eq_false_iff_ne]; omega
                  have e49 := e49 p z[j] hp (hz2 _ (List.getElem_mem hj))
                  generalize insS p z[j] = a at *
                  generalize z[j] = c at *
                  obtain ⟨q1, q2, q3, q4⟩ := app_ok hps hi12 hj4 hk hl
                  have fh : ∀ a : Adr, headFits 17 [aav a] = true := fun a => by simp [headFits, aav_len]
                  have tk := adrs_all (ps ++ [a])
                  rw [List.length_append, List.length_cons, List.length_nil] at tk
                  have ln := adrs_len (ps ++ [a])
                  rw [List.length_append, List.length_cons, List.length_nil] at ln
                  by_cases h0 : 0 < p.bits
                  · have hb := bits_le hp
                    obtain ⟨m, hm⟩ : ∃ m : Nat, p.bits = (m : Int) + 1 := ⟨p.bits.toNat - 1, by omega⟩
                    have m1 : IntKind.i64.wrap (p.bits - 1) = (m : Int) := by rw [IntWalk.i64_in _ (by omega)]; omega
                    have m3 : ((m / 8 : Nat) : Int) < 16 := by omega
                    have m4 : (0 : Int) ≤ ((m / 8 : Nat) : Int) := by omega
                    have m7 : IntKind.u64.wrap ((m % 8 : Nat) : Int) = ((m % 8 : Nat) : Int) := IntWalk.u64_in _ (by omega)
                    have m8 : (0 : Int) ≤ ((m % 8 : Nat) : Int) := by omega
                    have m9 : (128 : Int).fdiv (2 ^ (Nat.min (m % 8) 8)) = ((128 / 2 ^ (m % 8) : Nat) : Int) := shrN 128 (m % 8) (by omega)
                    have g4 := aav_i a (m / 8) (by omega)
                    have g5 := aav_put a (show m / 8 < 16 by omega) (flip_lt a.b m)
                    have g6 := xor_u8 _ (m % 8) (a.b.get_lt (m / 8)) (by omega)
                    have nh := nh ⟨(j + 1, ps ++ [a] ++ [⟨a.ver, a.b.put (m / 8) (a.b.get (m / 8) ^^^ 128 / 2 ^ (m % 8))⟩]), by omega, hj, by simp only [List.length_append, List.length_cons, List.length_nil]; omega⟩ (by simp only; omega)
                    simp only [List.length_append, List.length_cons, List.length_nil, Nat.zero_add] at nh
                    simp only [RB, pickV, eqbV, notV, negV, convV, faddrV, fldV, idxV, eqaggV, iaddrV, isnilV, nilckV, pnilV, cloV, extrV, slenV, minV, sidxV, abin, cmpInt, params, growLists, fillCells, newAt, rdPtr, wrPtr, AV.cells, asVal, lenOf, boundOf, rowsOf, argIds, freshIn, scalar1, setAll, AV.isData, AV.isYld, Nat.reduceAdd, Nat.reduceMul, Nat.reduceSub, Nat.reduceEqDiff, Nat.reduceLeDiff, Nat.reduceLT, Int.reduceNeg, ↓reduceIte, reduceCtorEq, Int.reduceEq, Int.reduceLT, Int.reduceLE, Int.reduceBEq, Int.reduceBNe, Int.reduceToNat, IntKind.bits, Int.reduceAdd, Int.reduceSub, Int.reduceMul, Int.reduceTDiv, Int.reduceTMod, DB, R7B, O_buildSlq, quietOk, aop_buildSl, fillRows, asData, aappend, ← aav_zer, j1, j2, j6, g3, b4, e49, fh, adrs_all, adrs_len, adrs_snoc, tk, ln, q1, q2, q3, q4, h0, m1, m3, m4, m7, m8, m9, quo8 m (by omega), rem8, g4, g5, g6, Nat.le_refl]
                    exact nh
                  · have nh := nh ⟨(j + 1, ps ++ [a]), by omega, hj, by simp only [List.length_append, List.length_cons, List.length_nil]; omega⟩ (by simp only; omega)
                    simp only [List.length_append, List.length_cons, List.length_nil, Nat.zero_add] at nh
                    simp only [RB, pickV, eqbV, notV, negV, convV, faddrV, fldV, idxV, eqaggV, iaddrV, isnilV, nilckV, pnilV, cloV, extrV, slenV, minV, sidxV, abin, cmpInt, params, growLists, fillCells, newAt, rdPtr, wrPtr, AV.cells, asVal, lenOf, boundOf, rowsOf, argIds, freshIn, scalar1, setAll, AV.isData, AV.isYld, Nat.reduceAdd, Nat.reduceMul, Nat.reduceSub, Nat.reduceEqDiff, Nat.reduceLeDiff, Nat.reduceLT, Int.reduceNeg, ↓reduceIte, reduceCtorEq, Int.reduceEq, Int.reduceLT, Int.reduceLE, Int.reduceBEq, Int.reduceBNe, Int.reduceToNat, IntKind.bits, Int.reduceAdd, Int.reduceSub, Int.reduceMul, Int.reduceTDiv, Int.reduceTMod, DB, R7B, O_buildSlq, quietOk, aop_buildSl, fillRows, asData, aappend, ← aav_zer, j1, j2, j6, g3, b4, e49, fh, adrs_all, adrs_len, adrs_snoc, tk, q1, q2, h0, Nat.le_refl]
                    exact nh
              · simp only [RB, pickV, eqbV, notV, negV, convV, faddrV, fldV, idxV, eqaggV, iaddrV, isnilV, nilckV, pnilV, cloV, extrV, slenV, minV, sidxV, abin, cmpInt, params, growLists, fillCells, newAt, rdPtr, wrPtr, AV.cells, asVal, lenOf, boundOf, rowsOf, argIds, freshIn, scalar1, setAll, AV.isData, AV.isYld, Nat.reduceAdd, Nat.reduceMul, Nat.reduceSub, Nat.reduceEqDiff, Nat.reduceLeDiff, Nat.reduceLT, Int.reduceNeg, ↓reduceIte, reduceCtorEq, Int.reduceEq, Int.reduceLT, Int.reduceLE, Int.reduceBEq, Int.reduceBNe, Int.reduceToNat, IntKind.bits, Int.reduceAdd, Int.reduceSub, Int.reduceMul, Int.reduceTDiv, Int.reduceTMod, show ¬ (j : Int) < (z.length : Int) by omega, i6]
                exact jh
        · simp only [RB, pickV, eqbV, notV, negV, convV, faddrV, fldV, idxV, eqaggV, iaddrV, isnilV, nilckV, pnilV, cloV, extrV, slenV, minV, sidxV, abin, cmpInt, params, growLists, fillCells, newAt, rdPtr, wrPtr, AV.cells, asVal, lenOf, boundOf, rowsOf, argIds, freshIn, scalar1, setAll, AV.isData, AV.isYld, Nat.reduceAdd, Nat.reduceMul, Nat.reduceSub, Nat.reduceEqDiff, Nat.reduceLeDiff, Nat.reduceLT, Int.reduceNeg, ↓reduceIte, reduceCtorEq, Int.reduceEq, Int.reduceLT, Int.reduceLE, Int.reduceBEq, Int.reduceBNe, Int.reduceToNat, IntKind.bits, Int.reduceAdd, Int.reduceSub, Int.reduceMul, Int.reduceTDiv, Int.reduceTMod, show ¬ (i : Int) < (l.length : Int) by omega, f6]
          exact ih
    · simp only [RB, pickV, eqbV, notV, negV, convV, faddrV, fldV, idxV, eqaggV, iaddrV, isnilV, nilckV, pnilV, cloV, extrV, slenV, minV, sidxV, abin, cmpInt, params, growLists, fillCells, newAt, rdPtr, wrPtr, AV.cells, asVal, lenOf, boundOf, rowsOf, argIds, freshIn, scalar1, setAll, AV.isData, AV.isYld, Nat.reduceAdd, Nat.reduceMul, Nat.reduceSub, Nat.reduceEqDiff, Nat.reduceLeDiff, Nat.reduceLT, Int.reduceNeg, ↓reduceIte, reduceCtorEq, Int.reduceEq, Int.reduceLT, Int.reduceLE, Int.reduceBEq, Int.reduceBNe, Int.reduceToNat, IntKind.bits, Int.reduceAdd, Int.reduceSub, Int.reduceMul, Int.reduceTDiv, Int.reduceTMod, expCell, List.nodup_cons, List.nodup_nil, List.not_mem_nil, not_false_eq_true, not_true_eq_false, and_true, and_false, if_false, List.mem_cons, mutIds, adrs_all, adrs_len, show ¬ (k : Int) < (ls.length : Int) by omega]
      exact ⟨ps, rfl, by omega⟩
end Go.Proofs.YtnpdaegfmfkghaaDoor.F

/- CoverMembers: who is in a union, a meet, a rest: the run. No condition. -/
set_option linter.unusedSimpArgs false
set_option maxRecDepth 20000
namespace Go.Proofs.YtnpdaegfmfkghaaDoor.D
open Go Go.Proofs.YtnpdaegfmfkghaaDoor.A
def hasB (l : List Pfx) (a : Adr) : Bool := l.any fun p => decide (Has p a)
theorem hasB_bad {l : List Pfx} {a : Adr} (h : ¬ AddrOk a) : hasB l a = false := by
  unfold hasB
  rw [List.any_eq_false]
  intro p _ hp
  exact h (of_decide_eq_true hp).2.1
theorem hasB_iff {l : List Pfx} {a : Adr} (ho : Oks l) (h : AddrOk a) : hasB l a = true ↔ CovP l (pt a) := by
  unfold hasB CovP
  rw [List.any_eq_true]
  constructor
  · rintro ⟨p, hp, hh⟩; exact ⟨p, hp, (has_in (ho p hp) h).1 (of_decide_eq_true hh)⟩
  · rintro ⟨p, hp, hh⟩; exact ⟨p, hp, decide_eq_true ((has_in (ho p hp) h).2 hh)⟩
theorem hasB_same {l m : List Pfx} (ho : Oks l) (hm : Oks m) (h : ∀ t, CovP l t ↔ CovP m t) (a : Adr) : hasB l a = hasB m a := by
  by_cases ha : AddrOk a
  · rw [Bool.eq_iff_iff, hasB_iff ho ha, hasB_iff hm ha, h]
  · rw [hasB_bad ha, hasB_bad ha]
theorem hasB_or {l x y : List Pfx} (ho : Oks l) (hx : Oks x) (hy : Oks y) (h : ∀ t, CovP l t ↔ CovP x t ∨ CovP y t) (a : Adr) : hasB l a = (hasB x a || hasB y a) := by
  by_cases ha : AddrOk a
  · rw [Bool.eq_iff_iff, Bool.or_eq_true, hasB_iff ho ha, hasB_iff hx ha, hasB_iff hy ha, h]
  · rw [hasB_bad ha, hasB_bad ha, hasB_bad ha]; rfl
theorem hasB_and {l x y : List Pfx} (ho : Oks l) (hx : Oks x) (hy : Oks y) (h : ∀ t, CovP l t ↔ CovP x t ∧ CovP y t) (a : Adr) : hasB l a = (hasB x a && hasB y a) := by
  by_cases ha : AddrOk a
  · rw [Bool.eq_iff_iff, Bool.and_eq_true, hasB_iff ho ha, hasB_iff hx ha, hasB_iff hy ha, h]
  · rw [hasB_bad ha, hasB_bad ha, hasB_bad ha]; rfl
theorem hasB_sub {l x y : List Pfx} (ho : Oks l) (hx : Oks x) (hy : Oks y) (h : ∀ t, CovP l t ↔ CovP x t ∧ ¬ CovP y t) (a : Adr) : hasB l a = (hasB x a && !hasB y a) := by
  by_cases ha : AddrOk a
  · rw [Bool.eq_iff_iff, Bool.and_eq_true, Bool.not_eq_true', ← Bool.not_eq_true, hasB_iff ho ha, hasB_iff hx ha, hasB_iff hy ha, h]
  · rw [hasB_bad ha, hasB_bad ha, hasB_bad ha]; rfl
theorem oks_take {l : List Pfx} (h : Oks l) (n : Nat) : Oks (l.take n) := fun p hp => h p (List.mem_of_mem_take hp)
end Go.Proofs.YtnpdaegfmfkghaaDoor.D
namespace Go.Proofs.YtnpdaegfmfkghaaDoor.F
open Go Go.Proofs.YtnpdaegfmfkghaaDoor.A Go.Proofs.YtnpdaegfmfkghaaDoor.D
set_option maxHeartbeats 2000000 in
theorem membersLaw (x y : List Pfx) (z : List Nat) (hx : x.length ≤ 9223372036854775807) (hy : y.length ≤ 9223372036854775807) (hz : z.length ≤ 9223372036854775807) (hz2 : ∀ c ∈ z, c < 256) : LV E 6 [.ro (prows x), .ro (prows y), .ro (urows z)] = some (.bool true) := by
  rw [LV_R (fn := f6) rfl rfl rfl]
  have hx17 := e17 x hx
  have hy17 := e17 y hy
  cases hk : (formS x).2 with
  | false =>
    rw [hk] at hx17
    simp only [f6, RB, pickV, eqbV, notV, negV, convV, faddrV, fldV, idxV, eqaggV, iaddrV, isnilV, nilckV, pnilV, cloV, extrV, slenV, minV, sidxV, abin, cmpInt, params, growLists, fillCells, newAt, rdPtr, wrPtr, AV.cells, asVal, lenOf, boundOf, rowsOf, argIds, freshIn, scalar1, setAll, AV.isData, AV.isYld, Nat.reduceAdd, Nat.reduceMul, Nat.reduceSub, Nat.reduceEqDiff, Nat.reduceLeDiff, Nat.reduceLT, Int.reduceNeg, ↓reduceIte, reduceCtorEq, Int.reduceEq, Int.reduceLT, Int.reduceLE, Int.reduceBEq, Int.reduceBNe, Int.reduceToNat, IntKind.bits, Int.reduceAdd, Int.reduceSub, Int.reduceMul, Int.reduceTDiv, Int.reduceTMod, R7B, e9, hx17, hy17, freshIn]
  | true =>
    cases hj : (formS y).2 with
    | false =>
      rw [hk] at hx17
      rw [hj] at hy17
      simp only [f6, RB, pickV, eqbV, notV, negV, convV, faddrV, fldV, idxV, eqaggV, iaddrV, isnilV, nilckV, pnilV, cloV, extrV, slenV, minV, sidxV, abin, cmpInt, params, growLists, fillCells, newAt, rdPtr, wrPtr, AV.cells, asVal, lenOf, boundOf, rowsOf, argIds, freshIn, scalar1, setAll, AV.isData, AV.isYld, Nat.reduceAdd, Nat.reduceMul, Nat.reduceSub, Nat.reduceEqDiff, Nat.reduceLeDiff, Nat.reduceLT, Int.reduceNeg, ↓reduceIte, reduceCtorEq, Int.reduceEq, Int.reduceLT, Int.reduceLE, Int.reduceBEq, Int.reduceBNe, Int.reduceToNat, IntKind.bits, Int.reduceAdd, Int.reduceSub, Int.reduceMul, Int.reduceTDiv, Int.reduceTMod, R7B, e9, hx17, hy17, freshIn]
    | true =>
      rw [hk] at hx17
      rw [hj] at hy17
      obtain ⟨hf, hlen, hchk, hox, hcx⟩ := form_of hk
      obtain ⟨gf, glen, gchk, hoy, hcy⟩ := form_of hj
      generalize (formS x).1 = a at *
      generalize (formS y).1 = b at *
      obtain ⟨u1, u2, u3, u4⟩ := union_form hf.2 gf.2
      obtain ⟨m1, m2, m3⟩ := meet_form hf.2 gf.2
      obtain ⟨d1, d2⟩ := minus_form hf.2 gf.2
      have l1 : a.length * (b.length * 2) ≤ 12 * (12 * 2) := Nat.mul_le_mul hlen (by omega)
      have h23 := e23 a b (by omega) (by omega)
      have h24 := e24 a b (by omega) (by omega)
      have h25 := e25 a b (by omega) (by omega)
      rw [both_ok hchk gchk (by rw [u4]; omega), u4] at h23
      rw [both_ok hchk gchk (by omega)] at h24
      have hb25 : bothS a b (minusL a b) = if 300 < (oneL (minusL a b)).length then ([], 6) else (oneL (minusL a b), 0) := by
        unfold bothS; rw [if_pos hchk, if_pos gchk]
      rw [hb25] at h25
      obtain ⟨D, eD, h25, hD1, hD2, hD3⟩ : ∃ (D : List Pfx) (eD : Int), LV E 25 [AV.ro (prows a), AV.ro (prows b)] = some (.tup [.fresh 37 18 (prows D), .int .i64 eD]) ∧ D.length ≤ 300 ∧ Oks D ∧ (eD = 6 ∨ eD = 0 ∧ ∀ p, hasB D p = (hasB a p && !hasB b p)) := by
        by_cases hd : 300 < (oneL (minusL a b)).length
        · rw [if_pos hd] at h25
          exact ⟨_, _, h25, Nat.zero_le _, (fun _ h => by cases h), .inl rfl⟩
        · rw [if_neg hd] at h25
          exact ⟨_, _, h25, by simp only; omega, d1.2, .inr ⟨rfl, hasB_sub d1.2 hf.2 gf.2 d2⟩⟩
      have hU := hasB_or u1.2 hf.2 gf.2 u2
      have hM := hasB_and m1.2 hf.2 gf.2 m2
      have hX := hasB_same hf.2 hox hcx
      generalize oneL (a ++ b) = U at *
      generalize oneL (meetL a b) = M at *
      clear hb25
      obtain ⟨ps, h27, hps⟩ := e27 z [x, y, U, M, D] hz hz2 (by simp) (by
        intro l hl
        simp only [List.mem_cons, List.not_mem_nil, or_false] at hl
        rcases hl with rfl | rfl | rfl | rfl | rfl
        · exact ⟨hx, hox⟩
        · exact ⟨hy, hoy⟩
        · exact ⟨by omega, oks_take u1.2 12⟩
        · exact ⟨by omega, oks_take m1.2 12⟩
        · exact ⟨by omega, oks_take hD2 12⟩)
      have h27 : LV E 27 [.ro (urows z), .clip [[.ro (prows x)], [.ro (prows y)], [.ro (prows U)], [.ro (prows M)], [.ro (prows D)]]] = some (.fresh 35 17 (adrs ps)) := h27
      have h27 : LV E 27 [.ro (urows z), .clip [[.ro (prows x)], [.ro (prows y)], [.ro (prows U)], [.ro (prows M)], [.ro (prows D)]]] = some (.fresh 35 17 (adrs ps)) := h27
      obtain ⟨n, hn, hnl, hni⟩ : ∃ n : Nat, (if (12 : Int) < (x.length : Int) then (12 : Int) else (x.length : Int)) = (n : Int) ∧ n ≤ x.length ∧ x.take n = x.take 12 := by
        by_cases h : 12 < x.length
        · exact ⟨12, by rw [if_pos (by omega)]; rfl, by omega, rfl⟩
        · exact ⟨x.length, by rw [if_neg (by omega)], Nat.le_refl _, by rw [List.take_length, List.take_of_length_le (by omega)]⟩
      have f3 := prows_fits x (Nat.zero_le n) hnl
      have e12 : (prows x).take n = prows (x.take 12) := by rw [prows_take, hni]
      have f0 : (0 : Int) ≤ (n : Int) := by omega
      have mn : aminmax false .i64 (x.length : Int) [.int .i64 12] = some (.int .i64 (n : Int)) := by rw [← hn]; rfl
      rcases hD3 with he | ⟨he, hD⟩
      · have n0 : (eD != 0) = true := by rw [he]; rfl
        have n6 : (eD != 6) = false := by rw [he]; rfl
        have z0 : (eD == 0) = false := by rw [he]; rfl
        simp only [f6, RB, pickV, eqbV, notV, negV, convV, faddrV, fldV, idxV, eqaggV, iaddrV, isnilV, nilckV, pnilV, cloV, extrV, slenV, minV, sidxV, abin, cmpInt, params, growLists, fillCells, newAt, rdPtr, wrPtr, AV.cells, asVal, lenOf, boundOf, rowsOf, argIds, freshIn, scalar1, setAll, AV.isData, AV.isYld, Nat.reduceAdd, Nat.reduceMul, Nat.reduceSub, Nat.reduceEqDiff, Nat.reduceLeDiff, Nat.reduceLT, Int.reduceNeg, ↓reduceIte, reduceCtorEq, Int.reduceEq, Int.reduceLT, Int.reduceLE, Int.reduceBEq, Int.reduceBNe, Int.reduceToNat, IntKind.bits, Int.reduceAdd, Int.reduceSub, Int.reduceMul, Int.reduceTDiv, Int.reduceTMod, R7B, e9, hx17, hy17, freshIn, prows_len, rows_all, lockAt, lockAll, CW_some, scalar, h23, h24, h25, n0, n6, z0, O_buildSlq, quietOk, aop_buildSl, fillRows, asData, aappend, toDataL, toData, h27, adrs_len]
        refine (W_rec2 (β := AV) (ι := Nat) (M := fun k => [(0, .ro (prows x)), (7, .lis 0 0 0 a.length), (9, .lis 1 0 0 b.length), (11, .lis 2 0 0 U.length), (13, .lis 3 0 0 M.length), (15, .lis 4 0 0 D.length), (16, .int .i64 eD), (78, .lis 6 0 0 ps.length), (79, .int .i64 (ps.length : Int)), (80, .int .i64 (k : Int))])
          (H := fun _ => ⟨[.lst 2 0 37 18 (prows a), .lst 2 0 37 18 (prows b), .lst 2 0 37 18 (prows U), .lst 2 0 37 18 (prows M), .lst 2 0 37 18 (prows D), .dead, .lst 0 0 35 17 (adrs ps)], []⟩)
          (r := fun _ => some (AV.bool true)) (μ := fun k => ps.length - k) (fun k => ?_) (fun k ih => ?_) 0 rfl rfl)
        · simp [LPB]
        · by_cases hk : k < ps.length
          · have f1 : (k : Int) < (ps.length : Int) := by omega
            have f2 : (0 : Int) ≤ (k : Int) := by omega
            have f6 : IntKind.i64.wrap ((k : Int) + 1) = ((k + 1 : Nat) : Int) := by rw [IntWalk.i64_in _ (by omega)] <;> omega
            have g1 := adrs_get ps hk
            have ih := ih (k + 1) (by omega)
            have hC := fun (l : List Pfx) (hl : l.length ≤ 4611686018427387904) => e28 l ps[k] hl
            have cX := hC (x.take 12) (by have := take12 x; omega)
            have cA := hC a (by omega)
            have cB := hC b (by omega)
            have cU := hC U (by omega)
            have cM := hC M (by omega)
            have cD := hC D (by omega)
            clear hC
            have hX := hX ps[k]
            have hU := hU ps[k]
            have hM := hM ps[k]
            rw [show (∀ l : List Pfx, (l.any fun p => decide (Has p ps[k])) = hasB l ps[k]) from fun _ => rfl] at cX cA cB cU cM cD
            rw [← hX] at cX
            rw [hU] at cU
            rw [hM] at cM
            generalize hasB a ps[k] = ka at *
            generalize hasB b ps[k] = kb at *
            generalize ps[k] = r at *
            cases ka <;> cases kb <;>
            simp only [RB, pickV, eqbV, notV, negV, convV, faddrV, fldV, idxV, eqaggV, iaddrV, isnilV, nilckV, pnilV, cloV, extrV, slenV, minV, sidxV, abin, cmpInt, params, growLists, fillCells, newAt, rdPtr, wrPtr, AV.cells, asVal, lenOf, boundOf, rowsOf, argIds, freshIn, scalar1, setAll, AV.isData, AV.isYld, Nat.reduceAdd, Nat.reduceMul, Nat.reduceSub, Nat.reduceEqDiff, Nat.reduceLeDiff, Nat.reduceLT, Int.reduceNeg, ↓reduceIte, reduceCtorEq, Int.reduceEq, Int.reduceLT, Int.reduceLE, Int.reduceBEq, Int.reduceBNe, Int.reduceToNat, IntKind.bits, Int.reduceAdd, Int.reduceSub, Int.reduceMul, Int.reduceTDiv, Int.reduceTMod, DB, R7B, ← aav_zer, f1, f2, f6, g1, hk, lisFits, prows_len, rows_all, CW_some, scalar, mn, aslice, hnl, f3, e12, f0, cX, cA, cB, cU, cM, cD, n0, n6, z0, Bool.or_false, Bool.or_true, Bool.and_false, Bool.and_true, Bool.not_true, Bool.not_false]
            all_goals exact ih
          · simp only [RB, pickV, eqbV, notV, negV, convV, faddrV, fldV, idxV, eqaggV, iaddrV, isnilV, nilckV, pnilV, cloV, extrV, slenV, minV, sidxV, abin, cmpInt, params, growLists, fillCells, newAt, rdPtr, wrPtr, AV.cells, asVal, lenOf, boundOf, rowsOf, argIds, freshIn, scalar1, setAll, AV.isData, AV.isYld, Nat.reduceAdd, Nat.reduceMul, Nat.reduceSub, Nat.reduceEqDiff, Nat.reduceLeDiff, Nat.reduceLT, Int.reduceNeg, ↓reduceIte, reduceCtorEq, Int.reduceEq, Int.reduceLT, Int.reduceLE, Int.reduceBEq, Int.reduceBNe, Int.reduceToNat, IntKind.bits, Int.reduceAdd, Int.reduceSub, Int.reduceMul, Int.reduceTDiv, Int.reduceTMod, show ¬ (k : Int) < (ps.length : Int) by omega]
      · have n0 : (eD != 0) = false := by rw [he]; rfl
        have z0 : (eD == 0) = true := by rw [he]; rfl
        simp only [f6, RB, pickV, eqbV, notV, negV, convV, faddrV, fldV, idxV, eqaggV, iaddrV, isnilV, nilckV, pnilV, cloV, extrV, slenV, minV, sidxV, abin, cmpInt, params, growLists, fillCells, newAt, rdPtr, wrPtr, AV.cells, asVal, lenOf, boundOf, rowsOf, argIds, freshIn, scalar1, setAll, AV.isData, AV.isYld, Nat.reduceAdd, Nat.reduceMul, Nat.reduceSub, Nat.reduceEqDiff, Nat.reduceLeDiff, Nat.reduceLT, Int.reduceNeg, ↓reduceIte, reduceCtorEq, Int.reduceEq, Int.reduceLT, Int.reduceLE, Int.reduceBEq, Int.reduceBNe, Int.reduceToNat, IntKind.bits, Int.reduceAdd, Int.reduceSub, Int.reduceMul, Int.reduceTDiv, Int.reduceTMod, R7B, e9, hx17, hy17, freshIn, prows_len, rows_all, lockAt, lockAll, CW_some, scalar, h23, h24, h25, n0, z0, O_buildSlq, quietOk, aop_buildSl, fillRows, asData, aappend, toDataL, toData, h27, adrs_len]
        refine (W_rec2 (β := AV) (ι := Nat) (M := fun k => [(0, .ro (prows x)), (7, .lis 0 0 0 a.length), (9, .lis 1 0 0 b.length), (11, .lis 2 0 0 U.length), (13, .lis 3 0 0 M.length), (15, .lis 4 0 0 D.length), (16, .int .i64 eD), (78, .lis 6 0 0 ps.length), (79, .int .i64 (ps.length : Int)), (80, .int .i64 (k : Int))])
          (H := fun _ => ⟨[.lst 2 0 37 18 (prows a), .lst 2 0 37 18 (prows b), .lst 2 0 37 18 (prows U), .lst 2 0 37 18 (prows M), .lst 2 0 37 18 (prows D), .dead, .lst 0 0 35 17 (adrs ps)], []⟩)
          (r := fun _ => some (AV.bool true)) (μ := fun k => ps.length - k) (fun k => ?_) (fun k ih => ?_) 0 rfl rfl)
        · simp [LPB]
        · by_cases hk : k < ps.length
          · have f1 : (k : Int) < (ps.length : Int) := by omega
            have f2 : (0 : Int) ≤ (k : Int) := by omega
            have f6 : IntKind.i64.wrap ((k : Int) + 1) = ((k + 1 : Nat) : Int) := by rw [IntWalk.i64_in _ (by omega)] <;> omega
            have g1 := adrs_get ps hk
            have ih := ih (k + 1) (by omega)
            have hC := fun (l : List Pfx) (hl : l.length ≤ 4611686018427387904) => e28 l ps[k] hl
            have cX := hC (x.take 12) (by have := take12 x; omega)
            have cA := hC a (by omega)
            have cB := hC b (by omega)
            have cU := hC U (by omega)
            have cM := hC M (by omega)
            have cD := hC D (by omega)
            clear hC
            have hX := hX ps[k]
            have hU := hU ps[k]
            have hM := hM ps[k]
            have hD := hD ps[k]
            rw [show (∀ l : List Pfx, (l.any fun p => decide (Has p ps[k])) = hasB l ps[k]) from fun _ => rfl] at cX cA cB cU cM cD
            rw [← hX] at cX
            rw [hU] at cU
            rw [hM] at cM
            rw [hD] at cD
            generalize hasB a ps[k] = ka at *
            generalize hasB b ps[k] = kb at *
            generalize ps[k] = r at *
            cases ka <;> cases kb <;>
            simp only [RB, pickV, eqbV, notV, negV, convV, faddrV, fldV, idxV, eqaggV, iaddrV, isnilV, nilckV, pnilV, cloV, extrV, slenV, minV, sidxV, abin, cmpInt, params, growLists, fillCells, newAt, rdPtr, wrPtr, AV.cells, asVal, lenOf, boundOf, rowsOf, argIds, freshIn, scalar1, setAll, AV.isData, AV.isYld, Nat.reduceAdd, Nat.reduceMul, Nat.reduceSub, Nat.reduceEqDiff, Nat.reduceLeDiff, Nat.reduceLT, Int.reduceNeg, ↓reduceIte, reduceCtorEq, Int.reduceEq, Int.reduceLT, Int.reduceLE, Int.reduceBEq, Int.reduceBNe, Int.reduceToNat, IntKind.bits, Int.reduceAdd, Int.reduceSub, Int.reduceMul, Int.reduceTDiv, Int.reduceTMod, DB, R7B, ← aav_zer, f1, f2, f6, g1, hk, lisFits, prows_len, rows_all, CW_some, scalar, mn, aslice, hnl, f3, e12, f0, cX, cA, cB, cU, cM, cD, n0, z0, Bool.or_false, Bool.or_true, Bool.and_false, Bool.and_true, Bool.not_true, Bool.not_false]
            all_goals exact ih
          · simp only [RB, pickV, eqbV, notV, negV, convV, faddrV, fldV, idxV, eqaggV, iaddrV, isnilV, nilckV, pnilV, cloV, extrV, slenV, minV, sidxV, abin, cmpInt, params, growLists, fillCells, newAt, rdPtr, wrPtr, AV.cells, asVal, lenOf, boundOf, rowsOf, argIds, freshIn, scalar1, setAll, AV.isData, AV.isYld, Nat.reduceAdd, Nat.reduceMul, Nat.reduceSub, Nat.reduceEqDiff, Nat.reduceLeDiff, Nat.reduceLT, Int.reduceNeg, ↓reduceIte, reduceCtorEq, Int.reduceEq, Int.reduceLT, Int.reduceLE, Int.reduceBEq, Int.reduceBNe, Int.reduceToNat, IntKind.bits, Int.reduceAdd, Int.reduceSub, Int.reduceMul, Int.reduceTDiv, Int.reduceTMod, show ¬ (k : Int) < (ps.length : Int) by omega]
end Go.Proofs.YtnpdaegfmfkghaaDoor.F
