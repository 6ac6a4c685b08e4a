/- Part 10 of the proofs of these statements. No condition. -/
import Derived.Test.YtgajekpigkknnaaDoorM9
set_option linter.unusedVariables false
set_option linter.unusedSimpArgs false
/- Without any one of the updates it does not lead there: the run. No condition. -/
set_option linter.unusedSimpArgs false
set_option maxRecDepth 20000
namespace Go.Proofs.YtgajekpigkknnaaDoor.D
open Go Go.Proofs.YtgajekpigkknnaaDoor.A
theorem doB_len : ∀ {L : List (List Up)} {r : List Rt} {i : Nat}, r.length ≤ 1000 → (doB r L i).1.length ≤ 1000
  | [], r, i, h => h
  | b :: L, r, i, h => by
    unfold doB
    split
    · exact doB_len (Nat.le_trans appC_len (by decide))
    · exact h
theorem doS_len {a : List Rt} {us : List Up} (h : a.length ≤ 1000) : (doS a us).1.length ≤ 1000 := by
  unfold doS
  split
  · split
    · exact h
    · exact doB_len h
  · simp
end Go.Proofs.YtgajekpigkknnaaDoor.D
namespace Go.Proofs.YtgajekpigkknnaaDoor.F
open Go Go.Proofs.YtgajekpigkknnaaDoor.A Go.Proofs.YtgajekpigkknnaaDoor.D
set_option maxHeartbeats 1000000 in
theorem r21 {ys : List Hd} {bs : List Blk} {pend : List (Option AExit)} {id g : Nat} {L : List Up} {n i : Nat} (hb : bs[id]? = some (.lst 0 g 42 22 (vrows L))) (hn : n ≤ L.length) (hi : i < n) (hl : n ≤ 1000000) (hlow : belowAll bs.length bs = true) :
    ∃ zs e, LR E ys 21 [.lis id g 0 n, .int .i64 (i : Nat), .int .i64 ((i + 1 : Nat) : Int)] ⟨bs, pend⟩ = some (.lis id g 0 (n - 1), ⟨bs.set id (.lst 0 g 42 22 (vrows ((L.take i ++ (L.drop (i + 1)).take (n - (i + 1))) ++ zs))) ++ e, pend⟩) := by
  have hA : ∀ r, (bs ++ r)[id]? = some (.lst 0 g 42 22 (vrows L)) := fun r => get_lt hb
  have ia := (List.getElem?_eq_some_iff.1 hb).1
  have sA : ∀ r x, (bs ++ r).set id x = bs.set id x ++ r := fun r x => by rw [List.set_append_left _ _ ia]
  have f1 : (i : Int) < (n : Int) := by omega
  have f2 : (0 : Int) ≤ (i : Int) := by omega
  have f3 : ((i : Int) == ((i + 1 : Nat) : Int)) = false := by rw [beq_eq_false_iff_ne]; omega
  have g1 : i ≤ i + 1 := by omega
  have g2 : i + 1 ≤ n := by omega
  have g4 : i ≤ n := by omega
  have g5 : ¬ (n < i) := by omega
  have g6 : i ≤ L.length := by omega
  have g7 : i + 1 ≤ L.length := by omega
  obtain ⟨Y, hY⟩ : ∃ Y, (L.drop (i + 1)).take (n - (i + 1)) = Y := ⟨_, rfl⟩
  have hYl : Y.length = n - (i + 1) := by rw [← hY, List.length_take, List.length_drop]; omega
  have h2 : headFits 22 (vrows Y) = true := vrows_fit Y
  have h3 : i + (n - (i + 1)) ≤ L.length := by omega
  have h3' : i + (1 + (n - (i + 1))) ≤ L.length := by omega
  have h4 : i + (n - (i + 1)) = n - 1 := by omega
  have h5 : n - 1 ≤ n := by omega
  have hB : ∀ X r, (bs.set id X ++ r)[id]? = some X := fun X r => by rw [List.getElem?_append_left (by rw [List.length_set]; exact ia), List.getElem?_set_self ia]
  have sB : ∀ X r Y, (bs.set id X ++ r).set id Y = bs.set id Y ++ r := fun X r Y => by rw [List.set_append_left _ _ (by rw [List.length_set]; exact ia), List.set_set]
  have h7 : min i L.length = i := by omega
  have h8 : (0 : Int) ≤ ((n - 1 : Nat) : Int) := by omega
  have h10 : n - (n - 1) = 1 := by omega
  have h11 : n - 1 + 1 ≤ L.length := by omega
  have h13 : i + (n - (i + 1) + (L.length - (n - 1))) = L.length := by omega
  have h14 : n - 1 ≤ L.length := by omega
  have h15 : (L.take i ++ (Y ++ L.drop (n - 1))).take (n - 1) = L.take i ++ Y := by
    rw [← List.append_assoc]; exact List.take_left' (by simp only [List.length_append, List.length_take, hYl]; omega)
  have h16 : n ≤ n := Nat.le_refl _
  rw [LR_R (fn := f21) rfl rfl rfl]
  simp only [f21, ← upv_zer, RB, pickV, eqbV, notV, negV, convV, faddrV, fldV, idxV, eqaggV, iaddrV, isnilV, nilckV, pnilV, cloV, extrV, slenV, minV, sidxV, abin, cmpInt, params, growLists, fillCells, newAt, rdPtr, wrPtr, AV.cells, asVal, lenOf, boundOf, rowsOf, argIds, freshIn, scalar1, setAll, AV.isData, AV.isYld, Nat.reduceAdd, Nat.reduceMul, Nat.reduceSub, Nat.reduceEqDiff, Nat.reduceLeDiff, Nat.reduceLT, Int.reduceNeg, ↓reduceIte, reduceCtorEq, Int.reduceEq, Int.reduceLT, Int.reduceLE, Int.reduceBEq, Int.reduceBNe, Int.reduceToNat, IntKind.bits, Int.reduceAdd, Int.reduceSub, Int.reduceMul, Int.reduceTDiv, Int.reduceTMod, DB, DB4, R7B, take_add, List.append_assoc, List.length_append, Nat.add_assoc, shrink_lit, ball_app, RG, LPB, hA, sA, f1, f2, f3, asliceL, boundOf, lisFits, vrows_len, Int.toNat_natCast, Option.isSome_some, Option.isSome_none, g1, g2, g4, g5, g6, g7, hn, h16, aslice, aappIn, hY, hYl, h2, h3, h3', h4, h5, hB, sB, List.length_set, h7, h8, List.length_append, List.length_drop, List.length_take, h10, aop, h11, h13, h14, h15]
  exact ⟨_, _, rfl⟩
theorem vrows_scalar (l : List Up) : ((vrows l).all fun r => r.all scalar1) = true := by
  rw [List.all_eq_true]; intro r hr
  obtain ⟨p, _, rfl⟩ := List.mem_map.1 hr
  simp [upv, pav, bav, u8c, scalar1]
theorem dead_low (m n : Nat) (id : Nat) (rows : List (List AV)) : belowAll m ((List.replicate n Blk.dead).set id (.lst 0 0 42 22 rows)) = true := by
  unfold belowAll
  rw [List.all_eq_true]
  intro b hb
  rcases List.mem_or_eq_of_mem_set hb with h | rfl
  · rw [List.eq_of_mem_replicate h]; rfl
  · rfl
theorem fr21 {bs : List Blk} {pend : List (Option AExit)} {id n i : Nat} {L : List Up} (hb : bs[id]? = some (.lst 0 0 42 22 (vrows L))) (hn : L.length = n) (hi : i < n) (hl : n ≤ 1000000) :
    ∃ rows2, frameS (LR E []) [] 21 [.lis id 0 0 n, .int .i64 (i : Int), .int .i64 ((i + 1 : Nat) : Int)] ⟨bs, pend⟩ = some (.ro (vrows (L.take i ++ L.drop (i + 1))), ⟨bs.set id (.lst 2 0 42 22 rows2), pend⟩) := by
  subst hn
  have hid := (List.getElem?_eq_some_iff.1 hb).1
  have hs : ((List.replicate bs.length Blk.dead).set id (.lst 0 0 42 22 (vrows L)))[id]? = some (.lst 0 0 42 22 (vrows L)) := List.getElem?_set_self (by simpa using hid)
  obtain ⟨zs, e, h1⟩ := r21 (ys := []) (pend := []) (id := id) (g := 0) (L := L) (n := L.length) (i := i) hs (Nat.le_refl _) hi hl (dead_low _ _ _ _)
  have eT : (L.drop (i + 1)).take (L.length - (i + 1)) = L.drop (i + 1) := List.take_of_length_le (by simp)
  rw [eT, List.set_set] at h1
  have h2 := frameS_lis (hp := ⟨bs, pend⟩) hb rfl h1 (get_lt (List.getElem?_set_self (by simpa using hid))) (vrows_scalar _) (by rw [Nat.zero_add, vrows_len]; simp; omega)
  have e3 : (L.take i ++ L.drop (i + 1) ++ zs).take (L.length - 1) = L.take i ++ L.drop (i + 1) := List.take_left' (by simp only [List.length_append, List.length_take, List.length_drop]; omega)
  refine ⟨vrows (L.take i ++ L.drop (i + 1) ++ zs), ?_⟩
  rw [h2, List.drop_zero, vrows_take, e3]
set_option maxHeartbeats 2000000 in
theorem e5 (x y : List Rt) (hx : x.length ≤ 9223372036854775807) (hy : y.length ≤ 9223372036854775807) : LV E 5 [.agg [.ro (trows x)], .agg [.ro (trows y)]] = some (.bool true) := by
  rw [LV_R (fn := f5) rfl rfl rfl]
  have h15a := e15 x hx
  have h15b := e15 y hy
  have la : (x.take 161).length ≤ 161 := List.length_take_le _ _
  have lb : (y.take 161).length ≤ 161 := List.length_take_le _ _
  generalize x.take 161 = a at *
  generalize y.take 161 = b at *
  have h20 := e20 a b (by omega) (by omega)
  have tk : ∀ {s : Nat} {e : TypeId} {k : Nat} {rows : List (List AV)} {bs : List Blk}, takeRes false s (.agg [.fresh e k rows]) bs = some (.agg [.ro rows], bs) := rfl
  by_cases h0 : rightS a b 0 0 = 0
  · obtain ⟨hA, hB, _⟩ := rightS_zero h0
    rw [show allR a b = (leadS a b 0, 0) by unfold allR; rw [if_pos h0]] at h20
    have hll := lead_len a b 0
    obtain ⟨L, hL⟩ : ∃ L, leadS a b 0 = L := ⟨_, rfl⟩
    have hnd := fun (i n : Nat) (r : List Rt) => needs (r := r) (i := i) (n := n) hA hB
    rw [hL] at h20 hll hnd
    simp only [f5, ← rtv_zer, ← upv_zer, RB, pickV, eqbV, notV, negV, convV, faddrV, fldV, idxV, eqaggV, iaddrV, isnilV, nilckV, pnilV, cloV, extrV, slenV, minV, sidxV, abin, cmpInt, params, growLists, fillCells, newAt, rdPtr, wrPtr, AV.cells, asVal, lenOf, boundOf, rowsOf, argIds, freshIn, scalar1, setAll, AV.isData, AV.isYld, Nat.reduceAdd, Nat.reduceMul, Nat.reduceSub, Nat.reduceEqDiff, Nat.reduceLeDiff, Nat.reduceLT, Int.reduceNeg, ↓reduceIte, reduceCtorEq, Int.reduceEq, Int.reduceLT, Int.reduceLE, Int.reduceBEq, Int.reduceBNe, Int.reduceToNat, IntKind.bits, Int.reduceAdd, Int.reduceSub, Int.reduceMul, Int.reduceTDiv, Int.reduceTMod, DB, DB4, R7B, take_add, List.append_assoc, List.length_append, Nat.add_assoc, shrink_lit, ball_app, RG, LPB, e9, h15a, h15b, tk, pairOk, AV.ids, List.contains_cons, List.contains_nil, Nat.reduceBEq, List.all_cons, List.all_nil, Bool.or_self, Bool.not_false, Bool.and_self, Bool.or_false, snap, snapCell, h20, bne_self_eq_false, CW_some, scalar, scalar1, lockAll, lockAt, reduceCtorEq, extrV, List.all_cons, List.all_nil, mutIds]
    refine (W_rec2 (β := AV) (ι := {k : Nat // k ≤ L.length ∧ k ≤ 24}) (M := fun k => [(5, .ptr 2 0 0 0), (6, .ptr 3 0 0 0), (7, .ro (vrows L)), (28, .int .i64 (L.length : Int)), (29, .int .i64 (k.1 : Int))])
      (H := fun _ => ⟨[.box 0 46 [.ro (trows x)], .box 0 46 [.ro (trows y)], .box 0 46 [.ro (trows a)], .box 0 46 [.ro (trows b)]], []⟩) (r := fun _ => some (AV.bool true)) (μ := fun k => L.length - k.1) (fun k => ?_) (fun k ih => ?_) ⟨0, Nat.zero_le _, Nat.zero_le _⟩ rfl rfl)
    · simp [LPB]
    · obtain ⟨k, hk0, hk24⟩ := k
      simp only at ih hk0 hk24 ⊢
      by_cases hk : k < L.length
      · have f1 : (k : Int) < (L.length : Int) := by omega
        have f2 : (0 : Int) ≤ (k : Int) := by omega
        have f6 : IntKind.i64.wrap ((k : Int) + 1) = ((k + 1 : Nat) : Int) := by rw [IntWalk.i64_in _ (by omega)] <;> omega
        by_cases h24 : k = 24
        · subst h24
          have f1 : (24 : Int) < (L.length : Int) := by omega
          simp only [RB, pickV, eqbV, notV, negV, convV, faddrV, fldV, idxV, eqaggV, iaddrV, isnilV, nilckV, pnilV, cloV, extrV, slenV, minV, sidxV, abin, cmpInt, params, growLists, fillCells, newAt, rdPtr, wrPtr, AV.cells, asVal, lenOf, boundOf, rowsOf, argIds, freshIn, scalar1, setAll, AV.isData, AV.isYld, Nat.reduceAdd, Nat.reduceMul, Nat.reduceSub, Nat.reduceEqDiff, Nat.reduceLeDiff, Nat.reduceLT, Int.reduceNeg, ↓reduceIte, reduceCtorEq, Int.reduceEq, Int.reduceLT, Int.reduceLE, Int.reduceBEq, Int.reduceBNe, Int.reduceToNat, IntKind.bits, Int.reduceAdd, Int.reduceSub, Int.reduceMul, Int.reduceTDiv, Int.reduceTMod, DB, DB4, R7B, take_add, List.append_assoc, List.length_append, Nat.add_assoc, shrink_lit, ball_app, RG, LPB, f1, show ((24 : Int) == 24) = true from rfl]
        · have n24 : ((k : Int) == 24) = false := by rw [beq_eq_false_iff_ne]; omega
          have ih := ih ⟨k + 1, hk, by omega⟩ (by simp only; omega)
          simp only at ih
          have h22 := e22 L (by omega)
          obtain ⟨R2, hfr⟩ := fr21 (bs := [.box 0 46 [.ro (trows x)], .box 0 46 [.ro (trows y)], .box 0 46 [.ro (trows a)], .box 0 46 [.ro (trows b)], .lst 0 0 42 22 (vrows L), .dead]) (pend := []) (id := 4) (n := L.length) (i := k) (L := L) rfl rfl hk (by omega)
          simp only [List.set_cons_succ, List.set_cons_zero] at hfr
          have h16 := e16 a (L.take k ++ L.drop (k + 1)) (by omega) (by simp; omega)
          have hne := hnd k (doS a (L.take k ++ L.drop (k + 1))).2.1 (doS a (L.take k ++ L.drop (k + 1))).1 hk
          have hpl := doS_len (a := a) (us := L.take k ++ L.drop (k + 1)) (by omega)
          generalize doS a (L.take k ++ L.drop (k + 1)) = p at *
          obtain ⟨r, c, e⟩ := p
          simp only [doR] at h16 hne hpl
          by_cases he : e = 0
          · subst he
            have h23 := e23 r b (by omega)
            rw [decide_eq_false (hne rfl)] at h23
            simp only [RB, pickV, eqbV, notV, negV, convV, faddrV, fldV, idxV, eqaggV, iaddrV, isnilV, nilckV, pnilV, cloV, extrV, slenV, minV, sidxV, abin, cmpInt, params, growLists, fillCells, newAt, rdPtr, wrPtr, AV.cells, asVal, lenOf, boundOf, rowsOf, argIds, freshIn, scalar1, setAll, AV.isData, AV.isYld, Nat.reduceAdd, Nat.reduceMul, Nat.reduceSub, Nat.reduceEqDiff, Nat.reduceLeDiff, Nat.reduceLT, Int.reduceNeg, ↓reduceIte, reduceCtorEq, Int.reduceEq, Int.reduceLT, Int.reduceLE, Int.reduceBEq, Int.reduceBNe, Int.reduceToNat, IntKind.bits, Int.reduceAdd, Int.reduceSub, Int.reduceMul, Int.reduceTDiv, Int.reduceTMod, DB, DB4, R7B, take_add, List.append_assoc, List.length_append, Nat.add_assoc, shrink_lit, ball_app, RG, LPB, pairOk, AV.ids, List.contains_cons, List.contains_nil, Nat.reduceBEq, List.all_cons, List.all_nil, Bool.or_self, Bool.not_false, Bool.and_self, Bool.or_false, f1, f2, f6, n24, h22, CR_clo4, hfr, h16, h23, vrows_len, snap, snapCell, CW_some, scalar, scalar1, lockAll, lockAt, reduceCtorEq, extrV, List.all_cons, List.all_nil, mutIds, beq_self_eq_true]
            exact ih
          · have z2 : (e == 0) = false := by rw [beq_eq_false_iff_ne]; exact he
            simp only [RB, pickV, eqbV, notV, negV, convV, faddrV, fldV, idxV, eqaggV, iaddrV, isnilV, nilckV, pnilV, cloV, extrV, slenV, minV, sidxV, abin, cmpInt, params, growLists, fillCells, newAt, rdPtr, wrPtr, AV.cells, asVal, lenOf, boundOf, rowsOf, argIds, freshIn, scalar1, setAll, AV.isData, AV.isYld, Nat.reduceAdd, Nat.reduceMul, Nat.reduceSub, Nat.reduceEqDiff, Nat.reduceLeDiff, Nat.reduceLT, Int.reduceNeg, ↓reduceIte, reduceCtorEq, Int.reduceEq, Int.reduceLT, Int.reduceLE, Int.reduceBEq, Int.reduceBNe, Int.reduceToNat, IntKind.bits, Int.reduceAdd, Int.reduceSub, Int.reduceMul, Int.reduceTDiv, Int.reduceTMod, DB, DB4, R7B, take_add, List.append_assoc, List.length_append, Nat.add_assoc, shrink_lit, ball_app, RG, LPB, pairOk, AV.ids, List.contains_cons, List.contains_nil, Nat.reduceBEq, List.all_cons, List.all_nil, Bool.or_self, Bool.not_false, Bool.and_self, Bool.or_false, f1, f2, f6, n24, h22, CR_clo4, hfr, h16, z2, vrows_len, snap, snapCell, CW_some, scalar, scalar1, lockAll, lockAt, reduceCtorEq, extrV, List.all_cons, List.all_nil, mutIds]
            exact ih
      · obtain rfl : k = L.length := by omega
        simp only [RB, pickV, eqbV, notV, negV, convV, faddrV, fldV, idxV, eqaggV, iaddrV, isnilV, nilckV, pnilV, cloV, extrV, slenV, minV, sidxV, abin, cmpInt, params, growLists, fillCells, newAt, rdPtr, wrPtr, AV.cells, asVal, lenOf, boundOf, rowsOf, argIds, freshIn, scalar1, setAll, AV.isData, AV.isYld, Nat.reduceAdd, Nat.reduceMul, Nat.reduceSub, Nat.reduceEqDiff, Nat.reduceLeDiff, Nat.reduceLT, Int.reduceNeg, ↓reduceIte, reduceCtorEq, Int.reduceEq, Int.reduceLT, Int.reduceLE, Int.reduceBEq, Int.reduceBNe, Int.reduceToNat, IntKind.bits, Int.reduceAdd, Int.reduceSub, Int.reduceMul, Int.reduceTDiv, Int.reduceTMod, DB, DB4, R7B, take_add, List.append_assoc, List.length_append, Nat.add_assoc, shrink_lit, ball_app, RG, LPB, show ¬ ((L.length : Nat) : Int) < (L.length : Int) by omega]
  · have z : (rightS a b 0 0 != 0) = true := by rw [bne_iff_ne]; exact h0
    rw [show allR a b = ([], rightS a b 0 0) by unfold allR; rw [if_neg h0]] at h20
    simp only [f5, ← rtv_zer, ← upv_zer, RB, pickV, eqbV, notV, negV, convV, faddrV, fldV, idxV, eqaggV, iaddrV, isnilV, nilckV, pnilV, cloV, extrV, slenV, minV, sidxV, abin, cmpInt, params, growLists, fillCells, newAt, rdPtr, wrPtr, AV.cells, asVal, lenOf, boundOf, rowsOf, argIds, freshIn, scalar1, setAll, AV.isData, AV.isYld, Nat.reduceAdd, Nat.reduceMul, Nat.reduceSub, Nat.reduceEqDiff, Nat.reduceLeDiff, Nat.reduceLT, Int.reduceNeg, ↓reduceIte, reduceCtorEq, Int.reduceEq, Int.reduceLT, Int.reduceLE, Int.reduceBEq, Int.reduceBNe, Int.reduceToNat, IntKind.bits, Int.reduceAdd, Int.reduceSub, Int.reduceMul, Int.reduceTDiv, Int.reduceTMod, DB, DB4, R7B, take_add, List.append_assoc, List.length_append, Nat.add_assoc, shrink_lit, ball_app, RG, LPB, e9, h15a, h15b, tk, pairOk, AV.ids, List.contains_cons, List.contains_nil, Nat.reduceBEq, List.all_cons, List.all_nil, Bool.or_self, Bool.not_false, Bool.and_self, Bool.or_false, snap, snapCell, h20, z, CW_some, scalar, scalar1, lockAll, lockAt, reduceCtorEq, extrV, List.all_cons, List.all_nil, mutIds]
end Go.Proofs.YtgajekpigkknnaaDoor.F
