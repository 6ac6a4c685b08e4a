/- Part 10 of the proofs of these statements. No condition. -/
import Derived.Test.YtgajekpigkknnaaDoorM9
set_option linter.unusedVariables false
set_option linter.unusedSimpArgs false
/- How many updates lead there; what leads there, by the document. No condition. -/
set_option linter.unusedSimpArgs false
set_option maxRecDepth 20000
namespace Go.Proofs.YtgajekpigkknnaaDoor.D
open Go Go.Proofs.YtgajekpigkknnaaDoor.A
def apC (a b : List Rt) (k j : Nat) : AV := .int .i64 (if j < k then ((leadS a b j).length : Int) else 0)
def apL (a b : List Rt) (k : Nat) : List AV := [apC a b k 0, apC a b k 1, apC a b k 2, apC a b k 3, apC a b k 4]
def apR (a b : List Rt) : AV := if rightS a b 0 0 = 0 then .tup [.agg (apL a b 5), .int .i64 0] else .tup [.agg (apL a b 0), .int .i64 (rightS a b 0 0)]
theorem apL_data (a b : List Rt) (k : Nat) : dataL (apL a b k) = true := rfl
theorem apL_below (m : Nat) (a b : List Rt) (k : Nat) : belowL m (apL a b k) = true := rfl
theorem apL_p (a b : List Rt) (k : Nat) : piece (apL a b k) 0 5 = some (apL a b k) := rfl
theorem apL_o (a b : List Rt) (k j : Nat) : ovr (apL a b j) 0 (apL a b k) = some (apL a b k) := rfl
theorem apL_len (a b : List Rt) (k : Nat) : (apL a b k).length = 5 := rfl
def goD (b : List Rt) (s : Int) (x : Rt) : Bool := (findR b x.p x.src).isNone && decide (s = 0 ∨ x.src = s)
def coD (a : List Rt) (s : Int) (x : Rt) : Bool := !decide (findR a x.p x.src = some x) && decide (s = 0 ∨ x.src = s)
def updD (a b : List Rt) (s : Int) : List Up := (a.filter (goD b s)).map gU ++ (b.filter (coD a s)).map cU
theorem filt_next {α : Type} {l : List α} {k : Nat} {P : α → Bool} (h : k < l.length) : (l.take (k + 1)).filter P = (l.take k).filter P ++ (if P l[k] = true then [l[k]] else []) := by
  rw [List.take_add_one, List.getElem?_eq_getElem h, Option.toList_some, List.filter_append]
  congr 1
  cases hP : P l[k] <;> simp [hP]
theorem app_okU {n k : Nat} (h : n ≤ k) (h1 : k ≤ 2000000) : (n + 1) * 64 ≤ 140737488355328 ∧ n + 1 ≤ 4611686018427387904 := ⟨by omega, by omega⟩
end Go.Proofs.YtgajekpigkknnaaDoor.D
namespace Go.Proofs.YtgajekpigkknnaaDoor.F
open Go Go.Proofs.YtgajekpigkknnaaDoor.A Go.Proofs.YtgajekpigkknnaaDoor.D
set_option maxHeartbeats 1000000 in
theorem e29 (a b : List Rt) (hA : a.length ≤ 1000000) (hB : b.length ≤ 1000000) : LV E 29 [.agg [.ro (trows a)], .agg [.ro (trows b)]] = some (apR a b) := by
  rw [LV_R (fn := f29) rfl rfl rfl]
  have h41 := e41 a b 0 0 (by omega) (by omega)
  have z5 : [AV.int .i64 0, .int .i64 0, .int .i64 0, .int .i64 0, .int .i64 0] = apL a b 0 := rfl
  unfold apR
  by_cases h0 : rightS a b 0 0 = 0
  · obtain ⟨hRa, hRb, _⟩ := rightS_zero h0
    rw [if_pos h0]
    rw [h0] at h41
    simp only [f29, z5, RB, abin, cmpInt, params, growLists, newAt, rdPtr, AV.cells, asVal, argIds, AV.isData, Nat.reduceAdd, Nat.reduceEqDiff, ↓reduceIte, reduceCtorEq, h41, bne_self_eq_false]
    refine (W_rec2 (β := AV) (ι := {k : Nat // k ≤ 5}) (M := fun k => [(2, .ptr 0 0 0 0), (3, .ptr 1 0 0 0), (4, .ptr 2 0 0 0), (15, .int .i64 (k.1 : Int))])
      (H := fun k => ⟨[.box 0 46 [.ro (trows a)], .box 0 46 [.ro (trows b)], .box 0 66 (apL a b k.1)], []⟩) (r := fun _ => some (.tup [.agg (apL a b 5), .int .i64 0])) (μ := fun k => 5 - k.1) (fun k => ?_) (fun k ih => ?_) ⟨0, Nat.zero_le _⟩ rfl rfl)
    · simp [LPB, apL_below]
    · obtain ⟨k, hk⟩ := k
      simp only at ih ⊢
      by_cases hk5 : k < 5
      · have h42 := e42 a b (k : Int) hA hB (fun x hx => fits_ok (hRa.fits x hx)) (fun x hx => fits_ok (hRb.fits x hx)) hRa.sort hRb.sort
        have f1 : (k : Int) < 5 := by omega
        have f2 : (0 : Int) ≤ (k : Int) := by omega
        have f6 : IntKind.i64.wrap ((k : Int) + 1) = ((k + 1 : Nat) : Int) := by rw [IntWalk.i64_in _ (by omega)] <;> omega
        have ho : ovr (apL a b k) k [.int .i64 ((leadS a b (k : Int)).length : Int)] = some (apL a b (k + 1)) := by
          match k, hk5 with
          | 0, _ => rfl
          | 1, _ => rfl
          | 2, _ => rfl
          | 3, _ => rfl
          | 4, _ => rfl
        have ih := ih ⟨k + 1, hk5⟩ (by simp only; omega)
        simp only at ih
        simp only [RB, iaddrV, abin, cmpInt, newAt, rdPtr, wrPtr, AV.cells, asVal, lenOf, argIds, AV.isData, Nat.reduceAdd, Nat.reduceEqDiff, ↓reduceIte, DB4, R7B, f1, f2, f6, h42, ho]
        exact ih
      · obtain rfl : k = 5 := by omega
        simp only [RB, abin, cmpInt, rdPtr, wrPtr, AV.cells, asVal, argIds, Nat.reduceAdd, Nat.reduceEqDiff, ↓reduceIte, Int.reduceLT, show ¬ ((5 : Nat) : Int) < 5 by omega, apL_p, apL_o, apL_len, apL_data, List.nodup_nil]
        rfl
  · rw [if_neg h0]
    have z : (rightS a b 0 0 != 0) = true := by rw [bne_iff_ne]; exact h0
    simp only [f29, z5, RB, abin, cmpInt, params, growLists, newAt, rdPtr, wrPtr, AV.cells, asVal, argIds, AV.isData, Nat.reduceAdd, Nat.reduceEqDiff, ↓reduceIte, reduceCtorEq, h41, z, apL_p, apL_o, apL_len, apL_data, List.nodup_nil]
    rfl
set_option maxHeartbeats 2000000 in
theorem e28 (a b : List Rt) (s : Int) (hA : a.length ≤ 1000000) (hB : b.length ≤ 1000000) : LV E 28 [.agg [.ro (trows a)], .agg [.ro (trows b)], .int .i64 s] = some (.fresh 42 22 (vrows (updD a b s))) := by
  rw [LV_R (fn := f28) rfl rfl rfl]
  simp only [f28, ← rtv_zer, ← upv_zer, RB, faddrV, params, growLists, newAt, rdPtr, AV.cells, asVal, lenOf, Nat.reduceAdd, Nat.reduceEqDiff, ↓reduceIte, reduceCtorEq, DB4]
  refine (W_rec2 (β := AV) (ι := {k : Nat // k ≤ a.length}) (M := fun k => [(2, .int .i64 s), (3, .ptr 0 0 0 0), (4, .ptr 1 0 0 0), (7, .lis 3 ((a.take k.1).filter (goD b s)).length 0 ((a.take k.1).filter (goD b s)).length), (17, .ro (trows a)), (18, .int .i64 (a.length : Int)), (19, .int .i64 (k.1 : Int))])
    (H := fun k => ⟨[.box 0 46 [.ro (trows a)], .box 0 46 [.ro (trows b)], .lst 0 0 42 22 [], .lst 0 ((a.take k.1).filter (goD b s)).length 42 22 (vrows (((a.take k.1).filter (goD b s)).map gU))], []⟩) (r := fun _ => some (AV.fresh 42 22 (vrows (updD a b s)))) (μ := fun k => a.length - k.1) (fun k => ?_) (fun k ih => ?_) ⟨0, Nat.zero_le _⟩ rfl rfl)
  · simp [LPB]
  · obtain ⟨k, hk0⟩ := k
    simp only at ih hk0 ⊢
    by_cases hk : k < a.length
    · have f1 : (k : Int) < (a.length : Int) := by omega
      have f2 : (0 : Int) ≤ (k : Int) := by omega
      have f6 : IntKind.i64.wrap ((k : Int) + 1) = ((k + 1 : Nat) : Int) := by rw [IntWalk.i64_in _ (by omega)] <;> omega
      have g1 := trows_get a hk
      have hFl : ((a.take k).filter (goD b s)).length ≤ k := Nat.le_trans (List.length_filter_le _ _) (by rw [List.length_take]; omega)
      obtain ⟨q1, q2⟩ := app_okU hFl (by omega)
      have ih := ih ⟨k + 1, hk⟩ (by simp only; omega)
      have en := filt_next (P := goD b s) hk
      simp only [en] at ih
      have h46 := e46 b a[k].p a[k].src (by omega)
      generalize a[k] = x at *
      generalize (a.take k).filter (goD b s) = F at *
      have tk := vrows_all (F.map gU)
      rw [List.length_map] at tk
      have eU : (⟨x.p, x.src, true, zerU.pref, zerU.hop⟩ : Up) = gU x := rfl
      by_cases hg : goD b s x = true
      · rw [if_pos hg] at ih
        simp only [List.length_append, List.length_cons, List.length_nil, Nat.zero_add, List.map_append, List.map_cons, List.map_nil] at ih
        unfold goD at hg
        rw [Bool.and_eq_true, decide_eq_true_eq] at hg
        obtain ⟨hg1, hg2⟩ := hg
        have hn : (findR b x.p x.src).isSome = false := by rw [Option.isNone_iff_eq_none] at hg1; rw [hg1]; rfl
        rw [hn] at h46
        by_cases hs : s = 0
        · subst hs
          simp only [RB, pickV, notV, faddrV, iaddrV, extrV, abin, cmpInt, growLists, fillCells, newAt, rdPtr, wrPtr, AV.cells, asVal, rowsOf, argIds, freshIn, AV.isData, Nat.reduceAdd, Nat.reduceEqDiff, Nat.reduceLT, ↓reduceIte, DB, DB4, O_buildSlq, quietOk, aop_buildSl, fillRows, asData, aappend, f1, f2, f6, g1, h46, eU, q1, q2, tk, List.length_map, Nat.le_refl]
          exact ih
        · have z1 : (s == 0) = false := by rw [beq_eq_false_iff_ne]; exact hs
          have z2 : (x.src == s) = true := by rw [beq_iff_eq]; exact hg2.resolve_left hs
          simp only [RB, pickV, notV, faddrV, iaddrV, extrV, abin, cmpInt, growLists, fillCells, newAt, rdPtr, wrPtr, AV.cells, asVal, rowsOf, argIds, freshIn, AV.isData, Nat.reduceAdd, Nat.reduceEqDiff, Nat.reduceLT, ↓reduceIte, DB, DB4, O_buildSlq, quietOk, aop_buildSl, fillRows, asData, aappend, f1, f2, f6, g1, h46, z1, z2, eU, q1, q2, tk, List.length_map, Nat.le_refl]
          exact ih
      · rw [if_neg hg, List.append_nil] at ih
        cases hn : (findR b x.p x.src).isSome with
        | true =>
          rw [hn] at h46
          simp only [RB, pickV, notV, faddrV, iaddrV, extrV, abin, cmpInt, growLists, newAt, rdPtr, wrPtr, AV.cells, asVal, argIds, freshIn, AV.isData, Nat.reduceAdd, Nat.reduceEqDiff, ↓reduceIte, DB, DB4, f1, f2, f6, g1, h46]
          exact ih
        | false =>
          rw [hn] at h46
          have hg2 : ¬ (s = 0 ∨ x.src = s) := fun h => hg (by
            unfold goD; rw [decide_eq_true h, Bool.and_true]
            cases hq : findR b x.p x.src with
            | none => rfl
            | some y => rw [hq] at hn; cases hn)
          have z1 : (s == 0) = false := by rw [beq_eq_false_iff_ne]; exact fun h => hg2 (.inl h)
          have z2 : (x.src == s) = false := by rw [beq_eq_false_iff_ne]; exact fun h => hg2 (.inr h)
          simp only [RB, pickV, notV, faddrV, iaddrV, extrV, abin, cmpInt, growLists, newAt, rdPtr, wrPtr, AV.cells, asVal, argIds, freshIn, AV.isData, Nat.reduceAdd, Nat.reduceEqDiff, ↓reduceIte, DB, DB4, f1, f2, f6, g1, h46, z1, z2]
          exact ih
    · obtain rfl : k = a.length := by omega
      clear ih
      have hGl : (a.filter (goD b s)).length ≤ 1000000 := Nat.le_trans (List.length_filter_le _ _) hA
      unfold updD
      rw [List.take_length]
      generalize a.filter (goD b s) = G at *
      simp only [RB, faddrV, abin, cmpInt, rdPtr, asVal, lenOf, Nat.reduceAdd, Nat.reduceEqDiff, ↓reduceIte, DB4, show ¬ ((a.length : Nat) : Int) < (a.length : Int) by omega]
      refine (W_rec2 (β := AV) (ι := {k : Nat // k ≤ b.length}) (M := fun k => [(2, .int .i64 s), (3, .ptr 0 0 0 0), (7, .lis 3 (G.length + ((b.take k.1).filter (coD a s)).length) 0 (G.length + ((b.take k.1).filter (coD a s)).length)), (54, .ro (trows b)), (55, .int .i64 (b.length : Int)), (56, .int .i64 (k.1 : Int))])
        (H := fun k => ⟨[.box 0 46 [.ro (trows a)], .box 0 46 [.ro (trows b)], .lst 0 0 42 22 [], .lst 0 (G.length + ((b.take k.1).filter (coD a s)).length) 42 22 (vrows (G.map gU ++ ((b.take k.1).filter (coD a s)).map cU))], []⟩) (r := fun _ => some (AV.fresh 42 22 (vrows (G.map gU ++ (b.filter (coD a s)).map cU)))) (μ := fun k => b.length - k.1) (fun k => ?_) (fun k ih => ?_) ⟨0, Nat.zero_le _⟩ rfl (by simp))
      · simp [LPB]
      · obtain ⟨k, hk0⟩ := k
        simp only at ih hk0 ⊢
        by_cases hk : k < b.length
        · have f1 : (k : Int) < (b.length : Int) := by omega
          have f2 : (0 : Int) ≤ (k : Int) := by omega
          have f6 : IntKind.i64.wrap ((k : Int) + 1) = ((k + 1 : Nat) : Int) := by rw [IntWalk.i64_in _ (by omega)] <;> omega
          have g1 := trows_get b hk
          have hFl : ((b.take k).filter (coD a s)).length ≤ k := Nat.le_trans (List.length_filter_le _ _) (by rw [List.length_take]; omega)
          have ih := ih ⟨k + 1, hk⟩ (by simp only; omega)
          have en := filt_next (P := coD a s) hk
          simp only [en] at ih
          have h46 := e46 a b[k].p b[k].src (by omega)
          generalize b[k] = x at *
          generalize (b.take k).filter (coD a s) = F at *
          have hGF : (G.map gU ++ F.map cU).length = G.length + F.length := by simp
          have tk := vrows_all (G.map gU ++ F.map cU)
          rw [hGF] at tk
          obtain ⟨q1, q2⟩ := app_okU (n := G.length + F.length) (k := 1000000 + k) (by omega) (by omega)
          have eU : (⟨x.p, x.src, zerU.gone, x.pref, x.hop⟩ : Up) = cU x := rfl
          rw [Nat.add_assoc] at q1 q2
          by_cases hg2 : s = 0 ∨ x.src = s
          · cases hq : findR a x.p x.src with
            | none =>
              rw [hq] at h46
              rw [if_pos (show coD a s x = true by unfold coD; rw [hq, decide_eq_true hg2]; rfl)] at ih
              simp only [List.length_append, List.length_cons, List.length_nil, Nat.zero_add, List.map_append, List.map_cons, List.map_nil] at ih
              simp only [Option.getD_none, Option.isSome_none] at h46
              by_cases hs : s = 0
              · subst hs
                simp only [RB, pickV, notV, faddrV, iaddrV, extrV, abin, cmpInt, growLists, fillCells, newAt, rdPtr, wrPtr, AV.cells, asVal, rowsOf, argIds, freshIn, AV.isData, Nat.reduceAdd, Nat.reduceEqDiff, Nat.reduceLT, ↓reduceIte, DB, DB4, List.append_assoc, Nat.add_assoc, O_buildSlq, quietOk, aop_buildSl, fillRows, asData, aappend, f1, f2, f6, g1, h46, eU, q1, q2, tk, hGF, Nat.le_refl]
                exact ih
              · have z1 : (s == 0) = false := by rw [beq_eq_false_iff_ne]; exact hs
                have z2 : (x.src == s) = true := by rw [beq_iff_eq]; exact hg2.resolve_left hs
                simp only [RB, pickV, notV, faddrV, iaddrV, extrV, abin, cmpInt, growLists, fillCells, newAt, rdPtr, wrPtr, AV.cells, asVal, rowsOf, argIds, freshIn, AV.isData, Nat.reduceAdd, Nat.reduceEqDiff, Nat.reduceLT, ↓reduceIte, DB, DB4, List.append_assoc, Nat.add_assoc, O_buildSlq, quietOk, aop_buildSl, fillRows, asData, aappend, f1, f2, f6, g1, h46, z1, z2, eU, q1, q2, tk, hGF, Nat.le_refl]
                exact ih
            | some y =>
              rw [hq] at h46
              simp only [Option.getD_some, Option.isSome_some] at h46
              by_cases hxy : x = y
              · subst hxy
                rw [if_neg (show ¬ coD a s x = true by unfold coD; rw [hq]; simp)] at ih
                simp only [List.append_nil] at ih
                simp only [RB, pickV, notV, faddrV, eqaggV, iaddrV, extrV, abin, cmpInt, growLists, newAt, rdPtr, wrPtr, AV.cells, asVal, argIds, freshIn, AV.isData, Nat.reduceAdd, Nat.reduceEqDiff, ↓reduceIte, DB, DB4, f1, f2, f6, g1, h46]
                exact ih
              · rw [if_pos (show coD a s x = true by unfold coD; rw [hq, decide_eq_true hg2]; simpa using fun h => hxy h.symm)] at ih
                simp only [List.length_append, List.length_cons, List.length_nil, Nat.zero_add, List.map_append, List.map_cons, List.map_nil] at ih
                by_cases hs : s = 0
                · subst hs
                  simp only [RB, pickV, notV, faddrV, eqaggV, iaddrV, extrV, abin, cmpInt, growLists, fillCells, newAt, rdPtr, wrPtr, AV.cells, asVal, rowsOf, argIds, freshIn, AV.isData, Nat.reduceAdd, Nat.reduceEqDiff, Nat.reduceLT, ↓reduceIte, DB, DB4, List.append_assoc, Nat.add_assoc, O_buildSlq, quietOk, aop_buildSl, fillRows, asData, aappend, f1, f2, f6, g1, h46, hxy, eU, q1, q2, tk, hGF, Nat.le_refl]
                  exact ih
                · have z1 : (s == 0) = false := by rw [beq_eq_false_iff_ne]; exact hs
                  have z2 : (x.src == s) = true := by rw [beq_iff_eq]; exact hg2.resolve_left hs
                  simp only [RB, pickV, notV, faddrV, eqaggV, iaddrV, extrV, abin, cmpInt, growLists, fillCells, newAt, rdPtr, wrPtr, AV.cells, asVal, rowsOf, argIds, freshIn, AV.isData, Nat.reduceAdd, Nat.reduceEqDiff, Nat.reduceLT, ↓reduceIte, DB, DB4, List.append_assoc, Nat.add_assoc, O_buildSlq, quietOk, aop_buildSl, fillRows, asData, aappend, f1, f2, f6, g1, h46, hxy, z1, z2, eU, q1, q2, tk, hGF, Nat.le_refl]
                  exact ih
          · have z1 : (s == 0) = false := by rw [beq_eq_false_iff_ne]; exact fun h => hg2 (.inl h)
            have z2 : (x.src == s) = false := by rw [beq_eq_false_iff_ne]; exact fun h => hg2 (.inr h)
            rw [if_neg (show ¬ coD a s x = true by unfold coD; rw [decide_eq_false hg2]; simp)] at ih
            simp only [List.append_nil] at ih
            cases hq : findR a x.p x.src with
            | none =>
              rw [hq] at h46
              simp only [Option.getD_none, Option.isSome_none] at h46
              simp only [RB, pickV, notV, faddrV, iaddrV, extrV, abin, cmpInt, growLists, newAt, rdPtr, wrPtr, AV.cells, asVal, argIds, freshIn, AV.isData, Nat.reduceAdd, Nat.reduceEqDiff, ↓reduceIte, DB, DB4, f1, f2, f6, g1, h46, z1, z2]
              exact ih
            | some y =>
              rw [hq] at h46
              simp only [Option.getD_some, Option.isSome_some] at h46
              by_cases hxy : x = y
              · subst hxy
                simp only [RB, pickV, notV, faddrV, eqaggV, iaddrV, extrV, abin, cmpInt, growLists, newAt, rdPtr, wrPtr, AV.cells, asVal, argIds, freshIn, AV.isData, Nat.reduceAdd, Nat.reduceEqDiff, ↓reduceIte, DB, DB4, f1, f2, f6, g1, h46]
                exact ih
              · simp only [RB, pickV, notV, faddrV, eqaggV, iaddrV, extrV, abin, cmpInt, growLists, newAt, rdPtr, wrPtr, AV.cells, asVal, argIds, freshIn, AV.isData, Nat.reduceAdd, Nat.reduceEqDiff, ↓reduceIte, DB, DB4, f1, f2, f6, g1, h46, hxy, z1, z2]
                exact ih
        · obtain rfl : k = b.length := by omega
          rw [List.take_length]
          have hGF : (G.map gU ++ (b.filter (coD a s)).map cU).length = G.length + (b.filter (coD a s)).length := by simp
          have tk := vrows_all (G.map gU ++ (b.filter (coD a s)).map cU)
          rw [hGF] at tk
          simp only [RB, abin, cmpInt, rowsOf, Nat.reduceAdd, Nat.reduceEqDiff, ↓reduceIte, DB4, show ¬ ((b.length : Nat) : Int) < (b.length : Int) by omega, expCell, tk, hGF, Nat.le_refl]
          done
end Go.Proofs.YtgajekpigkknnaaDoor.F

/- A RIB mixed, by the document; both documents' answers are the program's. No condition. -/
set_option linter.unusedSimpArgs false
set_option maxRecDepth 20000
namespace Go.Proofs.YtgajekpigkknnaaDoor.D
open Go Go.Proofs.YtgajekpigkknnaaDoor.A
theorem findR_some : ∀ {l : List Rt} {p : Pfx} {s : Int} {x : Rt}, findR l p s = some x → x ∈ l ∧ x.p = p ∧ x.src = s
  | [], _, _, _, h => by cases h
  | y :: l, p, s, x, h => by
    unfold findR at h
    split at h
    · rename_i hk; cases h; exact ⟨by simp, hk⟩
    · obtain ⟨h1, h2⟩ := findR_some h; exact ⟨by simp [h1], h2⟩
theorem findR_none : ∀ {l : List Rt} {p : Pfx} {s : Int}, findR l p s = none → ∀ x ∈ l, ¬ (x.p = p ∧ x.src = s)
  | [], _, _, _, x, hx => by simp at hx
  | y :: l, p, s, h, x, hx => by
    unfold findR at h
    split at h
    · cases h
    · rename_i hk
      rcases List.mem_cons.1 hx with rfl | hx
      · exact hk
      · exact findR_none h x hx
theorem goD_eq {b : List Rt} {s : Int} {x : Rt} : goD b s x = (!hasK b (fun _ _ => true) x && filU s (gU x)) := by
  unfold goD
  congr 1
  cases h : findR b x.p x.src with
  | none =>
    have : hasK b (fun _ _ => true) x = false := by
      rw [← Bool.not_eq_true, hasK_true]
      rintro ⟨y, hy, hk⟩
      exact findR_none h y hy hk
    rw [this]; rfl
  | some y =>
    obtain ⟨h1, h2⟩ := findR_some h
    rw [hasK_true.2 ⟨y, h1, h2⟩]; rfl
theorem hasE {a : List Rt} {z : Rt} : hasK a (fun x y => decide (x = y)) z = true ↔ z ∈ a := by
  unfold hasK; rw [List.any_eq_true]
  constructor
  · rintro ⟨y, hy, hk⟩
    rw [Bool.and_eq_true, decide_eq_true_eq, decide_eq_true_eq] at hk
    exact hk.2 ▸ hy
  · exact fun hz => ⟨z, hz, by simp [KeyEq.refl]⟩
theorem coD_eq {a : List Rt} {s : Int} {x : Rt} (ha : a.Pairwise Ahead) : coD a s x = (!hasK a (fun x y => decide (x = y)) x && filU s (cU x)) := by
  unfold coD
  congr 1
  congr 1
  rw [Bool.eq_iff_iff, decide_eq_true_eq, hasE]
  constructor
  · exact fun h => (findR_some h).1
  · intro hx
    cases h : findR a x.p x.src with
    | none => exact absurd ⟨rfl, rfl⟩ (findR_none h x hx)
    | some y =>
      obtain ⟨h1, h2⟩ := findR_some h
      rw [key_uniq ha h1 hx h2]
theorem upd_eq {a : List Rt} (b : List Rt) (s : Int) (ha : a.Pairwise Ahead) : updD a b s = leadS a b s := by
  unfold updD leadS goneL comeL butS
  rw [List.filter_append, List.filter_map, List.filter_map, List.filter_filter, List.filter_filter]
  congr 1
  · congr 1
    exact List.filter_congr fun x _ => by rw [goD_eq, Bool.and_comm]; rfl
  · congr 1
    exact List.filter_congr fun x _ => by rw [coD_eq ha, Bool.and_comm]; rfl
def insR (x : Rt) : List Rt → List Rt
  | [] => [x]
  | y :: l => if Ahead x y then x :: y :: l else y :: insR x l
theorem putF_done (x : Rt) : ∀ (l out : List Rt), putF x l out true = out ++ l
  | [], out => by simp [putF]
  | y :: l, out => by unfold putF; rw [if_neg (by simp), putF_done x l]; simp
theorem putF_ins (x : Rt) : ∀ (l out : List Rt), putF x l out false = out ++ insR x l
  | [], out => by simp [putF, insR]
  | y :: l, out => by
    unfold putF insR
    by_cases h : Ahead x y
    · rw [if_pos ⟨rfl, h⟩, if_pos h, putF_done]; simp
    · rw [if_neg (fun k => h k.2), if_neg h, putF_ins x l]; simp
theorem mem_ins {x z : Rt} : ∀ {l : List Rt}, z ∈ insR x l ↔ z = x ∨ z ∈ l
  | [] => by simp [insR]
  | y :: l => by
    unfold insR
    split
    · simp
    · rw [List.mem_cons, mem_ins, List.mem_cons]
      constructor
      · rintro (h | h | h)
        · exact .inr (.inl h)
        · exact .inl h
        · exact .inr (.inr h)
      · rintro (h | h | h)
        · exact .inr (.inl h)
        · exact .inl h
        · exact .inr (.inr h)
theorem ins_len (x : Rt) : ∀ l : List Rt, (insR x l).length = l.length + 1
  | [] => rfl
  | y :: l => by unfold insR; split <;> simp [ins_len x l]
theorem ins_pair {x : Rt} : ∀ {l : List Rt}, l.Pairwise Ahead → (∀ y ∈ l, ¬ KeyEq y x) → (insR x l).Pairwise Ahead
  | [], _, _ => by simp [insR]
  | y :: l, h, hk => by
    obtain ⟨h1, h2⟩ := List.pairwise_cons.1 h
    unfold insR
    split
    · rename_i hx
      exact List.pairwise_cons.2 ⟨fun z hz => by
        rcases List.mem_cons.1 hz with rfl | hz
        · exact hx
        · exact ahead_trans hx (h1 z hz), h⟩
    · rename_i hx
      refine List.pairwise_cons.2 ⟨fun z hz => ?_, ins_pair h2 (fun z hz => hk z (by simp [hz]))⟩
      rcases mem_ins.1 hz with rfl | hz
      · rcases ahead_tri y z with h3 | h3 | h3
        · exact h3
        · exact absurd h3 (hk y (by simp))
        · exact absurd h3 hx
      · exact h1 z hz
def insL (o : List Rt) : List Rt → List Rt
  | [] => o
  | x :: l => insL (putF x o [] false) l
def mixD (a b : List Rt) (s : Int) : List Rt := insL (a.filter fun x => decide (x.src ≠ s)) (b.filter fun x => decide (x.src = s))
theorem insL_snoc : ∀ {l o : List Rt} {x : Rt}, insL o (l ++ [x]) = putF x (insL o l) [] false
  | [], _, _ => rfl
  | y :: l, o, x => by
    show insL (putF y o [] false) (l ++ [x]) = _
    rw [insL_snoc]; rfl
theorem put_len (x : Rt) (o : List Rt) : (putF x o [] false).length = o.length + 1 := by rw [putF_ins, List.nil_append, ins_len]
theorem insL_len : ∀ (l o : List Rt), (insL o l).length = o.length + l.length
  | [], o => rfl
  | x :: l, o => by
    show (insL (putF x o [] false) l).length = _
    rw [insL_len l, put_len, List.length_cons]; omega
theorem insL_ok : ∀ {l o : List Rt}, o.Pairwise Ahead → l.Pairwise Ahead → (∀ x ∈ l, ∀ y ∈ o, ¬ KeyEq y x) → (insL o l).Pairwise Ahead ∧ ∀ z, z ∈ insL o l ↔ z ∈ o ∨ z ∈ l
  | [], o, ho, _, _ => ⟨ho, fun z => by simp [insL]⟩
  | x :: l, o, ho, hl, hk => by
    obtain ⟨l1, l2⟩ := List.pairwise_cons.1 hl
    have e : putF x o [] false = insR x o := by rw [putF_ins, List.nil_append]
    obtain ⟨h1, h2⟩ := insL_ok (l := l) (o := insR x o) (ins_pair ho (hk x (by simp))) l2 (fun z hz y hy k => by
      rcases mem_ins.1 hy with rfl | hy
      · exact keyEq_irr k (l1 z hz)
      · exact hk z (by simp [hz]) y hy k)
    unfold insL
    rw [e]
    refine ⟨h1, fun z => ?_⟩
    rw [h2 z, mem_ins, List.mem_cons]
    constructor
    · rintro ((h | h) | h)
      · exact .inr (.inl h)
      · exact .inl h
      · exact .inr (.inr h)
    · rintro (h | h | h)
      · exact .inl (.inr h)
      · exact .inl (.inl h)
      · exact .inr h
theorem sortR_pair {xs : List Rt} (hk : xs.Pairwise fun x y => ¬ KeyEq x y) : (sortL cmpR xs).Pairwise Ahead := by
  have h1 := sortL_sorted cmpR_swo xs
  have hp := sortL_perm cmpR xs
  have h2 : (sortL cmpR xs).Pairwise fun x y => ¬ KeyEq x y := hp.symm.pairwise hk (fun {_ _} h k => h ⟨k.1.symm, k.2.symm⟩)
  refine (h1.and h2).imp fun {x y} h => ?_
  rcases ahead_tri x y with h3 | h3 | h3
  · exact h3
  · exact absurd h3 h.2
  · rw [(ltR y x).2 h3] at h; exact absurd h.1 (by simp)
theorem mix_eq {a b : List Rt} (s : Int) (ha : RibP a) (hb : RibP b) : mixD a b s = mixS a b s := by
  have hx : ∀ x ∈ b.filter (fun x => decide (x.src = s)), ∀ y ∈ a.filter (fun x => decide (x.src ≠ s)), ¬ KeyEq y x := fun x hx y hy k => by
    have h1 := of_decide_eq_true (List.mem_filter.1 hx).2
    have h2 := of_decide_eq_true (List.mem_filter.1 hy).2
    exact h2 (k.2.trans h1)
  obtain ⟨h1, h2⟩ := insL_ok (ha.pair.filter _) (hb.pair.filter _) hx
  refine sort_ext h1 (sortR_pair ?_) fun z => ?_
  · unfold mixL
    refine List.pairwise_append.2 ⟨(ha.pair.filter _).imp fun h k => keyEq_irr k h, (hb.pair.filter _).imp fun h k => keyEq_irr k h, fun x hx' y hy k => hx y hy x hx' k⟩
  · rw [mem_mix]
    unfold mixD
    rw [h2 z, List.mem_filter, List.mem_filter, decide_eq_true_eq, decide_eq_true_eq]
end Go.Proofs.YtgajekpigkknnaaDoor.D

/- A RIB mixed, by the document: the run; a RIB mixed, in the caller's store. No condition. -/
set_option linter.unusedSimpArgs false
set_option maxRecDepth 20000
namespace Go.Proofs.YtgajekpigkknnaaDoor.F
open Go Go.Proofs.YtgajekpigkknnaaDoor.A Go.Proofs.YtgajekpigkknnaaDoor.D
theorem r24a {bs : List Blk} (a b : List Rt) (s : Int) (ha : a.length ≤ 1000000) (hb : b.length ≤ 1000000) (h0 : rightS a b s 1 ≠ 0) : LR E [] 24 [.agg [.ro (trows a)], .agg [.ro (trows b)], .int .i64 s] ⟨bs, []⟩ = some (.tup [.agg [.lis (bs.length + 4) 0 0 0], .int .i64 (rightS a b s 1)], ⟨bs ++ [.box 0 46 [.ro (trows a)], .box 0 46 [.ro (trows b)], .box 0 46 [.lis (bs.length + 4) 0 0 0], .lst 0 0 53 21 [], .lst 0 0 53 21 []], []⟩) := by
  rw [LR_R (fn := f24) rfl rfl rfl]
  have h41 := e41 a b s 1 (by omega) (by omega)
  have z : (rightS a b s 1 != 0) = true := by rw [bne_iff_ne]; exact h0
  simp only [f24, RB, abin, cmpInt, params, growLists, fillCells, newAt, rdPtr, wrPtr, AV.cells, asVal, argIds, scalar1, AV.isData, Nat.reduceAdd, Nat.reduceEqDiff, ↓reduceIte, reduceCtorEq, R7B, List.append_assoc, List.length_append, Nat.add_assoc, h41, z, CW_some, scalar, scalar1, reduceCtorEq]
theorem r24b {bs : List Blk} (a b : List Rt) (s : Int) (ha : a.length ≤ 1000000) (hb : b.length ≤ 1000000) (h0 : rightS a b s 1 = 0) (hR : ¬ RibP (mixS a b s)) : LR E [] 24 [.agg [.ro (trows a)], .agg [.ro (trows b)], .int .i64 s] ⟨bs, []⟩ = some (.tup [.agg [.lis (bs.length + 7) 0 0 0], .int .i64 6], ⟨bs ++ [.box 0 46 [.ro (trows a)], .box 0 46 [.ro (trows b)], .box 0 46 [.lis (bs.length + 7) 0 0 0], .lst 0 0 53 21 [], .lst 0 0 53 21 (trows (mixS a b s)), .box 0 46 [.lis (bs.length + 4) 0 0 (mixS a b s).length], .lst 0 0 53 21 [], .lst 0 0 53 21 []], []⟩) := by
  rw [LR_R (fn := f24) rfl rfl rfl]
  have h41 := e41 a b s 1 (by omega) (by omega)
  obtain ⟨hA, hB, h1, h2⟩ := rightS_zero h0
  have h44 := e44 a b s ha hb (mix_sortD hA hB s)
  have hl := mixS_len a b s
  have h30 := e30 (mixS a b s) (by omega)
  generalize mixS a b s = m at *
  rw [h0] at h41
  have tm := trows_all m
  rw [if_neg hR] at h30
  simp only [f24, RB, abin, cmpInt, params, growLists, fillCells, newAt, rdPtr, wrPtr, AV.cells, asVal, rowsOf, argIds, scalar1, AV.isData, Nat.reduceAdd, Nat.reduceEqDiff, ↓reduceIte, reduceCtorEq, DB4, R7B, List.append_assoc, List.length_append, Nat.add_assoc, h41, h44, h30, take_agg1, bne_self_eq_false, show ((211 : Int) != 0) = true from rfl, snap, snapCell, rowsOf, CW_some, scalar, scalar1, reduceCtorEq, Nat.le_refl, tm]
theorem r24c {bs : List Blk} (a b : List Rt) (s : Int) (ha : a.length ≤ 1000000) (hb : b.length ≤ 1000000) (h0 : rightS a b s 1 = 0) (hR : RibP (mixS a b s)) : LR E [] 24 [.agg [.ro (trows a)], .agg [.ro (trows b)], .int .i64 s] ⟨bs, []⟩ = some (.tup [.agg [.lis (bs.length + 4) 0 0 (mixS a b s).length], .int .i64 0], ⟨bs ++ [.box 0 46 [.ro (trows a)], .box 0 46 [.ro (trows b)], .box 0 46 [.lis (bs.length + 4) 0 0 (mixS a b s).length], .lst 0 0 53 21 [], .lst 0 0 53 21 (trows (mixS a b s)), .box 0 46 [.lis (bs.length + 4) 0 0 (mixS a b s).length], .lst 0 0 53 21 []], []⟩) := by
  rw [LR_R (fn := f24) rfl rfl rfl]
  have h41 := e41 a b s 1 (by omega) (by omega)
  obtain ⟨hA, hB, h1, h2⟩ := rightS_zero h0
  have h44 := e44 a b s ha hb (mix_sortD hA hB s)
  have hl := mixS_len a b s
  have h30 := e30 (mixS a b s) (by omega)
  generalize mixS a b s = m at *
  rw [h0] at h41
  have tm := trows_all m
  rw [if_pos hR] at h30
  simp only [f24, RB, abin, cmpInt, params, growLists, newAt, rdPtr, wrPtr, AV.cells, asVal, rowsOf, argIds, scalar1, AV.isData, Nat.reduceAdd, Nat.reduceEqDiff, ↓reduceIte, reduceCtorEq, DB4, R7B, List.append_assoc, List.length_append, Nat.add_assoc, h41, h44, h30, take_agg1, bne_self_eq_false, snap, snapCell, rowsOf, CW_some, scalar, scalar1, reduceCtorEq, Nat.le_refl, tm]
set_option maxHeartbeats 2000000 in
theorem e26 (a b : List Rt) (s : Int) (ha : a.length ≤ 400000) (hb : b.length ≤ 400000) : LV E 26 [.agg [.ro (trows a)], .agg [.ro (trows b)], .int .i64 s] = some (.tup [.agg [.ro (trows (mixD a b s))], .bool (decide (RibP (mixD a b s)))]) := by
  rw [LV_R (fn := f26) rfl rfl rfl]
  simp only [f26, ← rtv_zer, RB, faddrV, params, growLists, newAt, rdPtr, AV.cells, asVal, lenOf, Nat.reduceAdd, Nat.reduceEqDiff, ↓reduceIte, reduceCtorEq, DB4]
  refine (W_rec2 (β := AV) (ι := {k : Nat // k ≤ a.length}) (M := fun k => [(2, .int .i64 s), (4, .ptr 1 0 0 0), (6, .ptr 2 0 0 0), (8, .ptr 4 0 0 0), (14, .ro (trows a)), (15, .int .i64 (a.length : Int)), (16, .int .i64 (k.1 : Int))])
    (H := fun k => ⟨[.box 0 46 [.ro (trows a)], .box 0 46 [.ro (trows b)], .box 0 46 [.lis 3 0 0 0], .lst 0 0 53 21 [], .box 0 46 [.lis 5 ((a.take k.1).filter fun x => decide (x.src ≠ s)).length 0 ((a.take k.1).filter fun x => decide (x.src ≠ s)).length], .lst 0 ((a.take k.1).filter fun x => decide (x.src ≠ s)).length 53 21 (trows ((a.take k.1).filter fun x => decide (x.src ≠ s)))], []⟩) (r := fun _ => some (AV.tup [.agg [.ro (trows (mixD a b s))], .bool (decide (RibP (mixD a b s)))])) (μ := fun k => a.length - k.1) (fun k => ?_) (fun k ih => ?_) ⟨0, Nat.zero_le _⟩ rfl rfl)
  · simp [LPB]
  · obtain ⟨k, hk0⟩ := k
    simp only at ih hk0 ⊢
    by_cases hk : k < a.length
    · have f1 : (k : Int) < (a.length : Int) := by omega
      have f2 : (0 : Int) ≤ (k : Int) := by omega
      have f6 : IntKind.i64.wrap ((k : Int) + 1) = ((k + 1 : Nat) : Int) := by rw [IntWalk.i64_in _ (by omega)] <;> omega
      have g1 := trows_get a hk
      have hFl : ((a.take k).filter fun x => decide (x.src ≠ s)).length ≤ k := Nat.le_trans (List.length_filter_le _ _) (by rw [List.length_take]; omega)
      obtain ⟨q1, q2, _, _⟩ := app_okR (Nat.le_succ_of_le hFl) (by omega)
      have ih := ih ⟨k + 1, hk⟩ (by simp only; omega)
      have en := filt_next (P := fun x : Rt => decide (x.src ≠ s)) hk
      simp only [en] at ih
      generalize a[k] = x at *
      generalize hF : (a.take k).filter (fun x => decide (x.src ≠ s)) = F at *
      have tk := trows_all F
      by_cases hs : x.src = s
      · rw [if_neg (by simpa using hs), List.append_nil] at ih
        have z : (x.src != s) = false := by rw [hs]; simp
        simp only [RB, faddrV, iaddrV, abin, cmpInt, growLists, newAt, rdPtr, wrPtr, AV.cells, asVal, Nat.reduceAdd, Nat.reduceEqDiff, ↓reduceIte, DB4, f1, f2, f6, g1, z]
        exact ih
      · rw [if_pos (by simpa using hs)] at ih
        have z : (x.src != s) = true := by rw [bne_iff_ne]; exact hs
        simp only [List.length_append, List.length_cons, List.length_nil, Nat.zero_add] at ih
        simp only [RB, faddrV, iaddrV, abin, cmpInt, growLists, newAt, rdPtr, wrPtr, AV.cells, asVal, rowsOf, Nat.reduceAdd, Nat.reduceEqDiff, Nat.reduceLT, ↓reduceIte, DB4, O_buildSlq, quietOk, aop_buildSl, fillRows, asData, aappend, f1, f2, f6, g1, z, q1, q2, tk, Nat.le_refl]
        exact ih
    · obtain rfl : k = a.length := by omega
      clear ih
      have hGl : (a.filter fun x => decide (x.src ≠ s)).length ≤ 400000 := Nat.le_trans (List.length_filter_le _ _) ha
      unfold mixD
      rw [List.take_length]
      generalize a.filter (fun x => decide (x.src ≠ s)) = G at *
      simp only [RB, faddrV, abin, cmpInt, rdPtr, asVal, lenOf, Nat.reduceAdd, Nat.reduceEqDiff, ↓reduceIte, DB4, show ¬ ((a.length : Nat) : Int) < (a.length : Int) by omega]
      refine (W_rec2 (β := AV) (ι := {t : Nat × Bool // t.1 ≤ b.length ∧ (t.2 = true → (b.take t.1).filter (fun x => decide (x.src = s)) = [])}) (M := fun t => [(2, .int .i64 s), (6, .ptr 2 0 0 0), (8, .ptr 4 0 0 0), (32, .ro (trows b)), (33, .int .i64 (b.length : Int)), (34, .int .i64 (t.1.1 : Int))])
        (H := fun t => ⟨[.box 0 46 [.ro (trows a)], .box 0 46 [.ro (trows b)], .box 0 46 [.lis 3 0 0 0], .lst 0 0 53 21 [], .box 0 46 [if t.1.2 then .lis 5 G.length 0 G.length else .ro (trows (insL G ((b.take t.1.1).filter fun x => decide (x.src = s))))], .lst (if t.1.2 then 0 else 2) G.length 53 21 (trows G)], []⟩)
        (r := fun _ => some (AV.tup [.agg [.ro (trows (insL G (b.filter fun x => decide (x.src = s))))], .bool (decide (RibP (insL G (b.filter fun x => decide (x.src = s)))))])) (μ := fun t => b.length - t.1.1) (fun t => ?_) (fun t ih => ?_) ⟨(0, true), Nat.zero_le _, fun _ => rfl⟩ rfl rfl)
      · obtain ⟨⟨k, c⟩, h⟩ := t
        cases c <;> simp [LPB]
      · obtain ⟨⟨k, c⟩, hk0, hc⟩ := t
        simp only at ih hk0 hc ⊢
        by_cases hk : k < b.length
        · have f1 : (k : Int) < (b.length : Int) := by omega
          have f2 : (0 : Int) ≤ (k : Int) := by omega
          have f6 : IntKind.i64.wrap ((k : Int) + 1) = ((k + 1 : Nat) : Int) := by rw [IntWalk.i64_in _ (by omega)] <;> omega
          have g1 := trows_get b hk
          have hFl : ((b.take k).filter fun x => decide (x.src = s)).length ≤ k := Nat.le_trans (List.length_filter_le _ _) (by rw [List.length_take]; omega)
          have en := filt_next (P := fun x : Rt => decide (x.src = s)) hk
          have hol := insL_len ((b.take k).filter fun x => decide (x.src = s)) G
          by_cases hs : b[k].src = s
          · have ih := ih ⟨(k + 1, false), hk, by simp⟩ (by simp only; omega)
            rw [if_pos (decide_eq_true hs)] at en
            simp only [en, insL_snoc, Bool.false_eq_true, if_false] at ih
            have h45 := e45 (insL G ((b.take k).filter fun x => decide (x.src = s))) b[k] (by omega)
            generalize b[k] = x at *
            have z : (x.src == s) = true := by rw [beq_iff_eq]; exact hs
            cases c with
            | true =>
              rw [hc rfl] at h45 ih
              simp only [insL] at h45 ih
              have tk := trows_all G
              simp only [if_true]
              simp only [RB, faddrV, iaddrV, abin, cmpInt, growLists, newAt, rdPtr, wrPtr, AV.cells, asVal, rowsOf, argIds, scalar1, Nat.reduceAdd, Nat.reduceEqDiff, ↓reduceIte, reduceCtorEq, DB4, R7B, f1, f2, f6, g1, z, snap, rowsOf, tk, Nat.le_refl, h45, CW_some, scalar, scalar1, lockAll, lockAt, reduceCtorEq]
              exact ih
            | false =>
              generalize insL G ((b.take k).filter fun x => decide (x.src = s)) = O at *
              simp only [Bool.false_eq_true, if_false]
              simp only [RB, faddrV, iaddrV, abin, cmpInt, growLists, newAt, rdPtr, wrPtr, AV.cells, asVal, argIds, scalar1, Nat.reduceAdd, Nat.reduceEqDiff, ↓reduceIte, DB4, R7B, f1, f2, f6, g1, z, h45, CW_some, scalar, scalar1]
              exact ih
          · have e2 : (b.take (k + 1)).filter (fun x => decide (x.src = s)) = (b.take k).filter (fun x => decide (x.src = s)) := by
              rw [en, if_neg (fun h => hs (of_decide_eq_true h)), List.append_nil]
            have ih := ih ⟨(k + 1, c), hk, fun h => by rw [e2]; exact hc h⟩ (by simp only; omega)
            simp only [e2] at ih
            generalize b[k] = x at *
            have z : (x.src == s) = false := by rw [beq_eq_false_iff_ne]; exact hs
            simp only [RB, faddrV, iaddrV, abin, cmpInt, growLists, newAt, rdPtr, wrPtr, AV.cells, asVal, Nat.reduceAdd, Nat.reduceEqDiff, ↓reduceIte, DB4, f1, f2, f6, g1, z]
            exact ih
        · obtain rfl : k = b.length := by omega
          rw [List.take_length] at hc
          simp only [List.take_length]
          have hFl : (b.filter fun x => decide (x.src = s)).length ≤ b.length := List.length_filter_le _ _
          have hol := insL_len (b.filter fun x => decide (x.src = s)) G
          have h17 := e17 (insL G (b.filter fun x => decide (x.src = s))) (by omega)
          cases c with
          | true =>
            rw [hc rfl] at h17 ⊢
            simp only [insL] at h17 ⊢
            have tk := trows_all G
            simp only [if_true]
            simp only [RB, abin, cmpInt, rdPtr, wrPtr, AV.cells, asVal, rowsOf, argIds, scalar1, AV.isData, Nat.reduceAdd, Nat.reduceEqDiff, ↓reduceIte, reduceCtorEq, DB4, show ¬ ((b.length : Nat) : Int) < (b.length : Int) by omega, snap, snapCell, rowsOf, tk, Nat.le_refl, h17, CW_some, scalar, scalar1, reduceCtorEq, mutIds, expIn_tabT, expCell, List.nodup_cons, List.nodup_nil, List.not_mem_nil, and_false, mutIds]
            done
          | false =>
            generalize insL G (b.filter fun x => decide (x.src = s)) = O at *
            simp only [Bool.false_eq_true, if_false]
            simp only [RB, abin, cmpInt, rdPtr, wrPtr, AV.cells, asVal, argIds, scalar1, AV.isData, Nat.reduceAdd, Nat.reduceEqDiff, ↓reduceIte, show ¬ ((b.length : Nat) : Int) < (b.length : Int) by omega, h17, CW_some, scalar, scalar1, List.nodup_nil, and_false]
            done
end Go.Proofs.YtgajekpigkknnaaDoor.F

/- What leads from a RIB to another one is as the document says: the run. No condition. -/
set_option linter.unusedSimpArgs false
set_option maxRecDepth 20000
namespace Go.Proofs.YtgajekpigkknnaaDoor.D
open Go Go.Proofs.YtgajekpigkknnaaDoor.A Go.Proofs.YtgajekpigkknnaaDoor.F
def srows (ns : List Int) : List (List AV) := ns.map fun n => [.int .i64 n]
theorem srows_len (ns : List Int) : (srows ns).length = ns.length := by simp [srows]
theorem srows_get (ns : List Int) {i : Nat} (h : i < ns.length) : (srows ns)[i]? = some [.int .i64 ns[i]] := by simp [srows, h]
def spoilR (m : List Rt) (j : Nat) : List Rt := (m.take j).map (fun x => { x with hop := 0 }) ++ m.drop j
theorem spoilR_get {m : List Rt} {j : Nat} (h : j < m.length) : (trows (spoilR m j))[j]? = some (rtv m[j]) := by
  unfold trows spoilR
  rw [List.getElem?_map, List.getElem?_append_right (by simp; omega)]
  simp [h, Nat.min_eq_left (Nat.le_of_lt h)]
theorem spoilR_set {m : List Rt} {j : Nat} (h : j < m.length) : (trows (spoilR m j)).set j (rtv { m[j] with hop := 0 }) = trows (spoilR m (j + 1)) := by
  rw [trows_set]
  congr 1
  unfold spoilR
  have hl : ((m.take j).map fun x => ({ x with hop := 0 } : Rt)).length = j := by rw [List.length_map, List.length_take]; omega
  rw [List.set_append_right _ _ (by rw [hl]; exact Nat.le_refl _), hl, Nat.sub_self, List.drop_eq_getElem_cons h, List.set_cons_zero, List.take_add_one, List.getElem?_eq_getElem h, Option.toList_some, List.map_append, List.append_assoc]
  rfl
theorem spoilR_zero (m : List Rt) : spoilR m 0 = m := by simp [spoilR]
theorem apL_five (a b : List Rt) {k : Nat} (h : k < 5) : piece (apL a b 5) k 1 = some [.int .i64 ((leadS a b (k : Int)).length : Int)] := by
  match k, h with
  | 0, _ => rfl
  | 1, _ => rfl
  | 2, _ => rfl
  | 3, _ => rfl
  | 4, _ => rfl
theorem right_bad {a b : List Rt} {s least : Int} (h : ¬ (RibP a ∧ RibP b)) : rightS a b s least = 211 := by
  unfold rightS
  by_cases hA : RibP a
  · rw [if_pos hA, if_neg (fun hB => h ⟨hA, hB⟩)]
  · rw [if_neg hA]
theorem right_src {a b : List Rt} {s : Int} (hA : RibP a) (hB : RibP b) (h : ¬ (1 ≤ s ∧ s ≤ 4)) : rightS a b s 1 = 2 := by
  unfold rightS; rw [if_pos hA, if_pos hB, if_pos (by omega)]
theorem right_src1 {a b : List Rt} {s : Int} (hA : RibP a) (hB : RibP b) (h : 1 ≤ s ∧ s ≤ 4) : rightS a b s 1 = 0 := by
  unfold rightS; rw [if_pos hA, if_pos hB, if_neg (by omega)]
theorem updR_no {a b : List Rt} {s c : Int} (h : rightS a b s 1 = c) (hc : c ≠ 0) : updR a b s = ([], c) := by
  have e : mixR a b s = ([], c) := by unfold mixR; rw [if_pos (by rw [h]; exact hc), h]
  unfold updR; rw [e, if_neg hc]
theorem updR_full {a b : List Rt} {s : Int} (h : rightS a b s 1 = 0) (hM : ¬ RibP (mixS a b s)) : updR a b s = ([], 6) := by
  have e : mixR a b s = ([], 6) := by unfold mixR; rw [if_neg (by rw [h]; simp), if_neg hM]
  unfold updR; rw [e, if_neg (by decide)]
theorem updR_ok {a b : List Rt} {s : Int} (h : rightS a b s 1 = 0) (hM : RibP (mixS a b s)) : updR a b s = (leadS a b s, 0) := by
  have e : mixR a b s = (mixS a b s, 0) := by unfold mixR; rw [if_neg (by rw [h]; simp), if_pos hM]
  unfold updR; rw [e, if_pos rfl]
end Go.Proofs.YtgajekpigkknnaaDoor.D
namespace Go.Proofs.YtgajekpigkknnaaDoor.F
open Go Go.Proofs.YtgajekpigkknnaaDoor.A Go.Proofs.YtgajekpigkknnaaDoor.D
theorem take_agg1f {s : Nat} {e : TypeId} {k : Nat} {rows : List (List AV)} {bs : List Blk} : takeRes false s (.agg [.fresh e k rows]) bs = some (.agg [.ro rows], bs) := rfl
set_option maxHeartbeats 4000000 in
theorem e6 (x y : List Rt) (ns : List Int) (hx : x.length ≤ 9223372036854775807) (hy : y.length ≤ 9223372036854775807) (hn : ns.length ≤ 9223372036854775807) : LV E 6 [.agg [.ro (trows x)], .agg [.ro (trows y)], .ro (srows ns)] = some (.bool true) := by
  rw [LV_R (fn := f6) rfl rfl rfl]
  have h15a := e15 x hx
  have h15b := e15 y hy
  have la : (x.take 161).length ≤ 161 := List.length_take_le _ _
  have lb : (y.take 161).length ≤ 161 := List.length_take_le _ _
  generalize x.take 161 = a at *
  generalize y.take 161 = b at *
  have h17a := e17 a (by omega)
  have h17b := e17 b (by omega)
  by_cases hA : RibP a
  · by_cases hB : RibP b
    · rw [decide_eq_true hA] at h17a
      rw [decide_eq_true hB] at h17b
      have h20 := e20 a b (by omega) (by omega)
      rw [show allR a b = (leadS a b 0, 0) by unfold allR; rw [if_pos (right_ok hA hB)]] at h20
      have h29 := e29 a b (by omega) (by omega)
      rw [show apR a b = .tup [.agg (apL a b 5), .int .i64 0] by unfold apR; rw [if_pos (right_ok hA hB)]] at h29
      have z5 : [AV.int .i64 0, .int .i64 0, .int .i64 0, .int .i64 0, .int .i64 0] = apL a b 0 := rfl
      simp only [f6, z5, RB, pickV, notV, params, growLists, newAt, rdPtr, wrPtr, AV.cells, asVal, lenOf, argIds, scalar1, AV.isData, Nat.reduceAdd, Nat.reduceEqDiff, ↓reduceIte, reduceCtorEq, snap, CW_some, scalar, scalar1, reduceCtorEq, mutIds, srows_len, e9, h15a, h15b, take_agg1f, pairOk, AV.ids, List.contains_nil, Nat.reduceBEq, h17a, h17b]
      refine (W_rec2 (β := AV) (ι := {k : Nat // k ≤ ns.length ∧ k ≤ 8}) (M := fun k => [(7, .ptr 2 0 0 0), (8, .ptr 3 0 0 0), (9, .ptr 4 0 0 0), (10, .ptr 5 0 0 0), (11, .bool true), (43, .ro (srows ns)), (44, .int .i64 (ns.length : Int)), (45, .int .i64 (k.1 : Int))])
        (H := fun _ => ⟨[.box 0 46 [.ro (trows x)], .box 0 46 [.ro (trows y)], .box 0 46 [.ro (trows a)], .box 0 46 [.ro (trows b)], .box 0 46 [.ro (trows a)], .box 0 46 [.ro (trows b)]], []⟩) (r := fun _ => some (AV.bool true)) (μ := fun k => ns.length - k.1) (fun k => ?_) (fun k ih => ?_) ⟨0, Nat.zero_le _, Nat.zero_le _⟩ rfl rfl)
      · simp [LPB]
      · obtain ⟨k, hk0, hk8⟩ := k
        simp only at ih hk0 hk8 ⊢
        by_cases hk : k < ns.length
        · have f1 : (k : Int) < (ns.length : Int) := by omega
          have f2 : (0 : Int) ≤ (k : Int) := by omega
          have f6 : IntKind.i64.wrap ((k : Int) + 1) = ((k + 1 : Nat) : Int) := by rw [IntWalk.i64_in _ (by omega)] <;> omega
          have g1 := srows_get ns hk
          by_cases h8 : k = 8
          · subst h8
            have f1 : (8 : Int) < (ns.length : Int) := by omega
            have f2 : (0 : Int) ≤ 8 := by decide
            simp only [RB, notV, iaddrV, extrV, abin, cmpInt, growLists, newAt, rdPtr, wrPtr, AV.cells, asVal, argIds, freshIn, scalar1, AV.isData, Nat.reduceAdd, Nat.reduceEqDiff, ↓reduceIte, reduceCtorEq, R7B, snap, CW_some, scalar, scalar1, reduceCtorEq, extrV, f1, f2, g1, show Int.toNat 8 = 8 from rfl, show ((8 : Int) == 8) = true from rfl, h20, h29, apL_o, apL_len]
            exact (W_rec2 (β := AV) (ι := {k : Nat // k ≤ 5}) (M := fun k => [(7, .ptr 2 0 0 0), (8, .ptr 3 0 0 0), (9, .ptr 4 0 0 0), (10, .ptr 5 0 0 0), (22, .ro (vrows (leadS a b 0))), (23, .int .i64 0), (24, .ptr 6 0 0 0), (25, .int .i64 0), (164, .int .i64 (k.1 : Int))])
              (H := fun _ => ⟨[.box 0 46 [.ro (trows x)], .box 0 46 [.ro (trows y)], .box 0 46 [.ro (trows a)], .box 0 46 [.ro (trows b)], .box 0 46 [.ro (trows a)], .box 0 46 [.ro (trows b)], .box 0 66 (apL a b 5)], []⟩) (r := fun _ => some (AV.bool true)) (μ := fun k => 5 - k.1) (fun k => by simp [LPB, apL_below]) (fun k kh => by
                    obtain ⟨k, hk0⟩ := k
                    simp only at kh hk0 ⊢
                    by_cases hk5 : k < 5
                    · have f1 : (k : Int) < 5 := by omega
                      have f2 : (0 : Int) ≤ (k : Int) := by omega
                      have f6 : IntKind.i64.wrap ((k : Int) + 1) = ((k + 1 : Nat) : Int) := by rw [IntWalk.i64_in _ (by omega)] <;> omega
                      have h28 := e28 a b (k : Int) (by omega) (by omega)
                      rw [upd_eq b (k : Int) hA.pair] at h28
                      have hp := apL_five a b hk5
                      have kh := kh ⟨k + 1, hk5⟩ (by simp only; omega)
                      simp only at kh
                      simp only [RB, iaddrV, abin, cmpInt, rdPtr, asVal, lenOf, argIds, scalar1, AV.isData, Nat.reduceAdd, Nat.reduceEqDiff, ↓reduceIte, DB4, R7B, snap, CW_some, scalar, scalar1, bne_self_eq_false, f1, f2, f6, h28, hp]
                      exact kh
                    · obtain rfl : k = 5 := by omega
                      have h28 := e28 a b 0 (by omega) (by omega)
                      rw [upd_eq b 0 hA.pair] at h28
                      have h13 := e13 (leadS a b 0) (leadS a b 0) (by have := lead_len a b 0; omega)
                      have h19a := e19 a a (by omega)
                      have h19b := e19 b b (by omega)
                      simp only [RB, pickV, abin, cmpInt, rdPtr, asVal, argIds, scalar1, AV.isData, Nat.reduceAdd, Nat.reduceEqDiff, ↓reduceIte, Int.reduceLT, R7B, snap, CW_some, scalar, scalar1, show ¬ ((5 : Nat) : Int) < 5 by omega, h28, h13, h19a, h19b]) ⟨0, Nat.zero_le _⟩ rfl rfl)
          · have n8 : ((k : Int) == 8) = false := by rw [beq_eq_false_iff_ne]; omega
            have ih := ih ⟨k + 1, hk, by omega⟩ (by simp only; omega)
            simp only at ih
            generalize ns[k] = s at *
            have h25 := e25 a b s (by omega) (by omega)
            have h26 := e26 a b s (by omega) (by omega)
            have h27 := e27 s
            by_cases hs : 1 ≤ s ∧ s ≤ 4
            · have h0 := right_src1 hA hB hs
              by_cases hM : RibP (mixS a b s)
              · have h24 := r24c (bs := [.box 0 46 [.ro (trows x)], .box 0 46 [.ro (trows y)], .box 0 46 [.ro (trows a)], .box 0 46 [.ro (trows b)], .box 0 46 [.ro (trows a)], .box 0 46 [.ro (trows b)], .dead, .dead]) a b s (by omega) (by omega) h0 hM
                rw [updR_ok h0 hM] at h25
                rw [mix_eq s hA hB, decide_eq_true hM] at h26
                rw [decide_eq_true hs] at h27
                have h28 := e28 a b s (by omega) (by omega)
                rw [upd_eq b s hA.pair] at h28
                have h13 := e13 (leadS a b s) (leadS a b s) (by have := lead_len a b s; omega)
                have h19 := e19 (mixS a b s) (mixS a b s) (by have := mixS_len a b s; omega)
                have hml := mixS_len a b s
                generalize leadS a b s = L at *
                generalize mixS a b s = m at *
                have tm := trows_all m
                simp only [List.cons_append, List.nil_append, List.length_cons, List.length_nil, Nat.zero_add, Nat.reduceAdd] at h24
                simp only [RB, pickV, notV, faddrV, iaddrV, extrV, abin, cmpInt, growLists, newAt, rdPtr, wrPtr, AV.cells, asVal, lenOf, rowsOf, argIds, freshIn, scalar1, AV.isData, Nat.reduceAdd, Nat.reduceEqDiff, ↓reduceIte, reduceCtorEq, DB4, R7B, snap, snapCell, rowsOf, CW_some, scalar, scalar1, reduceCtorEq, extrV, mutIds, Nat.le_refl, bne_self_eq_false, f1, f2, g1, n8, h24, h25, h26, h27, h28, h13, h19, tm]
                refine (W_rec2 (β := AV) (ι := {j : Nat // j ≤ m.length}) (M := fun j => [(7, .ptr 2 0 0 0), (8, .ptr 3 0 0 0), (9, .ptr 4 0 0 0), (10, .ptr 5 0 0 0), (11, .bool true), (14, .ptr 6 0 0 0), (43, .ro (srows ns)), (44, .int .i64 (ns.length : Int)), (45, .int .i64 (k : Int)), (123, .int .i64 (m.length : Int)), (124, .int .i64 (j.1 : Int))])
                  (H := fun j => ⟨[.box 0 46 [.ro (trows x)], .box 0 46 [.ro (trows y)], .box 0 46 [.ro (trows a)], .box 0 46 [.ro (trows b)], .box 0 46 [.ro (trows a)], .box 0 46 [.ro (trows b)], .box 0 46 [.lis 12 0 0 m.length], .lst 0 0 53 21 [], .box 0 46 [.ro (trows a)], .box 0 46 [.ro (trows b)], .box 0 46 [.lis 12 0 0 m.length], .lst 0 0 53 21 [], .lst 0 0 53 21 (trows (spoilR m j.1)), .box 0 46 [.lis 12 0 0 m.length], .lst 0 0 53 21 [], .box 0 46 [.ro (trows m)], .lst 0 0 53 21 []], []⟩) (r := fun _ => some (AV.bool true)) (μ := fun j => m.length - j.1) (fun j => ?_) (fun j jh => ?_) ⟨0, Nat.zero_le _⟩ rfl (by rw [spoilR_zero]))
                · simp [LPB]
                · obtain ⟨j, hj0⟩ := j
                  simp only at jh hj0 ⊢
                  by_cases hj : j < m.length
                  · have j1 : (j : Int) < (m.length : Int) := by omega
                    have j2 : (0 : Int) ≤ (j : Int) := by omega
                    have j6 : IntKind.i64.wrap ((j : Int) + 1) = ((j + 1 : Nat) : Int) := by rw [IntWalk.i64_in _ (by omega)] <;> omega
                    have g2 := spoilR_get hj
                    have g3 := rtv_o2 m[j] 0
                    have g4 := spoilR_set hj
                    have jh := jh ⟨j + 1, hj⟩ (by simp only; omega)
                    simp only at jh
                    simp only [RB, faddrV, iaddrV, abin, cmpInt, rdPtr, wrPtr, AV.cells, asVal, AV.isData, Nat.reduceAdd, Nat.reduceEqDiff, ↓reduceIte, lisFits, j1, j2, j6, hj, g2, g3, g4]
                    exact jh
                  · obtain rfl : j = m.length := by omega
                    simp only [RB, abin, cmpInt, Nat.reduceAdd, Nat.reduceEqDiff, ↓reduceIte, show ¬ ((m.length : Nat) : Int) < (m.length : Int) by omega, f6]
                    exact ih
              · have h24 := r24b (bs := [.box 0 46 [.ro (trows x)], .box 0 46 [.ro (trows y)], .box 0 46 [.ro (trows a)], .box 0 46 [.ro (trows b)], .box 0 46 [.ro (trows a)], .box 0 46 [.ro (trows b)], .dead, .dead]) a b s (by omega) (by omega) h0 hM
                rw [updR_full h0 hM] at h25
                rw [mix_eq s hA hB, decide_eq_false hM] at h26
                rw [decide_eq_true hs] at h27
                simp only [List.cons_append, List.nil_append, List.length_cons, List.length_nil, Nat.zero_add, Nat.reduceAdd] at h24
                simp only [RB, pickV, notV, faddrV, iaddrV, extrV, abin, cmpInt, growLists, newAt, rdPtr, wrPtr, AV.cells, asVal, lenOf, argIds, freshIn, scalar1, AV.isData, Nat.reduceAdd, Nat.reduceEqDiff, Int.reduceNeg, ↓reduceIte, Int.reduceLE, Int.reduceBEq, R7B, snap, CW_some, scalar, scalar1, extrV, vrows_nil, bne_self_eq_false, f1, f2, g1, n8, h24, h25, h26, h27, show ((6 : Int) != 0) = true from rfl]
                exact (W_rec2 (β := AV) (ι := Unit) (M := fun _ => [(7, .ptr 2 0 0 0), (8, .ptr 3 0 0 0), (9, .ptr 4 0 0 0), (10, .ptr 5 0 0 0), (11, .bool true), (14, .ptr 6 0 0 0), (43, .ro (srows ns)), (44, .int .i64 (ns.length : Int)), (45, .int .i64 (k : Int)), (123, .int .i64 0), (124, .int .i64 0)])
                  (H := fun _ => ⟨[.box 0 46 [.ro (trows x)], .box 0 46 [.ro (trows y)], .box 0 46 [.ro (trows a)], .box 0 46 [.ro (trows b)], .box 0 46 [.ro (trows a)], .box 0 46 [.ro (trows b)], .box 0 46 [.lis 15 0 0 0], .lst 0 0 53 21 [], .box 0 46 [.ro (trows a)], .box 0 46 [.ro (trows b)], .box 0 46 [.lis 15 0 0 0], .lst 0 0 53 21 [], .lst 0 0 53 21 (trows (mixS a b s)), .box 0 46 [.lis 12 0 0 (mixS a b s).length], .lst 0 0 53 21 [], .lst 0 0 53 21 [], .box 0 46 [.ro (trows (mixS a b s))], .lst 0 0 53 21 []], []⟩) (r := fun _ => some (AV.bool true)) (μ := fun _ => 0) (fun _ => by simp [LPB]) (fun _ _ => by
                    simp only [RB, abin, cmpInt, Nat.reduceAdd, Nat.reduceEqDiff, ↓reduceIte, Int.lt_irrefl, f6]
                    exact ih) () rfl rfl)
            · have h0 := right_src hA hB hs
              have h24 := r24a (bs := [.box 0 46 [.ro (trows x)], .box 0 46 [.ro (trows y)], .box 0 46 [.ro (trows a)], .box 0 46 [.ro (trows b)], .box 0 46 [.ro (trows a)], .box 0 46 [.ro (trows b)], .dead, .dead]) a b s (by omega) (by omega) (by rw [h0]; decide)
              rw [h0] at h24
              rw [updR_no h0 (by decide)] at h25
              rw [decide_eq_false hs] at h27
              simp only [List.cons_append, List.nil_append, List.length_cons, List.length_nil, Nat.zero_add, Nat.reduceAdd] at h24
              simp only [RB, pickV, notV, faddrV, iaddrV, extrV, abin, cmpInt, growLists, newAt, rdPtr, wrPtr, AV.cells, asVal, lenOf, argIds, freshIn, scalar1, AV.isData, Nat.reduceAdd, Nat.reduceEqDiff, Int.reduceNeg, ↓reduceIte, Int.reduceLE, Int.reduceBEq, R7B, snap, CW_some, scalar, scalar1, extrV, vrows_nil, bne_self_eq_false, f1, f2, g1, n8, h24, h25, h26, h27, show ((2 : Int) != 0) = true from rfl]
              exact (W_rec2 (β := AV) (ι := Unit) (M := fun _ => [(7, .ptr 2 0 0 0), (8, .ptr 3 0 0 0), (9, .ptr 4 0 0 0), (10, .ptr 5 0 0 0), (11, .bool true), (14, .ptr 6 0 0 0), (43, .ro (srows ns)), (44, .int .i64 (ns.length : Int)), (45, .int .i64 (k : Int)), (123, .int .i64 0), (124, .int .i64 0)])
                  (H := fun _ => ⟨[.box 0 46 [.ro (trows x)], .box 0 46 [.ro (trows y)], .box 0 46 [.ro (trows a)], .box 0 46 [.ro (trows b)], .box 0 46 [.ro (trows a)], .box 0 46 [.ro (trows b)], .box 0 46 [.lis 12 0 0 0], .lst 0 0 53 21 [], .box 0 46 [.ro (trows a)], .box 0 46 [.ro (trows b)], .box 0 46 [.lis 12 0 0 0], .lst 0 0 53 21 [], .lst 0 0 53 21 [], .box 0 46 [.ro (trows (mixD a b s))], .lst 0 0 53 21 []], []⟩) (r := fun _ => some (AV.bool true)) (μ := fun _ => 0) (fun _ => by simp [LPB]) (fun _ _ => by
                    simp only [RB, abin, cmpInt, Nat.reduceAdd, Nat.reduceEqDiff, ↓reduceIte, Int.lt_irrefl, f6]
                    exact ih) () rfl rfl)
        · obtain rfl : k = ns.length := by omega
          simp only [RB, notV, extrV, abin, cmpInt, growLists, newAt, rdPtr, wrPtr, AV.cells, asVal, argIds, freshIn, scalar1, AV.isData, Nat.reduceAdd, Nat.reduceEqDiff, ↓reduceIte, R7B, snap, CW_some, scalar, scalar1, extrV, show ¬ ((ns.length : Nat) : Int) < (ns.length : Int) by omega, h20, h29, apL_o, apL_len]
          exact (W_rec2 (β := AV) (ι := {k : Nat // k ≤ 5}) (M := fun k => [(7, .ptr 2 0 0 0), (8, .ptr 3 0 0 0), (9, .ptr 4 0 0 0), (10, .ptr 5 0 0 0), (22, .ro (vrows (leadS a b 0))), (23, .int .i64 0), (24, .ptr 6 0 0 0), (25, .int .i64 0), (164, .int .i64 (k.1 : Int))])
              (H := fun _ => ⟨[.box 0 46 [.ro (trows x)], .box 0 46 [.ro (trows y)], .box 0 46 [.ro (trows a)], .box 0 46 [.ro (trows b)], .box 0 46 [.ro (trows a)], .box 0 46 [.ro (trows b)], .box 0 66 (apL a b 5)], []⟩) (r := fun _ => some (AV.bool true)) (μ := fun k => 5 - k.1) (fun k => by simp [LPB, apL_below]) (fun k kh => by
                    obtain ⟨k, hk0⟩ := k
                    simp only at kh hk0 ⊢
                    by_cases hk5 : k < 5
                    · have f1 : (k : Int) < 5 := by omega
                      have f2 : (0 : Int) ≤ (k : Int) := by omega
                      have f6 : IntKind.i64.wrap ((k : Int) + 1) = ((k + 1 : Nat) : Int) := by rw [IntWalk.i64_in _ (by omega)] <;> omega
                      have h28 := e28 a b (k : Int) (by omega) (by omega)
                      rw [upd_eq b (k : Int) hA.pair] at h28
                      have hp := apL_five a b hk5
                      have kh := kh ⟨k + 1, hk5⟩ (by simp only; omega)
                      simp only at kh
                      simp only [RB, iaddrV, abin, cmpInt, rdPtr, asVal, lenOf, argIds, scalar1, AV.isData, Nat.reduceAdd, Nat.reduceEqDiff, ↓reduceIte, DB4, R7B, snap, CW_some, scalar, scalar1, bne_self_eq_false, f1, f2, f6, h28, hp]
                      exact kh
                    · obtain rfl : k = 5 := by omega
                      have h28 := e28 a b 0 (by omega) (by omega)
                      rw [upd_eq b 0 hA.pair] at h28
                      have h13 := e13 (leadS a b 0) (leadS a b 0) (by have := lead_len a b 0; omega)
                      have h19a := e19 a a (by omega)
                      have h19b := e19 b b (by omega)
                      simp only [RB, pickV, abin, cmpInt, rdPtr, asVal, argIds, scalar1, AV.isData, Nat.reduceAdd, Nat.reduceEqDiff, ↓reduceIte, Int.reduceLT, R7B, snap, CW_some, scalar, scalar1, show ¬ ((5 : Nat) : Int) < 5 by omega, h28, h13, h19a, h19b]) ⟨0, Nat.zero_le _⟩ rfl rfl)
    · rw [decide_eq_true hA] at h17a
      rw [decide_eq_false hB] at h17b
      have hN : ¬ (RibP a ∧ RibP b) := fun h => hB h.2
      have h20 := e20 a b (by omega) (by omega)
      rw [show allR a b = ([], 211) by unfold allR; rw [right_bad hN, if_neg (by decide)]] at h20
      have h29 := e29 a b (by omega) (by omega)
      rw [show apR a b = .tup [.agg (apL a b 0), .int .i64 211] by unfold apR; rw [right_bad hN, if_neg (by decide)]] at h29
      have z5 : [AV.int .i64 0, .int .i64 0, .int .i64 0, .int .i64 0, .int .i64 0] = apL a b 0 := rfl
      have hq : eqCells [1, 1, 1, 1, 1] (apL a b 0) (apL a b 0) = some true := rfl
      simp only [f6, z5, RB, pickV, notV, params, growLists, newAt, rdPtr, wrPtr, AV.cells, asVal, lenOf, argIds, scalar1, AV.isData, Nat.reduceAdd, Nat.reduceEqDiff, ↓reduceIte, reduceCtorEq, snap, CW_some, scalar, scalar1, reduceCtorEq, mutIds, srows_len, e9, h15a, h15b, take_agg1f, pairOk, AV.ids, List.contains_nil, Nat.reduceBEq, h17a, h17b]
      exact (W_rec2 (β := AV) (ι := {k : Nat // k ≤ ns.length ∧ k ≤ 8}) (M := fun k => [(7, .ptr 2 0 0 0), (8, .ptr 3 0 0 0), (9, .ptr 4 0 0 0), (10, .ptr 5 0 0 0), (11, .bool false), (43, .ro (srows ns)), (44, .int .i64 (ns.length : Int)), (45, .int .i64 (k.1 : Int))])
          (H := fun _ => ⟨[.box 0 46 [.ro (trows x)], .box 0 46 [.ro (trows y)], .box 0 46 [.ro (trows a)], .box 0 46 [.ro (trows b)], .box 0 46 [.ro (trows a)], .box 0 46 [.ro (trows b)]], []⟩) (r := fun _ => some (AV.bool true)) (μ := fun k => ns.length - k.1) (fun k => by simp [LPB]) (fun k ih => by
            obtain ⟨k, hk0, hk8⟩ := k
            simp only at ih hk0 hk8 ⊢
            by_cases hk : k < ns.length
            · have f1 : (k : Int) < (ns.length : Int) := by omega
              have f2 : (0 : Int) ≤ (k : Int) := by omega
              have f6 : IntKind.i64.wrap ((k : Int) + 1) = ((k + 1 : Nat) : Int) := by rw [IntWalk.i64_in _ (by omega)] <;> omega
              have g1 := srows_get ns hk
              by_cases h8 : k = 8
              · subst h8
                have f1 : (8 : Int) < (ns.length : Int) := by omega
                have f2 : (0 : Int) ≤ 8 := by decide
                simp only [RB, pickV, notV, eqaggV, iaddrV, extrV, abin, cmpInt, growLists, fillCells, newAt, rdPtr, wrPtr, AV.cells, asVal, lenOf, argIds, freshIn, scalar1, AV.isData, Nat.reduceAdd, Nat.reduceEqDiff, ↓reduceIte, reduceCtorEq, R7B, snap, CW_some, scalar, scalar1, reduceCtorEq, extrV, vrows_nil, f1, f2, g1, show Int.toNat 8 = 8 from rfl, show ((8 : Int) == 8) = true from rfl, h20, h29, apL_p, apL_o, apL_len, hq]
              · have n8 : ((k : Int) == 8) = false := by rw [beq_eq_false_iff_ne]; omega
                have ih := ih ⟨k + 1, hk, by omega⟩ (by simp only; omega)
                simp only at ih
                generalize ns[k] = s at *
                have h25 := e25 a b s (by omega) (by omega)
                have h26 := e26 a b s (by omega) (by omega)
                have h0 := right_bad (s := s) (least := 1) hN
                have h24 := r24a (bs := [.box 0 46 [.ro (trows x)], .box 0 46 [.ro (trows y)], .box 0 46 [.ro (trows a)], .box 0 46 [.ro (trows b)], .box 0 46 [.ro (trows a)], .box 0 46 [.ro (trows b)], .dead, .dead]) a b s (by omega) (by omega) (by rw [h0]; decide)
                rw [h0] at h24
                rw [updR_no h0 (by decide)] at h25
                simp only [List.cons_append, List.nil_append, List.length_cons, List.length_nil, Nat.zero_add, Nat.reduceAdd] at h24
                simp only [RB, pickV, notV, faddrV, iaddrV, extrV, abin, cmpInt, growLists, newAt, rdPtr, wrPtr, AV.cells, asVal, lenOf, argIds, freshIn, scalar1, AV.isData, Nat.reduceAdd, Nat.reduceEqDiff, Int.reduceNeg, ↓reduceIte, Int.reduceLE, Int.reduceBEq, R7B, snap, CW_some, scalar, scalar1, extrV, vrows_nil, bne_self_eq_false, f1, f2, g1, n8, h24, h25, h26, show ((211 : Int) != 0) = true from rfl]
                exact (W_rec2 (β := AV) (ι := Unit) (M := fun _ => [(7, .ptr 2 0 0 0), (8, .ptr 3 0 0 0), (9, .ptr 4 0 0 0), (10, .ptr 5 0 0 0), (11, .bool false), (14, .ptr 6 0 0 0), (43, .ro (srows ns)), (44, .int .i64 (ns.length : Int)), (45, .int .i64 (k : Int)), (123, .int .i64 0), (124, .int .i64 0)])
                  (H := fun _ => ⟨[.box 0 46 [.ro (trows x)], .box 0 46 [.ro (trows y)], .box 0 46 [.ro (trows a)], .box 0 46 [.ro (trows b)], .box 0 46 [.ro (trows a)], .box 0 46 [.ro (trows b)], .box 0 46 [.lis 12 0 0 0], .lst 0 0 53 21 [], .box 0 46 [.ro (trows a)], .box 0 46 [.ro (trows b)], .box 0 46 [.lis 12 0 0 0], .lst 0 0 53 21 [], .lst 0 0 53 21 [], .box 0 46 [.ro (trows (mixD a b s))], .lst 0 0 53 21 []], []⟩) (r := fun _ => some (AV.bool true)) (μ := fun _ => 0) (fun _ => by simp [LPB]) (fun _ _ => by
                    simp only [RB, abin, cmpInt, Nat.reduceAdd, Nat.reduceEqDiff, ↓reduceIte, Int.lt_irrefl, f6]
                    exact ih) () rfl rfl)
            · obtain rfl : k = ns.length := by omega
              simp only [RB, pickV, notV, eqaggV, extrV, abin, cmpInt, growLists, fillCells, newAt, rdPtr, wrPtr, AV.cells, asVal, lenOf, argIds, freshIn, scalar1, AV.isData, Nat.reduceAdd, Nat.reduceEqDiff, ↓reduceIte, R7B, snap, CW_some, scalar, scalar1, extrV, vrows_nil, show ¬ ((ns.length : Nat) : Int) < (ns.length : Int) by omega, h20, h29, apL_p, apL_o, apL_len, hq]) ⟨0, Nat.zero_le _, Nat.zero_le _⟩ rfl rfl)
  · rw [decide_eq_false hA] at h17a
    have hN : ¬ (RibP a ∧ RibP b) := fun h => hA h.1
    have h20 := e20 a b (by omega) (by omega)
    rw [show allR a b = ([], 211) by unfold allR; rw [right_bad hN, if_neg (by decide)]] at h20
    have h29 := e29 a b (by omega) (by omega)
    rw [show apR a b = .tup [.agg (apL a b 0), .int .i64 211] by unfold apR; rw [right_bad hN, if_neg (by decide)]] at h29
    have z5 : [AV.int .i64 0, .int .i64 0, .int .i64 0, .int .i64 0, .int .i64 0] = apL a b 0 := rfl
    have hq : eqCells [1, 1, 1, 1, 1] (apL a b 0) (apL a b 0) = some true := rfl
    simp only [f6, z5, RB, pickV, notV, params, growLists, newAt, rdPtr, wrPtr, AV.cells, asVal, lenOf, argIds, scalar1, AV.isData, Nat.reduceAdd, Nat.reduceEqDiff, ↓reduceIte, reduceCtorEq, snap, CW_some, scalar, scalar1, reduceCtorEq, mutIds, srows_len, e9, h15a, h15b, take_agg1f, pairOk, AV.ids, List.contains_nil, Nat.reduceBEq, h17a]
    exact (W_rec2 (β := AV) (ι := {k : Nat // k ≤ ns.length ∧ k ≤ 8}) (M := fun k => [(7, .ptr 2 0 0 0), (8, .ptr 3 0 0 0), (9, .ptr 4 0 0 0), (10, .ptr 5 0 0 0), (11, .bool false), (43, .ro (srows ns)), (44, .int .i64 (ns.length : Int)), (45, .int .i64 (k.1 : Int))])
          (H := fun _ => ⟨[.box 0 46 [.ro (trows x)], .box 0 46 [.ro (trows y)], .box 0 46 [.ro (trows a)], .box 0 46 [.ro (trows b)], .box 0 46 [.ro (trows a)], .box 0 46 [.ro (trows b)]], []⟩) (r := fun _ => some (AV.bool true)) (μ := fun k => ns.length - k.1) (fun k => by simp [LPB]) (fun k ih => by
            obtain ⟨k, hk0, hk8⟩ := k
            simp only at ih hk0 hk8 ⊢
            by_cases hk : k < ns.length
            · have f1 : (k : Int) < (ns.length : Int) := by omega
              have f2 : (0 : Int) ≤ (k : Int) := by omega
              have f6 : IntKind.i64.wrap ((k : Int) + 1) = ((k + 1 : Nat) : Int) := by rw [IntWalk.i64_in _ (by omega)] <;> omega
              have g1 := srows_get ns hk
              by_cases h8 : k = 8
              · subst h8
                have f1 : (8 : Int) < (ns.length : Int) := by omega
                have f2 : (0 : Int) ≤ 8 := by decide
                simp only [RB, pickV, notV, eqaggV, iaddrV, extrV, abin, cmpInt, growLists, fillCells, newAt, rdPtr, wrPtr, AV.cells, asVal, lenOf, argIds, freshIn, scalar1, AV.isData, Nat.reduceAdd, Nat.reduceEqDiff, ↓reduceIte, reduceCtorEq, R7B, snap, CW_some, scalar, scalar1, reduceCtorEq, extrV, vrows_nil, f1, f2, g1, show Int.toNat 8 = 8 from rfl, show ((8 : Int) == 8) = true from rfl, h20, h29, apL_p, apL_o, apL_len, hq]
              · have n8 : ((k : Int) == 8) = false := by rw [beq_eq_false_iff_ne]; omega
                have ih := ih ⟨k + 1, hk, by omega⟩ (by simp only; omega)
                simp only at ih
                generalize ns[k] = s at *
                have h25 := e25 a b s (by omega) (by omega)
                have h26 := e26 a b s (by omega) (by omega)
                have h0 := right_bad (s := s) (least := 1) hN
                have h24 := r24a (bs := [.box 0 46 [.ro (trows x)], .box 0 46 [.ro (trows y)], .box 0 46 [.ro (trows a)], .box 0 46 [.ro (trows b)], .box 0 46 [.ro (trows a)], .box 0 46 [.ro (trows b)], .dead, .dead]) a b s (by omega) (by omega) (by rw [h0]; decide)
                rw [h0] at h24
                rw [updR_no h0 (by decide)] at h25
                simp only [List.cons_append, List.nil_append, List.length_cons, List.length_nil, Nat.zero_add, Nat.reduceAdd] at h24
                simp only [RB, pickV, notV, faddrV, iaddrV, extrV, abin, cmpInt, growLists, newAt, rdPtr, wrPtr, AV.cells, asVal, lenOf, argIds, freshIn, scalar1, AV.isData, Nat.reduceAdd, Nat.reduceEqDiff, Int.reduceNeg, ↓reduceIte, Int.reduceLE, Int.reduceBEq, R7B, snap, CW_some, scalar, scalar1, extrV, vrows_nil, bne_self_eq_false, f1, f2, g1, n8, h24, h25, h26, show ((211 : Int) != 0) = true from rfl]
                exact (W_rec2 (β := AV) (ι := Unit) (M := fun _ => [(7, .ptr 2 0 0 0), (8, .ptr 3 0 0 0), (9, .ptr 4 0 0 0), (10, .ptr 5 0 0 0), (11, .bool false), (14, .ptr 6 0 0 0), (43, .ro (srows ns)), (44, .int .i64 (ns.length : Int)), (45, .int .i64 (k : Int)), (123, .int .i64 0), (124, .int .i64 0)])
                  (H := fun _ => ⟨[.box 0 46 [.ro (trows x)], .box 0 46 [.ro (trows y)], .box 0 46 [.ro (trows a)], .box 0 46 [.ro (trows b)], .box 0 46 [.ro (trows a)], .box 0 46 [.ro (trows b)], .box 0 46 [.lis 12 0 0 0], .lst 0 0 53 21 [], .box 0 46 [.ro (trows a)], .box 0 46 [.ro (trows b)], .box 0 46 [.lis 12 0 0 0], .lst 0 0 53 21 [], .lst 0 0 53 21 [], .box 0 46 [.ro (trows (mixD a b s))], .lst 0 0 53 21 []], []⟩) (r := fun _ => some (AV.bool true)) (μ := fun _ => 0) (fun _ => by simp [LPB]) (fun _ _ => by
                    simp only [RB, abin, cmpInt, Nat.reduceAdd, Nat.reduceEqDiff, ↓reduceIte, Int.lt_irrefl, f6]
                    exact ih) () rfl rfl)
            · obtain rfl : k = ns.length := by omega
              simp only [RB, pickV, notV, eqaggV, extrV, abin, cmpInt, growLists, fillCells, newAt, rdPtr, wrPtr, AV.cells, asVal, lenOf, argIds, freshIn, scalar1, AV.isData, Nat.reduceAdd, Nat.reduceEqDiff, ↓reduceIte, R7B, snap, CW_some, scalar, scalar1, extrV, vrows_nil, show ¬ ((ns.length : Nat) : Int) < (ns.length : Int) by omega, h20, h29, apL_p, apL_o, apL_len, hq]) ⟨0, Nat.zero_le _, Nat.zero_le _⟩ rfl rfl)
end Go.Proofs.YtgajekpigkknnaaDoor.F
