/- Part 7 of the proofs of these statements. No condition. -/
import Derived.Test.YtabadcnpmfafnaaM6
set_option linter.unusedVariables false
set_option linter.unusedSimpArgs false
/- A watch behind a change: beat.turn. No condition. -/
set_option linter.unusedSimpArgs false
namespace Go.Proofs.Ytabadcnpmfafnaa.F
open Go Go.Proofs.Ytabadcnpmfafnaa.A Go.Proofs.Ytabadcnpmfafnaa.D
theorem e45 (l : List Pu) (hl : l.length ≤ 1000000) : LV E 45 [.ro (urows l)] = some (.fresh 40 4 (urows l)) := by
  rw [LV_prim (p := pClone 40 4 32) rfl]
  have h : ((urows l).all fun r => r.length == 4) = true := by
    rw [List.all_eq_true]; intro r hr
    obtain ⟨p, _, rfl⟩ := List.mem_map.1 hr
    simp [uv_len]
  have h2 : (urows l).length * 32 ≤ 140737488355328 := by rw [urows_len]; omega
  simp only [pClone, rowsOf, h, h2, true_and, show 0 < 4 by omega, and_self, if_true, Option.bind_some, expRes_lis, expCell, List.getElem?_cons_zero, Nat.zero_add, Nat.le_refl, List.drop_zero, List.take_length]
theorem w_all (a b c d : AV) : ovr [a, b] 0 [c, d] = some [c, d] := rfl
theorem r32_bad {ys : List Hd} {bs : List Blk} {pend : List (Option AExit)} {g : FuncId} {caps : List AV} (now : Int) (l : List Pu) (hl : l.length ≤ 1000000) (h : ¬ WatOk now l) :
    ∃ ext, LR E ys 32 [.agg [.int .i64 now, .ro (urows l)], .clo g caps] ⟨bs, pend⟩ = some (.tup [.agg [.int .i64 0, .lis (bs.length + 3) 0 0 0], .int .i64 390], ⟨bs ++ (ext ++ [.lst 0 0 40 4 []]), pend⟩) ∧ ext.length = 3 := by
  have h22 := e22 now l (by omega)
  rw [if_neg h] at h22
  refine ⟨[.box 0 24 [.int .i64 now, .ro (urows l)], .box 0 24 [.int .i64 0, .lis (bs.length + 3) 0 0 0], .lst 0 0 40 4 []], ?_, rfl⟩
  rw [LR_R (fn := f32) rfl rfl rfl]
  simp only [f32, RB, pickV, eqbV, notV, negV, convV, faddrV, fldV, idxV, eqaggV, iaddrV, isnilV, nilckV, cloV, extrV, slenV, minV, sidxV, abin, cmpInt, params, growLists, fillCells, newAt, rdPtr, wrPtr, AV.cells, asVal, lenOf, boundOf, rowsOf, argIds, freshIn, scalar1, setAll, AV.isData, AV.isYld, Nat.reduceAdd, Nat.reduceMul, Nat.reduceSub, Nat.reduceEqDiff, Nat.reduceLeDiff, Nat.reduceLT, Int.reduceNeg, ↓reduceIte, reduceCtorEq, Int.reduceEq, Int.reduceLT, Int.reduceLE, Int.reduceBEq, Int.reduceBNe, Int.reduceToNat, IntKind.bits, Int.reduceAdd, Int.reduceSub, Int.reduceMul, Int.reduceTDiv, Int.reduceTMod, R7B, take_add, List.append_assoc, List.length_append, Nat.add_assoc, shrink_lit, ball_app, RG, LPB, uv_len, uv_data, uv_p, uv_0, uv_1, uv_2, uv_3, uv_oo, uv_snap, w_0, w_1, w_2, w_o1, urows_len, w_all, h22]
theorem r32_fin {ys : List Hd} {bs bs2 ext : List Blk} {pend : List (Option AExit)} {g : FuncId} {caps : List AV} {g' : Nat} {R : List (List AV)} (now now' : Int) (l l' : List Pu) (hl : l.length ≤ 1000000) (h : WatOk now l) (hlow : belowAll bs.length bs2 = true) (h2 : bs2.length = bs.length)
    (hc : LR E ys g (.ptr bs.length 0 0 0 :: caps) ⟨bs ++ [.box 0 24 [.int .i64 now, .lis (bs.length + 3) 0 0 l.length], .box 0 24 [.int .i64 0, .lis (bs.length + 2) 0 0 0], .lst 0 0 40 4 [], .lst 0 0 40 4 (urows l)], pend⟩ =
      some (.int .i64 0, ⟨bs2 ++ ([.box 0 24 [.int .i64 now', .lis (bs.length + 3) g' 0 l'.length], .box 0 24 [.int .i64 0, .lis (bs.length + 2) 0 0 0], .lst 0 0 40 4 [], .lst 0 g' 40 4 R] ++ ext), pend⟩)) :
    LR E ys 32 [.agg [.int .i64 now, .ro (urows l)], .clo g caps] ⟨bs, pend⟩ = some (.tup [.agg [.int .i64 now', .lis (bs.length + 3) g' 0 l'.length], .int .i64 0], ⟨bs2 ++ [.box 0 24 [.int .i64 now', .lis (bs.length + 3) g' 0 l'.length], .box 0 24 [.int .i64 now', .lis (bs.length + 3) g' 0 l'.length], .lst 0 0 40 4 [], .lst 0 g' 40 4 R], pend⟩) := by
  have h22 := e22 now l (by omega)
  rw [if_pos h] at h22
  have hsh : shrink false (bs.length + 4) (.int .i64 0) ⟨bs2 ++ ([.box 0 24 [.int .i64 now', .lis (bs.length + 3) g' 0 l'.length], .box 0 24 [.int .i64 0, .lis (bs.length + 2) 0 0 0], .lst 0 0 40 4 [], .lst 0 g' 40 4 R] ++ ext), pend⟩ = some ⟨bs2 ++ [.box 0 24 [.int .i64 now', .lis (bs.length + 3) g' 0 l'.length], .box 0 24 [.int .i64 0, .lis (bs.length + 2) 0 0 0], .lst 0 0 40 4 [], .lst 0 g' 40 4 R], pend⟩ := by
    rw [← List.append_assoc]
    exact shrink_app (by simp [h2]) rfl (by rw [ball_app, belowAll_mono (by omega) hlow]; simp [LPB])
  simp only [List.cons_append, List.nil_append] at hc hsh
  have g0 : ∀ r, (bs2 ++ r)[bs.length]? = r[0]? := fun r => A.get_at h2
  have g1 : ∀ r i, (bs2 ++ r)[bs.length + i]? = r[i]? := fun r i => get_add h2
  have s0 : ∀ r i x, (bs2 ++ r).set (bs.length + i) x = bs2 ++ r.set i x := fun r i x => set_add h2
  rw [LR_R (fn := f32) rfl rfl rfl]
  simp only [f32, RB, pickV, eqbV, notV, negV, convV, faddrV, fldV, idxV, eqaggV, iaddrV, isnilV, nilckV, cloV, extrV, slenV, minV, sidxV, abin, cmpInt, params, growLists, fillCells, newAt, rdPtr, wrPtr, AV.cells, asVal, lenOf, boundOf, rowsOf, argIds, freshIn, scalar1, setAll, AV.isData, AV.isYld, Nat.reduceAdd, Nat.reduceMul, Nat.reduceSub, Nat.reduceEqDiff, Nat.reduceLeDiff, Nat.reduceLT, Int.reduceNeg, ↓reduceIte, reduceCtorEq, Int.reduceEq, Int.reduceLT, Int.reduceLE, Int.reduceBEq, Int.reduceBNe, Int.reduceToNat, IntKind.bits, Int.reduceAdd, Int.reduceSub, Int.reduceMul, Int.reduceTDiv, Int.reduceTMod, R7B, take_add, List.append_assoc, List.length_append, Nat.add_assoc, shrink_lit, ball_app, RG, LPB, uv_len, uv_data, uv_p, uv_0, uv_1, uv_2, uv_3, uv_oo, uv_snap, w_0, w_1, w_2, w_o1, urows_len, w_all, h22, e45 l hl, hc, hsh, g0, g1, s0, bne_self_eq_false, CW_some, scalar, scalar1, lockAll, lockAt, reduceCtorEq, extrV, List.all_cons, List.all_nil]
theorem r32_err {ys : List Hd} {bs ext : List Blk} {pend : List (Option AExit)} {g : FuncId} {caps : List AV} {e : Int} (now : Int) (l : List Pu) (hl : l.length ≤ 1000000) (h : WatOk now l) (he : e ≠ 0) (hlow : belowAll bs.length bs = true)
    (hc : LR E ys g (.ptr bs.length 0 0 0 :: caps) ⟨bs ++ [.box 0 24 [.int .i64 now, .lis (bs.length + 3) 0 0 l.length], .box 0 24 [.int .i64 0, .lis (bs.length + 2) 0 0 0], .lst 0 0 40 4 [], .lst 0 0 40 4 (urows l)], pend⟩ =
      some (.int .i64 e, ⟨bs ++ ([.box 0 24 [.int .i64 now, .lis (bs.length + 3) 0 0 l.length], .box 0 24 [.int .i64 0, .lis (bs.length + 2) 0 0 0], .lst 0 0 40 4 [], .lst 0 0 40 4 (urows l)] ++ ext), pend⟩)) :
    ∃ r, LR E ys 32 [.agg [.int .i64 now, .ro (urows l)], .clo g caps] ⟨bs, pend⟩ = some (.tup [.agg [.int .i64 0, .lis (bs.length + 4) 0 0 0], .int .i64 e], ⟨bs ++ (r ++ [.lst 0 0 40 4 []]), pend⟩) ∧ r.length = 4 := by
  have h22 := e22 now l (by omega)
  rw [if_pos h] at h22
  have hsh : shrink false (bs.length + 4) (.int .i64 e) ⟨bs ++ ([.box 0 24 [.int .i64 now, .lis (bs.length + 3) 0 0 l.length], .box 0 24 [.int .i64 0, .lis (bs.length + 2) 0 0 0], .lst 0 0 40 4 [], .lst 0 0 40 4 (urows l)] ++ ext), pend⟩ = some ⟨bs ++ [.box 0 24 [.int .i64 now, .lis (bs.length + 3) 0 0 l.length], .box 0 24 [.int .i64 0, .lis (bs.length + 2) 0 0 0], .lst 0 0 40 4 [], .lst 0 0 40 4 (urows l)], pend⟩ := by
    rw [← List.append_assoc]
    exact shrink_app (by simp) rfl (by rw [ball_app, belowAll_mono (by omega) hlow]; simp [LPB])
  simp only [List.cons_append, List.nil_append] at hc hsh
  refine ⟨[.box 0 24 [.int .i64 now, .lis (bs.length + 3) 0 0 l.length], .box 0 24 [.int .i64 0, .lis (bs.length + 4) 0 0 0], .lst 0 0 40 4 [], .lst 0 0 40 4 (urows l)], ?_, rfl⟩
  rw [LR_R (fn := f32) rfl rfl rfl]
  simp only [f32, RB, pickV, eqbV, notV, negV, convV, faddrV, fldV, idxV, eqaggV, iaddrV, isnilV, nilckV, cloV, extrV, slenV, minV, sidxV, abin, cmpInt, params, growLists, fillCells, newAt, rdPtr, wrPtr, AV.cells, asVal, lenOf, boundOf, rowsOf, argIds, freshIn, scalar1, setAll, AV.isData, AV.isYld, Nat.reduceAdd, Nat.reduceMul, Nat.reduceSub, Nat.reduceEqDiff, Nat.reduceLeDiff, Nat.reduceLT, Int.reduceNeg, ↓reduceIte, reduceCtorEq, Int.reduceEq, Int.reduceLT, Int.reduceLE, Int.reduceBEq, Int.reduceBNe, Int.reduceToNat, IntKind.bits, Int.reduceAdd, Int.reduceSub, Int.reduceMul, Int.reduceTDiv, Int.reduceTMod, R7B, take_add, List.append_assoc, List.length_append, Nat.add_assoc, shrink_lit, ball_app, RG, LPB, uv_len, uv_data, uv_p, uv_0, uv_1, uv_2, uv_3, uv_oo, uv_snap, w_0, w_1, w_2, w_o1, urows_len, w_all, h22, e45 l hl, hc, hsh, bne_self_eq_false, bne_iff_ne.2 he, CW_some, scalar, scalar1, lockAll, lockAt, reduceCtorEq, extrV, List.all_cons, List.all_nil]
end Go.Proofs.Ytabadcnpmfafnaa.F

/- A peer comes: beat.Add; one goes: beat.Drop. No condition. -/
set_option linter.unusedSimpArgs false
namespace Go.Proofs.Ytabadcnpmfafnaa.D
open Go Go.Proofs.Ytabadcnpmfafnaa.A
/-- Rows with one more, by rising numbers. -/
def insU (l : List Pu) (x : Pu) : List Pu := l.filter (fun p => p.num < x.num) ++ [x] ++ l.filter (fun p => x.num < p.num)
def dropU (l : List Pu) (n : Int) : List Pu := l.filter (fun p => p.num ≠ n)
def hasU (l : List Pu) (n : Int) : Prop := ∃ p ∈ l, p.num = n
instance {l : List Pu} {n : Int} : Decidable (hasU l n) := by unfold hasU; infer_instance
theorem urow_mem {l : List Pu} {i : Nat} (h : i < l.length) : urow l i ∈ l := List.mem_of_getElem? (urow_some l h)
theorem mem_urow {l : List Pu} {r : Pu} (h : r ∈ l) : ∃ i, i < l.length ∧ urow l i = r := by
  obtain ⟨i, hi, e⟩ := List.mem_iff_getElem.1 h
  refine ⟨i, hi, ?_⟩
  have := urow_some l hi
  rw [List.getElem?_eq_getElem hi, e] at this
  exact (Option.some.inj this).symm
theorem hasU_iff {l : List Pu} {n : Int} : hasU l n ↔ ∃ i, i < l.length ∧ (urow l i).num = n := by
  constructor
  · rintro ⟨p, hp, rfl⟩
    obtain ⟨i, hi, rfl⟩ := mem_urow hp
    exact ⟨i, hi, rfl⟩
  · rintro ⟨i, hi, rfl⟩
    exact ⟨_, urow_mem hi, rfl⟩
theorem take_urow {l : List Pu} {i j : Nat} (h : j < (l.take i).length) : (l.take i)[j] = urow l j := by
  have h2 : j < l.length := by rw [List.length_take] at h; omega
  have := urow_some l h2
  rw [List.getElem?_eq_getElem h2] at this
  rw [List.getElem_take]; exact Option.some.inj this
theorem drop_urow {l : List Pu} {i j : Nat} (h : j < (l.drop i).length) : (l.drop i)[j] = urow l (i + j) := by
  have h2 : i + j < l.length := by rw [List.length_drop] at h; omega
  have := urow_some l h2
  rw [List.getElem?_eq_getElem h2] at this
  rw [List.getElem_drop]; exact Option.some.inj this
theorem filter_split {l : List Pu} {i : Nat} {q : Pu → Bool} (h1 : ∀ p ∈ l.take i, q p = true) (h2 : ∀ p ∈ l.drop i, q p = false) : l.filter q = l.take i := by
  conv => lhs; rw [← List.take_append_drop i l]
  rw [List.filter_append, List.filter_eq_self.2 h1, List.filter_eq_nil_iff.2 (fun p hp => by rw [h2 p hp]; decide), List.append_nil]
theorem filter_split' {l : List Pu} {i : Nat} {q : Pu → Bool} (h1 : ∀ p ∈ l.take i, q p = false) (h2 : ∀ p ∈ l.drop i, q p = true) : l.filter q = l.drop i := by
  conv => lhs; rw [← List.take_append_drop i l]
  rw [List.filter_append, List.filter_eq_self.2 h2, List.filter_eq_nil_iff.2 (fun p hp => by rw [h1 p hp]; decide), List.nil_append]
theorem ins_eq {l : List Pu} {x : Pu} {i : Nat} (hi : i ≤ l.length) (hlo : LoU l x.num i) (hhi : HiU l x.num i) (hn : ¬ hasU l x.num) : l.take i ++ [x] ++ l.drop i = insU l x := by
  have t1 : ∀ p ∈ l.take i, p.num < x.num := fun p hp => by
    obtain ⟨j, hj, rfl⟩ := List.mem_iff_getElem.1 hp
    rw [take_urow hj]
    exact hlo j (by rw [List.length_take] at hj; omega)
  have t2 : ∀ p ∈ l.drop i, x.num < p.num := fun p hp => by
    obtain ⟨j, hj, rfl⟩ := List.mem_iff_getElem.1 hp
    rw [drop_urow hj]
    have hlt : i + j < l.length := by rw [List.length_drop] at hj; omega
    have h1 := hhi (i + j) (by omega) hlt
    rcases Int.lt_or_eq_of_le h1 with h | h
    · exact h
    · exact absurd (hasU_iff.2 ⟨i + j, hlt, h.symm⟩) hn
  unfold insU
  rw [filter_split (i := i) (fun p hp => by simpa using t1 p hp) (fun p hp => by have := t2 p hp; simp; omega), filter_split' (i := i) (fun p hp => by have := t1 p hp; simp; omega) (fun p hp => by simpa using t2 p hp)]
theorem drop_eq {l : List Pu} {n : Int} {i : Nat} (hr : RiseU l) (hi : i < l.length) (hn : (urow l i).num = n) : l.take i ++ l.drop (i + 1) = dropU l n := by
  unfold dropU
  have e : l = l.take i ++ (urow l i :: l.drop (i + 1)) := by
    have := urow_some l hi
    rw [List.getElem?_eq_getElem hi] at this
    rw [← Option.some.inj this, ← List.drop_eq_getElem_cons hi, List.take_append_drop]
  conv => rhs; rw [e]
  rw [List.filter_append, List.filter_cons_of_neg (by simp [hn])]
  rw [List.filter_eq_self.2, List.filter_eq_self.2]
  · intro p hp
    obtain ⟨j, hj, rfl⟩ := List.mem_iff_getElem.1 hp
    rw [drop_urow hj]
    have := hr i (i + 1 + j) (by omega) (by rw [List.length_drop] at hj; omega)
    simp; omega
  · intro p hp
    obtain ⟨j, hj, rfl⟩ := List.mem_iff_getElem.1 hp
    rw [take_urow hj]
    have := hr j i (by rw [List.length_take] at hj; omega) hi
    simp; omega
theorem insU_len {l : List Pu} {x : Pu} {i : Nat} (hi : i ≤ l.length) (h : l.take i ++ [x] ++ l.drop i = insU l x) : (insU l x).length = l.length + 1 := by
  rw [← h]; simp only [List.length_append, List.length_take, List.length_drop, List.length_singleton]; omega
theorem dropU_len {l : List Pu} {n : Int} {i : Nat} (hi : i < l.length) (h : l.take i ++ l.drop (i + 1) = dropU l n) : (dropU l n).length = l.length - 1 := by
  rw [← h]; simp only [List.length_append, List.length_take, List.length_drop]; omega
/-- What adding comes to. -/
def addS (now : Int) (l : List Pu) (n : Int) : (Int × List Pu) × Int := if WatOk now l then if n < 1 ∨ 8 < n then ((0, []), 2) else if hasU l n then ((0, []), 5) else ((now, insU l ⟨n, now, 0, 0⟩), 0) else ((0, []), 390)
def dropS (now : Int) (l : List Pu) (n : Int) : (Int × List Pu) × Int := if WatOk now l then if hasU l n then ((now, dropU l n), 0) else ((0, []), 4) else ((0, []), 390)
def tupW (r : (Int × List Pu) × Int) : AV := .tup [.agg [.int .i64 r.1.1, .ro (urows r.1.2)], .int .i64 r.2]
end Go.Proofs.Ytabadcnpmfafnaa.D
namespace Go.Proofs.Ytabadcnpmfafnaa.F
open Go Go.Proofs.Ytabadcnpmfafnaa.A Go.Proofs.Ytabadcnpmfafnaa.D
theorem expIn_wat (fr : Bool) (bs : List Blk) (t : Int) (a b c d : Nat) : expIn fr bs (.agg [.int .i64 t, .lis a b c d]) = (expCell false bs (.lis a b c d)).map fun x => .agg [.int .i64 t, x] := by
  show ([AV.int .i64 t, AV.lis a b c d].mapM (expCell false bs)).map AV.agg = _
  rw [List.mapM_cons, List.mapM_cons, List.mapM_nil, show expCell false bs (.int .i64 t) = some (.int .i64 t) from rfl]
  cases expCell false bs (.lis a b c d) <;> rfl
theorem urows_nil : urows [] = [] := rfl
theorem list4 {r : List Blk} (h : r.length = 4) : ∃ a b c d, r = [a, b, c, d] := by
  match r, h with
  | [a, b, c, d], _ => exact ⟨a, b, c, d, rfl⟩
theorem list3 {r : List Blk} (h : r.length = 3) : ∃ a b c, r = [a, b, c] := by
  match r, h with
  | [a, b, c], _ => exact ⟨a, b, c, rfl⟩
theorem e14 (now : Int) (l : List Pu) (n : Int) (hl : l.length ≤ 1000000) : LV E 14 [.agg [.int .i64 now, .ro (urows l)], .int .i64 n] = some (tupW (addS now l n)) := by
  rw [LV_R (fn := f14) rfl rfl rfl]
  unfold addS tupW
  by_cases h1 : WatOk now l
  · have hr := h1.2.rise
    by_cases h2 : n < 1 ∨ 8 < n
    · have hc := r36_arg (ys := []) (pend := []) (bs := [.box 0 24 [.int .i64 now, .ro (urows l)], .dead, .box 0 3 [.int .i64 n], .box 0 24 [.int .i64 0, .lis 4 0 0 0], .lst 0 0 40 4 []] ++ [.box 0 24 [.int .i64 now, .lis 8 0 0 l.length], .box 0 24 [.int .i64 0, .lis 7 0 0 0], .lst 0 0 40 4 [], .lst 0 0 40 4 (urows l)]) (a := 5) (b := 2) (L := 8) (g := 0) (lk := 0) (eb := 3) now n l hl hr rfl rfl rfl h2
      obtain ⟨r, h32, hrl⟩ := r32_err (ys := []) (pend := []) (bs := [.box 0 24 [.int .i64 now, .ro (urows l)], .dead, .box 0 3 [.int .i64 n], .box 0 24 [.int .i64 0, .lis 4 0 0 0], .lst 0 0 40 4 []]) (ext := []) (g := 36) (caps := [.ptr 2 0 0 0]) (e := 2) now l hl h1 (by decide) (by simp [LPB]) (by rw [List.append_nil]; exact hc)
      obtain ⟨a, b, c, d, rfl⟩ := list4 hrl
      simp only [List.cons_append, List.nil_append, List.length_cons, List.length_nil, Nat.zero_add, Nat.reduceAdd] at h32
      simp only [f14, RB, pickV, eqbV, notV, negV, convV, faddrV, fldV, idxV, eqaggV, iaddrV, isnilV, nilckV, cloV, extrV, slenV, minV, sidxV, abin, cmpInt, params, growLists, fillCells, newAt, rdPtr, wrPtr, AV.cells, asVal, lenOf, boundOf, rowsOf, argIds, freshIn, scalar1, setAll, AV.isData, AV.isYld, Nat.reduceAdd, Nat.reduceMul, Nat.reduceSub, Nat.reduceEqDiff, Nat.reduceLeDiff, Nat.reduceLT, Int.reduceNeg, ↓reduceIte, reduceCtorEq, Int.reduceEq, Int.reduceLT, Int.reduceLE, Int.reduceBEq, Int.reduceBNe, Int.reduceToNat, IntKind.bits, Int.reduceAdd, Int.reduceSub, Int.reduceMul, Int.reduceTDiv, Int.reduceTMod, R7B, take_add, List.append_assoc, List.length_append, Nat.add_assoc, shrink_lit, ball_app, RG, LPB, uv_len, uv_data, uv_p, uv_0, uv_1, uv_2, uv_3, uv_oo, uv_snap, w_0, w_1, w_2, w_o1, w_all, urows_len, h32, h1, h2, expCell, List.nodup_cons, List.nodup_nil, List.not_mem_nil, not_false_eq_true, not_true_eq_false, and_true, and_false, if_false, List.mem_cons, mutIds, expIn_wat, urows_nil]
    · by_cases h3 : hasU l n
      · have hc := r36_there (ys := []) (pend := []) (bs := [.box 0 24 [.int .i64 now, .ro (urows l)], .dead, .box 0 3 [.int .i64 n], .box 0 24 [.int .i64 0, .lis 4 0 0 0], .lst 0 0 40 4 []] ++ [.box 0 24 [.int .i64 now, .lis 8 0 0 l.length], .box 0 24 [.int .i64 0, .lis 7 0 0 0], .lst 0 0 40 4 [], .lst 0 0 40 4 (urows l)]) (a := 5) (b := 2) (L := 8) (g := 0) (lk := 0) (eb := 3) now n l hl hr rfl rfl rfl (by omega) (hasU_iff.1 h3)
        obtain ⟨r, h32, hrl⟩ := r32_err (ys := []) (pend := []) (bs := [.box 0 24 [.int .i64 now, .ro (urows l)], .dead, .box 0 3 [.int .i64 n], .box 0 24 [.int .i64 0, .lis 4 0 0 0], .lst 0 0 40 4 []]) (ext := []) (g := 36) (caps := [.ptr 2 0 0 0]) (e := 5) now l hl h1 (by decide) (by simp [LPB]) (by rw [List.append_nil]; exact hc)
        obtain ⟨a, b, c, d, rfl⟩ := list4 hrl
        simp only [List.cons_append, List.nil_append, List.length_cons, List.length_nil, Nat.zero_add, Nat.reduceAdd] at h32
        simp only [f14, RB, pickV, eqbV, notV, negV, convV, faddrV, fldV, idxV, eqaggV, iaddrV, isnilV, nilckV, cloV, extrV, slenV, minV, sidxV, abin, cmpInt, params, growLists, fillCells, newAt, rdPtr, wrPtr, AV.cells, asVal, lenOf, boundOf, rowsOf, argIds, freshIn, scalar1, setAll, AV.isData, AV.isYld, Nat.reduceAdd, Nat.reduceMul, Nat.reduceSub, Nat.reduceEqDiff, Nat.reduceLeDiff, Nat.reduceLT, Int.reduceNeg, ↓reduceIte, reduceCtorEq, Int.reduceEq, Int.reduceLT, Int.reduceLE, Int.reduceBEq, Int.reduceBNe, Int.reduceToNat, IntKind.bits, Int.reduceAdd, Int.reduceSub, Int.reduceMul, Int.reduceTDiv, Int.reduceTMod, R7B, take_add, List.append_assoc, List.length_append, Nat.add_assoc, shrink_lit, ball_app, RG, LPB, uv_len, uv_data, uv_p, uv_0, uv_1, uv_2, uv_3, uv_oo, uv_snap, w_0, w_1, w_2, w_o1, w_all, urows_len, h32, h1, h2, h3, expCell, List.nodup_cons, List.nodup_nil, List.not_mem_nil, not_false_eq_true, not_true_eq_false, and_true, and_false, if_false, List.mem_cons, mutIds, expIn_wat, urows_nil]
      · obtain ⟨i, ext, k1, k2, k3, hc⟩ := r36_ins (ys := []) (pend := []) (bs := [.box 0 24 [.int .i64 now, .ro (urows l)], .dead, .box 0 3 [.int .i64 n], .box 0 24 [.int .i64 0, .lis 4 0 0 0], .lst 0 0 40 4 []] ++ [.box 0 24 [.int .i64 now, .lis 8 0 0 l.length], .box 0 24 [.int .i64 0, .lis 7 0 0 0], .lst 0 0 40 4 [], .lst 0 0 40 4 (urows l)]) (a := 5) (b := 2) (L := 8) (g := 0) (lk := 0) (eb := 3) now n l hl hr rfl rfl rfl (by decide) (by omega) (fun h => h3 (hasU_iff.2 h))
        have hi := ins_eq (x := ⟨n, now, 0, 0⟩) k1 k2 k3 h3
        have hil := insU_len k1 hi
        rw [hi, ← hil] at hc
        have h32 := r32_fin (ys := []) (pend := []) (bs := [.box 0 24 [.int .i64 now, .ro (urows l)], .dead, .box 0 3 [.int .i64 n], .box 0 24 [.int .i64 0, .lis 4 0 0 0], .lst 0 0 40 4 []]) (bs2 := [.box 0 24 [.int .i64 now, .ro (urows l)], .dead, .box 0 3 [.int .i64 n], .box 0 24 [.int .i64 0, .lis 4 0 0 0], .lst 0 0 40 4 []]) (ext := ext) (g := 36) (caps := [.ptr 2 0 0 0]) (g' := 1) now now l (insU l ⟨n, now, 0, 0⟩) hl h1 (by simp [LPB]) rfl hc
        simp only [List.cons_append, List.nil_append, List.length_cons, List.length_nil, Nat.zero_add, Nat.reduceAdd] at h32
        simp only [f14, RB, pickV, eqbV, notV, negV, convV, faddrV, fldV, idxV, eqaggV, iaddrV, isnilV, nilckV, cloV, extrV, slenV, minV, sidxV, abin, cmpInt, params, growLists, fillCells, newAt, rdPtr, wrPtr, AV.cells, asVal, lenOf, boundOf, rowsOf, argIds, freshIn, scalar1, setAll, AV.isData, AV.isYld, Nat.reduceAdd, Nat.reduceMul, Nat.reduceSub, Nat.reduceEqDiff, Nat.reduceLeDiff, Nat.reduceLT, Int.reduceNeg, ↓reduceIte, reduceCtorEq, Int.reduceEq, Int.reduceLT, Int.reduceLE, Int.reduceBEq, Int.reduceBNe, Int.reduceToNat, IntKind.bits, Int.reduceAdd, Int.reduceSub, Int.reduceMul, Int.reduceTDiv, Int.reduceTMod, R7B, take_add, List.append_assoc, List.length_append, Nat.add_assoc, shrink_lit, ball_app, RG, LPB, uv_len, uv_data, uv_p, uv_0, uv_1, uv_2, uv_3, uv_oo, uv_snap, w_0, w_1, w_2, w_o1, w_all, urows_len, h32, h1, h2, h3, expCell, List.nodup_cons, List.nodup_nil, List.not_mem_nil, not_false_eq_true, not_true_eq_false, and_true, and_false, if_false, List.mem_cons, mutIds, expIn_wat, urows_nil, List.take_length]
        rw [← urows_len, List.take_length]
  · obtain ⟨r, h32, hrl⟩ := r32_bad (ys := []) (pend := []) (bs := [.box 0 24 [.int .i64 now, .ro (urows l)], .dead, .box 0 3 [.int .i64 n], .box 0 24 [.int .i64 0, .lis 4 0 0 0], .lst 0 0 40 4 []]) (g := 36) (caps := [.ptr 2 0 0 0]) now l hl h1
    obtain ⟨a, b, c, rfl⟩ := list3 hrl
    simp only [List.cons_append, List.nil_append, List.length_cons, List.length_nil, Nat.zero_add, Nat.reduceAdd] at h32
    simp only [f14, RB, pickV, eqbV, notV, negV, convV, faddrV, fldV, idxV, eqaggV, iaddrV, isnilV, nilckV, cloV, extrV, slenV, minV, sidxV, abin, cmpInt, params, growLists, fillCells, newAt, rdPtr, wrPtr, AV.cells, asVal, lenOf, boundOf, rowsOf, argIds, freshIn, scalar1, setAll, AV.isData, AV.isYld, Nat.reduceAdd, Nat.reduceMul, Nat.reduceSub, Nat.reduceEqDiff, Nat.reduceLeDiff, Nat.reduceLT, Int.reduceNeg, ↓reduceIte, reduceCtorEq, Int.reduceEq, Int.reduceLT, Int.reduceLE, Int.reduceBEq, Int.reduceBNe, Int.reduceToNat, IntKind.bits, Int.reduceAdd, Int.reduceSub, Int.reduceMul, Int.reduceTDiv, Int.reduceTMod, R7B, take_add, List.append_assoc, List.length_append, Nat.add_assoc, shrink_lit, ball_app, RG, LPB, uv_len, uv_data, uv_p, uv_0, uv_1, uv_2, uv_3, uv_oo, uv_snap, w_0, w_1, w_2, w_o1, w_all, urows_len, h32, h1, expCell, List.nodup_cons, List.nodup_nil, List.not_mem_nil, not_false_eq_true, not_true_eq_false, and_true, and_false, if_false, List.mem_cons, mutIds, expIn_wat, urows_nil]
theorem e15 (now : Int) (l : List Pu) (n : Int) (hl : l.length ≤ 1000000) : LV E 15 [.agg [.int .i64 now, .ro (urows l)], .int .i64 n] = some (tupW (dropS now l n)) := by
  rw [LV_R (fn := f15) rfl rfl rfl]
  unfold dropS tupW
  by_cases h1 : WatOk now l
  · have hr := h1.2.rise
    by_cases h3 : hasU l n
    · obtain ⟨i, z, ext, k1, k2, hc⟩ := r39_drop (ys := []) (pend := []) (bs := [.box 0 24 [.int .i64 now, .ro (urows l)], .box 0 3 [.int .i64 n], .box 0 24 [.int .i64 0, .lis 3 0 0 0], .lst 0 0 40 4 []] ++ [.box 0 24 [.int .i64 now, .lis 7 0 0 l.length], .box 0 24 [.int .i64 0, .lis 6 0 0 0], .lst 0 0 40 4 [], .lst 0 0 40 4 (urows l)]) (a := 4) (b := 1) (L := 7) (g := 0) (lk := 0) (eb := 3) now n l hl hr rfl rfl rfl (by decide) (by simp [LPB]) (hasU_iff.1 h3)
      have hi := drop_eq hr k1 k2
      have hil := dropU_len k1 hi
      rw [hi, ← hil] at hc
      have h32 := r32_fin (ys := []) (pend := []) (bs := [.box 0 24 [.int .i64 now, .ro (urows l)], .box 0 3 [.int .i64 n], .box 0 24 [.int .i64 0, .lis 3 0 0 0], .lst 0 0 40 4 []]) (bs2 := [.box 0 24 [.int .i64 now, .ro (urows l)], .box 0 3 [.int .i64 n], .box 0 24 [.int .i64 0, .lis 3 0 0 0], .lst 0 0 40 4 []]) (ext := ext) (g := 39) (caps := [.ptr 1 0 0 0]) (g' := 0) (R := urows (dropU l n) ++ z) now now l (dropU l n) hl h1 (by simp [LPB]) rfl hc
      simp only [List.cons_append, List.nil_append, List.length_cons, List.length_nil, Nat.zero_add, Nat.reduceAdd] at h32
      have hz : (dropU l n).length ≤ (urows (dropU l n) ++ z).length := by rw [List.length_append, urows_len]; omega
      have ht : (urows (dropU l n) ++ z).take (dropU l n).length = urows (dropU l n) := by rw [← urows_len, List.take_left]
      simp only [f15, RB, pickV, eqbV, notV, negV, convV, faddrV, fldV, idxV, eqaggV, iaddrV, isnilV, nilckV, cloV, extrV, slenV, minV, sidxV, abin, cmpInt, params, growLists, fillCells, newAt, rdPtr, wrPtr, AV.cells, asVal, lenOf, boundOf, rowsOf, argIds, freshIn, scalar1, setAll, AV.isData, AV.isYld, Nat.reduceAdd, Nat.reduceMul, Nat.reduceSub, Nat.reduceEqDiff, Nat.reduceLeDiff, Nat.reduceLT, Int.reduceNeg, ↓reduceIte, reduceCtorEq, Int.reduceEq, Int.reduceLT, Int.reduceLE, Int.reduceBEq, Int.reduceBNe, Int.reduceToNat, IntKind.bits, Int.reduceAdd, Int.reduceSub, Int.reduceMul, Int.reduceTDiv, Int.reduceTMod, R7B, take_add, List.append_assoc, List.length_append, Nat.add_assoc, shrink_lit, ball_app, RG, LPB, uv_len, uv_data, uv_p, uv_0, uv_1, uv_2, uv_3, uv_oo, uv_snap, w_0, w_1, w_2, w_o1, w_all, urows_len, h32, h1, h3, expCell, List.nodup_cons, List.nodup_nil, List.not_mem_nil, not_false_eq_true, not_true_eq_false, and_true, and_false, if_false, List.mem_cons, mutIds, expIn_wat, urows_nil, hz, ht, List.length_append, Nat.le_add_right]
    · have hc := r39_none (ys := []) (pend := []) (bs := [.box 0 24 [.int .i64 now, .ro (urows l)], .box 0 3 [.int .i64 n], .box 0 24 [.int .i64 0, .lis 3 0 0 0], .lst 0 0 40 4 []] ++ [.box 0 24 [.int .i64 now, .lis 7 0 0 l.length], .box 0 24 [.int .i64 0, .lis 6 0 0 0], .lst 0 0 40 4 [], .lst 0 0 40 4 (urows l)]) (a := 4) (b := 1) (L := 7) (g := 0) (lk := 0) (eb := 3) now n l hl hr rfl rfl rfl (fun h => h3 (hasU_iff.2 h))
      obtain ⟨r, h32, hrl⟩ := r32_err (ys := []) (pend := []) (bs := [.box 0 24 [.int .i64 now, .ro (urows l)], .box 0 3 [.int .i64 n], .box 0 24 [.int .i64 0, .lis 3 0 0 0], .lst 0 0 40 4 []]) (ext := []) (g := 39) (caps := [.ptr 1 0 0 0]) (e := 4) now l hl h1 (by decide) (by simp [LPB]) (by rw [List.append_nil]; exact hc)
      obtain ⟨a, b, c, d, rfl⟩ := list4 hrl
      simp only [List.cons_append, List.nil_append, List.length_cons, List.length_nil, Nat.zero_add, Nat.reduceAdd] at h32
      simp only [f15, RB, pickV, eqbV, notV, negV, convV, faddrV, fldV, idxV, eqaggV, iaddrV, isnilV, nilckV, cloV, extrV, slenV, minV, sidxV, abin, cmpInt, params, growLists, fillCells, newAt, rdPtr, wrPtr, AV.cells, asVal, lenOf, boundOf, rowsOf, argIds, freshIn, scalar1, setAll, AV.isData, AV.isYld, Nat.reduceAdd, Nat.reduceMul, Nat.reduceSub, Nat.reduceEqDiff, Nat.reduceLeDiff, Nat.reduceLT, Int.reduceNeg, ↓reduceIte, reduceCtorEq, Int.reduceEq, Int.reduceLT, Int.reduceLE, Int.reduceBEq, Int.reduceBNe, Int.reduceToNat, IntKind.bits, Int.reduceAdd, Int.reduceSub, Int.reduceMul, Int.reduceTDiv, Int.reduceTMod, R7B, take_add, List.append_assoc, List.length_append, Nat.add_assoc, shrink_lit, ball_app, RG, LPB, uv_len, uv_data, uv_p, uv_0, uv_1, uv_2, uv_3, uv_oo, uv_snap, w_0, w_1, w_2, w_o1, w_all, urows_len, h32, h1, h3, expCell, List.nodup_cons, List.nodup_nil, List.not_mem_nil, not_false_eq_true, not_true_eq_false, and_true, and_false, if_false, List.mem_cons, mutIds, expIn_wat, urows_nil]
  · obtain ⟨r, h32, hrl⟩ := r32_bad (ys := []) (pend := []) (bs := [.box 0 24 [.int .i64 now, .ro (urows l)], .box 0 3 [.int .i64 n], .box 0 24 [.int .i64 0, .lis 3 0 0 0], .lst 0 0 40 4 []]) (g := 39) (caps := [.ptr 1 0 0 0]) now l hl h1
    obtain ⟨a, b, c, rfl⟩ := list3 hrl
    simp only [List.cons_append, List.nil_append, List.length_cons, List.length_nil, Nat.zero_add, Nat.reduceAdd] at h32
    simp only [f15, RB, pickV, eqbV, notV, negV, convV, faddrV, fldV, idxV, eqaggV, iaddrV, isnilV, nilckV, cloV, extrV, slenV, minV, sidxV, abin, cmpInt, params, growLists, fillCells, newAt, rdPtr, wrPtr, AV.cells, asVal, lenOf, boundOf, rowsOf, argIds, freshIn, scalar1, setAll, AV.isData, AV.isYld, Nat.reduceAdd, Nat.reduceMul, Nat.reduceSub, Nat.reduceEqDiff, Nat.reduceLeDiff, Nat.reduceLT, Int.reduceNeg, ↓reduceIte, reduceCtorEq, Int.reduceEq, Int.reduceLT, Int.reduceLE, Int.reduceBEq, Int.reduceBNe, Int.reduceToNat, IntKind.bits, Int.reduceAdd, Int.reduceSub, Int.reduceMul, Int.reduceTDiv, Int.reduceTMod, R7B, take_add, List.append_assoc, List.length_append, Nat.add_assoc, shrink_lit, ball_app, RG, LPB, uv_len, uv_data, uv_p, uv_0, uv_1, uv_2, uv_3, uv_oo, uv_snap, w_0, w_1, w_2, w_o1, w_all, urows_len, h32, h1, expCell, List.nodup_cons, List.nodup_nil, List.not_mem_nil, not_false_eq_true, not_true_eq_false, and_true, and_false, if_false, List.mem_cons, mutIds, expIn_wat, urows_nil]
end Go.Proofs.Ytabadcnpmfafnaa.F

/- A peer is heard: the closure of beat.Hear. No condition. -/
set_option linter.unusedSimpArgs false
namespace Go.Proofs.Ytabadcnpmfafnaa.D
open Go Go.Proofs.Ytabadcnpmfafnaa.A Go.Proofs.Ytabadcnpmfafnaa.F
def goodU (now : Int) (p : Pu) : Int := if now - p.heard ≤ 4 then (if 3 < p.good + 1 then 3 else p.good + 1) else 1
def heardU (now : Int) (p : Pu) : Pu := ⟨p.num, now, goodU now p, if goodU now p = 3 ∨ p.st = 2 then 1 else p.st⟩
def cameU (now : Int) (p : Pu) : Bool := decide ((heardU now p).st = 1 ∧ p.st ≠ 1)
theorem uv_og (q : Pu) (x : Int) : ovr (uv q) 2 [.int .i64 x] = some (uv ⟨q.num, q.heard, x, q.st⟩) := rfl
theorem uv_os (q : Pu) (x : Int) : ovr (uv q) 3 [.int .i64 x] = some (uv ⟨q.num, q.heard, q.good, x⟩) := rfl
theorem urows_set (l : List Pu) (i : Nat) (x : Pu) : (urows l).set i (uv x) = urows (l.set i x) := by unfold urows; rw [List.map_set]
theorem set_urow (l : List Pu) {i : Nat} (x : Pu) (h : i < l.length) : (urows (l.set i x))[i]? = some (uv x) := by
  unfold urows; rw [List.getElem?_map, List.getElem?_set_self h]; rfl
end Go.Proofs.Ytabadcnpmfafnaa.D
namespace Go.Proofs.Ytabadcnpmfafnaa.F
open Go Go.Proofs.Ytabadcnpmfafnaa.A Go.Proofs.Ytabadcnpmfafnaa.D
theorem r41_none {ys : List Hd} {pend : List (Option AExit)} {b0 b2 b3 b8 b9 : Blk} (now n : Int) (l : List Pu) (hl : l.length ≤ 1000000) (hr : RiseU l) (h : ¬ hasU l n) :
    LR E ys 41 [.ptr 7 0 0 0, .ptr 1 0 0 0, .ptr 4 0 0 0] ⟨[b0, .box 0 3 [.int .i64 n], b2, b3, .box 0 4 [.bool false], .dead, .dead, .box 0 24 [.int .i64 now, .lis 10 0 0 l.length], b8, b9, .lst 0 0 40 4 (urows l)], pend⟩ = some (.int .i64 4, ⟨[b0, .box 0 3 [.int .i64 n], b2, b3, .box 0 4 [.bool false], .dead, .dead, .box 0 24 [.int .i64 now, .lis 10 0 0 l.length], b8, b9, .lst 0 0 40 4 (urows l)], pend⟩) := by
  have hT : (urows l).take l.length = urows l := List.take_of_length_le (by rw [urows_len]; exact Nat.le_refl _)
  obtain ⟨i, k1, k2, k3, h37⟩ := e37 now l n hl hr
  have c3 : decide (i < l.length ∧ (urow l i).num = n) = false := decide_eq_false fun h3 => h (hasU_iff.2 ⟨i, h3⟩)
  rw [LR_R (fn := f41) rfl rfl rfl]
  simp only [f41, RB, pickV, eqbV, notV, negV, convV, faddrV, fldV, idxV, eqaggV, iaddrV, isnilV, nilckV, cloV, extrV, slenV, minV, sidxV, abin, cmpInt, params, growLists, fillCells, newAt, rdPtr, wrPtr, AV.cells, asVal, lenOf, boundOf, rowsOf, argIds, freshIn, scalar1, setAll, AV.isData, AV.isYld, Nat.reduceAdd, Nat.reduceMul, Nat.reduceSub, Nat.reduceEqDiff, Nat.reduceLeDiff, Nat.reduceLT, Int.reduceNeg, ↓reduceIte, reduceCtorEq, Int.reduceEq, Int.reduceLT, Int.reduceLE, Int.reduceBEq, Int.reduceBNe, Int.reduceToNat, IntKind.bits, Int.reduceAdd, Int.reduceSub, Int.reduceMul, Int.reduceTDiv, Int.reduceTMod, R7B, take_add, List.append_assoc, List.length_append, Nat.add_assoc, shrink_lit, ball_app, RG, LPB, uv_len, uv_data, uv_p, uv_0, uv_1, uv_2, uv_3, uv_oo, uv_snap, w_0, w_1, w_2, w_o1, w_all, uv_og, uv_oh, uv_os, urows_len, snap_wat, hT, h37, c3, List.append_nil, CW_some, scalar, scalar1, lockAll, lockAt, reduceCtorEq, extrV, List.all_cons, List.all_nil, pairOk, AV.ids, List.contains_cons, List.contains_nil, Nat.reduceBEq, List.all_cons, List.all_nil, Bool.or_self, Bool.not_false, Bool.and_self, Bool.or_false, mutIds]
theorem r41_hear {ys : List Hd} {pend : List (Option AExit)} {b0 b2 b3 b8 b9 : Blk} (now n : Int) (l : List Pu) (hl : l.length ≤ 1000000) (hw : WatOk now l) (h : hasU l n) :
    ∃ i, i < l.length ∧ (urow l i).num = n ∧ LR E ys 41 [.ptr 7 0 0 0, .ptr 1 0 0 0, .ptr 4 0 0 0] ⟨[b0, .box 0 3 [.int .i64 n], b2, b3, .box 0 4 [.bool false], .dead, .dead, .box 0 24 [.int .i64 now, .lis 10 0 0 l.length], b8, b9, .lst 0 0 40 4 (urows l)], pend⟩ = some (.int .i64 0, ⟨[b0, .box 0 3 [.int .i64 n], b2, b3, .box 0 4 [.bool (cameU now (urow l i))], .dead, .dead, .box 0 24 [.int .i64 now, .lis 10 0 0 l.length], b8, b9, .lst 0 0 40 4 (urows (l.set i (heardU now (urow l i))))], pend⟩) := by
  have hr := hw.2.rise
  have hT : (urows l).take l.length = urows l := List.take_of_length_le (by rw [urows_len]; exact Nat.le_refl _)
  obtain ⟨i, k1, k2, k3, h37⟩ := e37 now l n hl hr
  have c3 : i < l.length ∧ (urow l i).num = n := by
    obtain ⟨j, j1, j2⟩ := hasU_iff.1 h
    have h1 : ¬ j < i := fun h => by have := k2 j h; omega
    rcases Nat.lt_or_eq_of_le (Nat.not_lt.1 h1) with h2 | rfl
    · have := hr i j h2 j1
      have := k3 i (Nat.le_refl _) (by omega)
      omega
    · exact ⟨j1, j2⟩
  refine ⟨i, c3.1, c3.2, ?_⟩
  obtain ⟨hp, _⟩ := hw.2 i (Nat.zero_le _) c3.1
  obtain ⟨p1, p2, p3, p4, p5, p6, _⟩ := hp
  have hn := hw.1
  have w1 : IntKind.i64.wrap (now - (urow l i).heard) = now - (urow l i).heard := by rw [IntWalk.i64_in _ (by omega)]
  have w2 : IntKind.i64.wrap ((urow l i).good + 1) = (urow l i).good + 1 := by rw [IntWalk.i64_in _ (by omega)]
  have g1 := urows_get l c3.1
  have s1 := fun x => set_urow l x c3.1
  have h34 := e34 now (urow l i)
  rw [w1] at h34
  have f2 : (0 : Int) ≤ (i : Int) := by omega
  generalize hq : urow l i = q at *
  have eb : (q.st != 1) = decide (¬ q.st = 1) := by rw [Bool.eq_iff_iff, bne_iff_ne, decide_eq_true_eq]
  have m1 : aminmax false .i64 (q.good + 1) [.int .i64 3] = some (.int .i64 (if 3 < q.good + 1 then 3 else q.good + 1)) := by
    simp only [aminmax, Bool.false_eq_true, if_false]
  have eg : (now - q.heard ≤ 4 → goodU now q = if 3 < q.good + 1 then 3 else q.good + 1) ∧ (¬ now - q.heard ≤ 4 → goodU now q = 1) := ⟨fun h => by unfold goodU; rw [if_pos h], fun h => by unfold goodU; rw [if_neg h]⟩
  rw [LR_R (fn := f41) rfl rfl rfl]
  unfold cameU heardU
  by_cases d1 : now - q.heard ≤ 4
  · have s0 : spanI (now - q.heard) = 0 := by unfold spanI; rw [if_pos d1]
    rw [← eg.1 d1] at m1
    clear eg
    generalize goodU now q = G at *
    by_cases e3 : G = 3
    · subst e3
      simp only [f41, RB, pickV, eqbV, notV, negV, convV, faddrV, fldV, idxV, eqaggV, iaddrV, isnilV, nilckV, cloV, extrV, slenV, minV, sidxV, abin, cmpInt, params, growLists, fillCells, newAt, rdPtr, wrPtr, AV.cells, asVal, lenOf, boundOf, rowsOf, argIds, freshIn, scalar1, setAll, AV.isData, AV.isYld, Nat.reduceAdd, Nat.reduceMul, Nat.reduceSub, Nat.reduceEqDiff, Nat.reduceLeDiff, Nat.reduceLT, Int.reduceNeg, ↓reduceIte, reduceCtorEq, Int.reduceEq, Int.reduceLT, Int.reduceLE, Int.reduceBEq, Int.reduceBNe, Int.reduceToNat, IntKind.bits, Int.reduceAdd, Int.reduceSub, Int.reduceMul, Int.reduceTDiv, Int.reduceTMod, R7B, take_add, List.append_assoc, List.length_append, Nat.add_assoc, shrink_lit, ball_app, RG, LPB, uv_len, uv_data, uv_p, uv_0, uv_1, uv_2, uv_3, uv_oo, uv_snap, w_0, w_1, w_2, w_o1, w_all, uv_og, uv_oh, uv_os, urows_len, snap_wat, hT, h37, c3.1, c3.2, hq, lisFits, Nat.zero_add, g1, s1, urows_set, List.set_set, h34, s0, d1, m1, w2, f2, eb, List.append_nil, CW_some, scalar, scalar1, lockAll, lockAt, reduceCtorEq, extrV, List.all_cons, List.all_nil, pairOk, AV.ids, List.contains_cons, List.contains_nil, Nat.reduceBEq, List.all_cons, List.all_nil, Bool.or_self, Bool.not_false, Bool.and_self, Bool.or_false, mutIds]
    · have e4 : (G == 3) = false := by rw [beq_eq_false_iff_ne]; exact e3
      by_cases e2 : q.st = 2
      · have e5 : (q.st == 2) = true := by rw [beq_iff_eq]; exact e2
        simp only [f41, RB, pickV, eqbV, notV, negV, convV, faddrV, fldV, idxV, eqaggV, iaddrV, isnilV, nilckV, cloV, extrV, slenV, minV, sidxV, abin, cmpInt, params, growLists, fillCells, newAt, rdPtr, wrPtr, AV.cells, asVal, lenOf, boundOf, rowsOf, argIds, freshIn, scalar1, setAll, AV.isData, AV.isYld, Nat.reduceAdd, Nat.reduceMul, Nat.reduceSub, Nat.reduceEqDiff, Nat.reduceLeDiff, Nat.reduceLT, Int.reduceNeg, ↓reduceIte, reduceCtorEq, Int.reduceEq, Int.reduceLT, Int.reduceLE, Int.reduceBEq, Int.reduceBNe, Int.reduceToNat, IntKind.bits, Int.reduceAdd, Int.reduceSub, Int.reduceMul, Int.reduceTDiv, Int.reduceTMod, R7B, take_add, List.append_assoc, List.length_append, Nat.add_assoc, shrink_lit, ball_app, RG, LPB, uv_len, uv_data, uv_p, uv_0, uv_1, uv_2, uv_3, uv_oo, uv_snap, w_0, w_1, w_2, w_o1, w_all, uv_og, uv_oh, uv_os, urows_len, snap_wat, hT, h37, c3.1, c3.2, hq, lisFits, Nat.zero_add, g1, s1, urows_set, List.set_set, h34, s0, d1, m1, w2, f2, eb, e2, e3, e4, List.append_nil, CW_some, scalar, scalar1, lockAll, lockAt, reduceCtorEq, extrV, List.all_cons, List.all_nil, pairOk, AV.ids, List.contains_cons, List.contains_nil, Nat.reduceBEq, List.all_cons, List.all_nil, Bool.or_self, Bool.not_false, Bool.and_self, Bool.or_false, mutIds]
      · have e5 : (q.st == 2) = false := by rw [beq_eq_false_iff_ne]; exact e2
        by_cases e6 : q.st = 1
        · simp only [f41, RB, pickV, eqbV, notV, negV, convV, faddrV, fldV, idxV, eqaggV, iaddrV, isnilV, nilckV, cloV, extrV, slenV, minV, sidxV, abin, cmpInt, params, growLists, fillCells, newAt, rdPtr, wrPtr, AV.cells, asVal, lenOf, boundOf, rowsOf, argIds, freshIn, scalar1, setAll, AV.isData, AV.isYld, Nat.reduceAdd, Nat.reduceMul, Nat.reduceSub, Nat.reduceEqDiff, Nat.reduceLeDiff, Nat.reduceLT, Int.reduceNeg, ↓reduceIte, reduceCtorEq, Int.reduceEq, Int.reduceLT, Int.reduceLE, Int.reduceBEq, Int.reduceBNe, Int.reduceToNat, IntKind.bits, Int.reduceAdd, Int.reduceSub, Int.reduceMul, Int.reduceTDiv, Int.reduceTMod, R7B, take_add, List.append_assoc, List.length_append, Nat.add_assoc, shrink_lit, ball_app, RG, LPB, uv_len, uv_data, uv_p, uv_0, uv_1, uv_2, uv_3, uv_oo, uv_snap, w_0, w_1, w_2, w_o1, w_all, uv_og, uv_oh, uv_os, urows_len, snap_wat, hT, h37, c3.1, c3.2, hq, lisFits, Nat.zero_add, g1, s1, urows_set, List.set_set, h34, s0, d1, m1, w2, f2, eb, e2, e3, e4, e5, e6, List.append_nil, CW_some, scalar, scalar1, lockAll, lockAt, reduceCtorEq, extrV, List.all_cons, List.all_nil, pairOk, AV.ids, List.contains_cons, List.contains_nil, Nat.reduceBEq, List.all_cons, List.all_nil, Bool.or_self, Bool.not_false, Bool.and_self, Bool.or_false, mutIds]
        · have e7 : (q.st == 1) = false := by rw [beq_eq_false_iff_ne]; exact e6
          simp only [f41, RB, pickV, eqbV, notV, negV, convV, faddrV, fldV, idxV, eqaggV, iaddrV, isnilV, nilckV, cloV, extrV, slenV, minV, sidxV, abin, cmpInt, params, growLists, fillCells, newAt, rdPtr, wrPtr, AV.cells, asVal, lenOf, boundOf, rowsOf, argIds, freshIn, scalar1, setAll, AV.isData, AV.isYld, Nat.reduceAdd, Nat.reduceMul, Nat.reduceSub, Nat.reduceEqDiff, Nat.reduceLeDiff, Nat.reduceLT, Int.reduceNeg, ↓reduceIte, reduceCtorEq, Int.reduceEq, Int.reduceLT, Int.reduceLE, Int.reduceBEq, Int.reduceBNe, Int.reduceToNat, IntKind.bits, Int.reduceAdd, Int.reduceSub, Int.reduceMul, Int.reduceTDiv, Int.reduceTMod, R7B, take_add, List.append_assoc, List.length_append, Nat.add_assoc, shrink_lit, ball_app, RG, LPB, uv_len, uv_data, uv_p, uv_0, uv_1, uv_2, uv_3, uv_oo, uv_snap, w_0, w_1, w_2, w_o1, w_all, uv_og, uv_oh, uv_os, urows_len, snap_wat, hT, h37, c3.1, c3.2, hq, lisFits, Nat.zero_add, g1, s1, urows_set, List.set_set, h34, s0, d1, m1, w2, f2, eb, e2, e3, e4, e5, e6, e7, List.append_nil, CW_some, scalar, scalar1, lockAll, lockAt, reduceCtorEq, extrV, List.all_cons, List.all_nil, pairOk, AV.ids, List.contains_cons, List.contains_nil, Nat.reduceBEq, List.all_cons, List.all_nil, Bool.or_self, Bool.not_false, Bool.and_self, Bool.or_false, mutIds]
  · have s0 : (spanI (now - q.heard) == 0) = false := by
      rw [beq_eq_false_iff_ne]; unfold spanI; rw [if_neg d1]; split <;> decide
    rw [eg.2 d1]
    by_cases e2 : q.st = 2
    · have e5 : (q.st == 2) = true := by rw [beq_iff_eq]; exact e2
      simp only [f41, RB, pickV, eqbV, notV, negV, convV, faddrV, fldV, idxV, eqaggV, iaddrV, isnilV, nilckV, cloV, extrV, slenV, minV, sidxV, abin, cmpInt, params, growLists, fillCells, newAt, rdPtr, wrPtr, AV.cells, asVal, lenOf, boundOf, rowsOf, argIds, freshIn, scalar1, setAll, AV.isData, AV.isYld, Nat.reduceAdd, Nat.reduceMul, Nat.reduceSub, Nat.reduceEqDiff, Nat.reduceLeDiff, Nat.reduceLT, Int.reduceNeg, ↓reduceIte, reduceCtorEq, Int.reduceEq, Int.reduceLT, Int.reduceLE, Int.reduceBEq, Int.reduceBNe, Int.reduceToNat, IntKind.bits, Int.reduceAdd, Int.reduceSub, Int.reduceMul, Int.reduceTDiv, Int.reduceTMod, R7B, take_add, List.append_assoc, List.length_append, Nat.add_assoc, shrink_lit, ball_app, RG, LPB, uv_len, uv_data, uv_p, uv_0, uv_1, uv_2, uv_3, uv_oo, uv_snap, w_0, w_1, w_2, w_o1, w_all, uv_og, uv_oh, uv_os, urows_len, snap_wat, hT, h37, c3.1, c3.2, hq, lisFits, Nat.zero_add, g1, s1, urows_set, List.set_set, h34, s0, d1, m1, w2, f2, eb, e2, List.append_nil, CW_some, scalar, scalar1, lockAll, lockAt, reduceCtorEq, extrV, List.all_cons, List.all_nil, pairOk, AV.ids, List.contains_cons, List.contains_nil, Nat.reduceBEq, List.all_cons, List.all_nil, Bool.or_self, Bool.not_false, Bool.and_self, Bool.or_false, mutIds]
    · have e5 : (q.st == 2) = false := by rw [beq_eq_false_iff_ne]; exact e2
      by_cases e6 : q.st = 1
      · simp only [f41, RB, pickV, eqbV, notV, negV, convV, faddrV, fldV, idxV, eqaggV, iaddrV, isnilV, nilckV, cloV, extrV, slenV, minV, sidxV, abin, cmpInt, params, growLists, fillCells, newAt, rdPtr, wrPtr, AV.cells, asVal, lenOf, boundOf, rowsOf, argIds, freshIn, scalar1, setAll, AV.isData, AV.isYld, Nat.reduceAdd, Nat.reduceMul, Nat.reduceSub, Nat.reduceEqDiff, Nat.reduceLeDiff, Nat.reduceLT, Int.reduceNeg, ↓reduceIte, reduceCtorEq, Int.reduceEq, Int.reduceLT, Int.reduceLE, Int.reduceBEq, Int.reduceBNe, Int.reduceToNat, IntKind.bits, Int.reduceAdd, Int.reduceSub, Int.reduceMul, Int.reduceTDiv, Int.reduceTMod, R7B, take_add, List.append_assoc, List.length_append, Nat.add_assoc, shrink_lit, ball_app, RG, LPB, uv_len, uv_data, uv_p, uv_0, uv_1, uv_2, uv_3, uv_oo, uv_snap, w_0, w_1, w_2, w_o1, w_all, uv_og, uv_oh, uv_os, urows_len, snap_wat, hT, h37, c3.1, c3.2, hq, lisFits, Nat.zero_add, g1, s1, urows_set, List.set_set, h34, s0, d1, m1, w2, f2, eb, e2, e5, e6, List.append_nil, CW_some, scalar, scalar1, lockAll, lockAt, reduceCtorEq, extrV, List.all_cons, List.all_nil, pairOk, AV.ids, List.contains_cons, List.contains_nil, Nat.reduceBEq, List.all_cons, List.all_nil, Bool.or_self, Bool.not_false, Bool.and_self, Bool.or_false, mutIds]
      · have e7 : (q.st == 1) = false := by rw [beq_eq_false_iff_ne]; exact e6
        simp only [f41, RB, pickV, eqbV, notV, negV, convV, faddrV, fldV, idxV, eqaggV, iaddrV, isnilV, nilckV, cloV, extrV, slenV, minV, sidxV, abin, cmpInt, params, growLists, fillCells, newAt, rdPtr, wrPtr, AV.cells, asVal, lenOf, boundOf, rowsOf, argIds, freshIn, scalar1, setAll, AV.isData, AV.isYld, Nat.reduceAdd, Nat.reduceMul, Nat.reduceSub, Nat.reduceEqDiff, Nat.reduceLeDiff, Nat.reduceLT, Int.reduceNeg, ↓reduceIte, reduceCtorEq, Int.reduceEq, Int.reduceLT, Int.reduceLE, Int.reduceBEq, Int.reduceBNe, Int.reduceToNat, IntKind.bits, Int.reduceAdd, Int.reduceSub, Int.reduceMul, Int.reduceTDiv, Int.reduceTMod, R7B, take_add, List.append_assoc, List.length_append, Nat.add_assoc, shrink_lit, ball_app, RG, LPB, uv_len, uv_data, uv_p, uv_0, uv_1, uv_2, uv_3, uv_oo, uv_snap, w_0, w_1, w_2, w_o1, w_all, uv_og, uv_oh, uv_os, urows_len, snap_wat, hT, h37, c3.1, c3.2, hq, lisFits, Nat.zero_add, g1, s1, urows_set, List.set_set, h34, s0, d1, m1, w2, f2, eb, e2, e5, e6, e7, List.append_nil, CW_some, scalar, scalar1, lockAll, lockAt, reduceCtorEq, extrV, List.all_cons, List.all_nil, pairOk, AV.ids, List.contains_cons, List.contains_nil, Nat.reduceBEq, List.all_cons, List.all_nil, Bool.or_self, Bool.not_false, Bool.and_self, Bool.or_false, mutIds]
end Go.Proofs.Ytabadcnpmfafnaa.F

/- A peer is heard: beat.Hear. No condition. -/
set_option linter.unusedSimpArgs false
namespace Go.Proofs.Ytabadcnpmfafnaa.D
open Go Go.Proofs.Ytabadcnpmfafnaa.A Go.Proofs.Ytabadcnpmfafnaa.F
def hearL (now : Int) (l : List Pu) (n : Int) : List Pu := l.map fun p => if p.num = n then heardU now p else p
def findU (l : List Pu) (n : Int) : Option Pu := l.find? fun p => decide (p.num = n)
/-- What hearing comes to. -/
def hearS (now : Int) (l : List Pu) (n : Int) : ((Int × List Pu) × Bool) × Int := if WatOk now l then match findU l n with
    | some p => (((now, hearL now l n), cameU now p), 0)
    | none => (((0, []), false), 4) else (((0, []), false), 390)
def tupH (r : ((Int × List Pu) × Bool) × Int) : AV := .tup [.agg [.int .i64 r.1.1.1, .ro (urows r.1.1.2)], .bool r.1.2, .int .i64 r.2]
theorem find_none {l : List Pu} {n : Int} (h : ¬ hasU l n) : findU l n = none := by
  unfold findU
  rw [List.find?_eq_none]
  intro p hp
  simp only [decide_eq_true_eq]
  exact fun e => h ⟨p, hp, e⟩
theorem rise_inj {l : List Pu} (hr : RiseU l) {i j : Nat} (hi : i < l.length) (hj : j < l.length) (h : (urow l i).num = (urow l j).num) : i = j := by
  rcases Nat.lt_trichotomy i j with h1 | h1 | h1
  · have := hr i j h1 hj; omega
  · exact h1
  · have := hr j i h1 hi; omega
theorem find_some {l : List Pu} {n : Int} (hr : RiseU l) {i : Nat} (hi : i < l.length) (hn : (urow l i).num = n) : findU l n = some (urow l i) := by
  unfold findU
  rw [List.find?_eq_some_iff_getElem]
  refine ⟨by simpa using hn, i, hi, ?_, fun j hj => ?_⟩
  · have := urow_some l hi; rw [List.getElem?_eq_getElem hi] at this; exact Option.some.inj this
  · have hj2 : j < l.length := by omega
    have := urow_some l hj2
    rw [List.getElem?_eq_getElem hj2] at this
    rw [Option.some.inj this]
    have := hr j i hj hi
    simp; omega
theorem set_hear {now : Int} {l : List Pu} {n : Int} (hr : RiseU l) {i : Nat} (hi : i < l.length) (hn : (urow l i).num = n) : l.set i (heardU now (urow l i)) = hearL now l n := by
  refine List.ext_getElem? fun j => ?_
  unfold hearL
  rw [List.getElem?_map, List.getElem?_set]
  by_cases hij : i = j
  · subst hij
    rw [if_pos rfl, if_pos hi, urow_some l hi, Option.map_some, if_pos hn]
  · rw [if_neg hij]
    by_cases hj : j < l.length
    · rw [urow_some l hj, Option.map_some, if_neg]
      intro h; exact hij (rise_inj hr hi hj (by rw [hn, h]))
    · rw [List.getElem?_eq_none (by omega)]; rfl
theorem hearL_len (now : Int) (l : List Pu) (n : Int) : (hearL now l n).length = l.length := by simp [hearL]
end Go.Proofs.Ytabadcnpmfafnaa.D
namespace Go.Proofs.Ytabadcnpmfafnaa.F
open Go Go.Proofs.Ytabadcnpmfafnaa.A Go.Proofs.Ytabadcnpmfafnaa.D
theorem e16 (now : Int) (l : List Pu) (n : Int) (hl : l.length ≤ 1000000) : LV E 16 [.agg [.int .i64 now, .ro (urows l)], .int .i64 n] = some (tupH (hearS now l n)) := by
  rw [LV_R (fn := f16) rfl rfl rfl]
  unfold hearS tupH
  by_cases h1 : WatOk now l
  · have hr := h1.2.rise
    by_cases h3 : hasU l n
    · obtain ⟨i, k1, k2, hc⟩ := r41_hear (ys := []) (pend := []) (b0 := .box 0 24 [.int .i64 now, .ro (urows l)]) (b2 := .box 0 24 [.int .i64 0, .lis 3 0 0 0]) (b3 := .lst 0 0 40 4 []) (b8 := .box 0 24 [.int .i64 0, .lis 9 0 0 0]) (b9 := .lst 0 0 40 4 []) now n l hl h1 h3
      have hf := find_some hr k1 k2
      rw [set_hear hr k1 k2] at hc
      have h32 := r32_fin (ys := []) (pend := []) (bs := [.box 0 24 [.int .i64 now, .ro (urows l)], .box 0 3 [.int .i64 n], .box 0 24 [.int .i64 0, .lis 3 0 0 0], .lst 0 0 40 4 [], .box 0 4 [.bool false], .dead, .dead]) (bs2 := [.box 0 24 [.int .i64 now, .ro (urows l)], .box 0 3 [.int .i64 n], .box 0 24 [.int .i64 0, .lis 3 0 0 0], .lst 0 0 40 4 [], .box 0 4 [.bool (cameU now (urow l i))], .dead, .dead]) (ext := []) (g := 41) (caps := [.ptr 1 0 0 0, .ptr 4 0 0 0]) (g' := 0) (R := urows (hearL now l n)) now now l (hearL now l n) hl h1 (by simp [LPB]) rfl (by rw [hearL_len]; exact hc)
      simp only [List.cons_append, List.nil_append, List.length_cons, List.length_nil, Nat.zero_add, Nat.reduceAdd] at h32
      have ht : (urows (hearL now l n)).take (hearL now l n).length = urows (hearL now l n) := by rw [← urows_len, List.take_length]
      simp only [f16, RB, pickV, eqbV, notV, negV, convV, faddrV, fldV, idxV, eqaggV, iaddrV, isnilV, nilckV, cloV, extrV, slenV, minV, sidxV, abin, cmpInt, params, growLists, fillCells, newAt, rdPtr, wrPtr, AV.cells, asVal, lenOf, boundOf, rowsOf, argIds, freshIn, scalar1, setAll, AV.isData, AV.isYld, Nat.reduceAdd, Nat.reduceMul, Nat.reduceSub, Nat.reduceEqDiff, Nat.reduceLeDiff, Nat.reduceLT, Int.reduceNeg, ↓reduceIte, reduceCtorEq, Int.reduceEq, Int.reduceLT, Int.reduceLE, Int.reduceBEq, Int.reduceBNe, Int.reduceToNat, IntKind.bits, Int.reduceAdd, Int.reduceSub, Int.reduceMul, Int.reduceTDiv, Int.reduceTMod, R7B, take_add, List.append_assoc, List.length_append, Nat.add_assoc, shrink_lit, ball_app, RG, LPB, uv_len, uv_data, uv_p, uv_0, uv_1, uv_2, uv_3, uv_oo, uv_snap, w_0, w_1, w_2, w_o1, w_all, uv_og, uv_oh, uv_os, urows_len, h32, h1, hf, expCell, List.nodup_cons, List.nodup_nil, List.not_mem_nil, not_false_eq_true, not_true_eq_false, and_true, and_false, if_false, List.mem_cons, mutIds, expIn_wat, urows_nil, ht, pairOk, AV.ids, List.contains_cons, List.contains_nil, Nat.reduceBEq, List.all_cons, List.all_nil, Bool.or_self, Bool.not_false, Bool.and_self, Bool.or_false]
      done
    · have hc := r41_none (ys := []) (pend := []) (b0 := .box 0 24 [.int .i64 now, .ro (urows l)]) (b2 := .box 0 24 [.int .i64 0, .lis 3 0 0 0]) (b3 := .lst 0 0 40 4 []) (b8 := .box 0 24 [.int .i64 0, .lis 9 0 0 0]) (b9 := .lst 0 0 40 4 []) now n l hl hr h3
      obtain ⟨r, h32, hrl⟩ := r32_err (ys := []) (pend := []) (bs := [.box 0 24 [.int .i64 now, .ro (urows l)], .box 0 3 [.int .i64 n], .box 0 24 [.int .i64 0, .lis 3 0 0 0], .lst 0 0 40 4 [], .box 0 4 [.bool false], .dead, .dead]) (ext := []) (g := 41) (caps := [.ptr 1 0 0 0, .ptr 4 0 0 0]) (e := 4) now l hl h1 (by decide) (by simp [LPB]) (by rw [List.append_nil]; exact hc)
      obtain ⟨a, b, c, d, rfl⟩ := list4 hrl
      simp only [List.cons_append, List.nil_append, List.length_cons, List.length_nil, Nat.zero_add, Nat.reduceAdd] at h32
      simp only [f16, RB, pickV, eqbV, notV, negV, convV, faddrV, fldV, idxV, eqaggV, iaddrV, isnilV, nilckV, cloV, extrV, slenV, minV, sidxV, abin, cmpInt, params, growLists, fillCells, newAt, rdPtr, wrPtr, AV.cells, asVal, lenOf, boundOf, rowsOf, argIds, freshIn, scalar1, setAll, AV.isData, AV.isYld, Nat.reduceAdd, Nat.reduceMul, Nat.reduceSub, Nat.reduceEqDiff, Nat.reduceLeDiff, Nat.reduceLT, Int.reduceNeg, ↓reduceIte, reduceCtorEq, Int.reduceEq, Int.reduceLT, Int.reduceLE, Int.reduceBEq, Int.reduceBNe, Int.reduceToNat, IntKind.bits, Int.reduceAdd, Int.reduceSub, Int.reduceMul, Int.reduceTDiv, Int.reduceTMod, R7B, take_add, List.append_assoc, List.length_append, Nat.add_assoc, shrink_lit, ball_app, RG, LPB, uv_len, uv_data, uv_p, uv_0, uv_1, uv_2, uv_3, uv_oo, uv_snap, w_0, w_1, w_2, w_o1, w_all, uv_og, uv_oh, uv_os, urows_len, h32, h1, find_none h3, expCell, List.nodup_cons, List.nodup_nil, List.not_mem_nil, not_false_eq_true, not_true_eq_false, and_true, and_false, if_false, List.mem_cons, mutIds, expIn_wat, urows_nil, pairOk, AV.ids, List.contains_cons, List.contains_nil, Nat.reduceBEq, List.all_cons, List.all_nil, Bool.or_self, Bool.not_false, Bool.and_self, Bool.or_false]
  · obtain ⟨r, h32, hrl⟩ := r32_bad (ys := []) (pend := []) (bs := [.box 0 24 [.int .i64 now, .ro (urows l)], .box 0 3 [.int .i64 n], .box 0 24 [.int .i64 0, .lis 3 0 0 0], .lst 0 0 40 4 [], .box 0 4 [.bool false], .dead, .dead]) (g := 41) (caps := [.ptr 1 0 0 0, .ptr 4 0 0 0]) now l hl h1
    obtain ⟨a, b, c, rfl⟩ := list3 hrl
    simp only [List.cons_append, List.nil_append, List.length_cons, List.length_nil, Nat.zero_add, Nat.reduceAdd] at h32
    simp only [f16, RB, pickV, eqbV, notV, negV, convV, faddrV, fldV, idxV, eqaggV, iaddrV, isnilV, nilckV, cloV, extrV, slenV, minV, sidxV, abin, cmpInt, params, growLists, fillCells, newAt, rdPtr, wrPtr, AV.cells, asVal, lenOf, boundOf, rowsOf, argIds, freshIn, scalar1, setAll, AV.isData, AV.isYld, Nat.reduceAdd, Nat.reduceMul, Nat.reduceSub, Nat.reduceEqDiff, Nat.reduceLeDiff, Nat.reduceLT, Int.reduceNeg, ↓reduceIte, reduceCtorEq, Int.reduceEq, Int.reduceLT, Int.reduceLE, Int.reduceBEq, Int.reduceBNe, Int.reduceToNat, IntKind.bits, Int.reduceAdd, Int.reduceSub, Int.reduceMul, Int.reduceTDiv, Int.reduceTMod, R7B, take_add, List.append_assoc, List.length_append, Nat.add_assoc, shrink_lit, ball_app, RG, LPB, uv_len, uv_data, uv_p, uv_0, uv_1, uv_2, uv_3, uv_oo, uv_snap, w_0, w_1, w_2, w_o1, w_all, uv_og, uv_oh, uv_os, urows_len, h32, h1, expCell, List.nodup_cons, List.nodup_nil, List.not_mem_nil, not_false_eq_true, not_true_eq_false, and_true, and_false, if_false, List.mem_cons, mutIds, expIn_wat, urows_nil, pairOk, AV.ids, List.contains_cons, List.contains_nil, Nat.reduceBEq, List.all_cons, List.all_nil, Bool.or_self, Bool.not_false, Bool.and_self, Bool.or_false]
end Go.Proofs.Ytabadcnpmfafnaa.F

/- Does the layer do anything? No condition. -/
set_option linter.unusedSimpArgs false
namespace Go.Proofs.Ytabadcnpmfafnaa.D
open Go Go.Proofs.Ytabadcnpmfafnaa.A Go.Proofs.Ytabadcnpmfafnaa.F
def pW : Pu := ⟨1, 0, 3, 1⟩
def pD : Pu := ⟨1, 0, 0, 3⟩
theorem uv_pW : uv pW = [.int .i64 1, .int .i64 0, .int .i64 3, .int .i64 1] := rfl
theorem uv_pD : uv pD = [.int .i64 1, .int .i64 0, .int .i64 0, .int .i64 3] := rfl
theorem watW : WatOk 0 [pW] := by decide +kernel
theorem addW : addS 0 [] 1 = ((0, [⟨1, 0, 0, 0⟩]), 0) := by decide +kernel
theorem hear1 : hearS 0 [⟨1, 0, 0, 0⟩] 1 = (((0, [⟨1, 0, 1, 0⟩]), false), 0) := by decide +kernel
theorem hear2 : hearS 0 [⟨1, 0, 1, 0⟩] 1 = (((0, [⟨1, 0, 2, 0⟩]), false), 0) := by decide +kernel
theorem hear3 : hearS 0 [⟨1, 0, 2, 0⟩] 1 = (((0, [pW]), true), 0) := by decide +kernel
end Go.Proofs.Ytabadcnpmfafnaa.D
namespace Go.Proofs.Ytabadcnpmfafnaa.F
open Go Go.Proofs.Ytabadcnpmfafnaa.A Go.Proofs.Ytabadcnpmfafnaa.D
theorem i64_lit (n : Int) (h : -9223372036854775808 ≤ n ∧ n ≤ 9223372036854775807) : IntKind.i64.wrap n = n := IntWalk.i64_in _ h
theorem r33 : LR E [] 33 [.ptr 9 0 0 0, .ptr 1 0 0 0, .ptr 5 0 0 0] ⟨[.box 0 24 [.int .i64 0, .ro (urows [pW])], .box 0 2 [.int .i64 10], .box 0 24 [.int .i64 0, .lis 3 0 0 0], .lst 0 0 40 4 [], .lst 0 0 3 1 [], .box 0 27 [.lis 6 0 0 0], .lst 0 0 3 1 [], .dead, .dead, .box 0 24 [.int .i64 0, .lis 12 0 0 1], .box 0 24 [.int .i64 0, .lis 11 0 0 0], .lst 0 0 40 4 [], .lst 0 0 40 4 [uv pW]], []⟩ =
    some (.int .i64 0, ⟨[.box 0 24 [.int .i64 0, .ro (urows [pW])], .box 0 2 [.int .i64 10], .box 0 24 [.int .i64 0, .lis 3 0 0 0], .lst 0 0 40 4 [], .lst 0 0 3 1 [], .box 0 27 [.lis 6 1 0 1], .lst 0 1 3 1 [[.int .i64 1]], .dead, .dead, .box 0 24 [.int .i64 10, .lis 12 0 0 1], .box 0 24 [.int .i64 0, .lis 11 0 0 0], .lst 0 0 40 4 [], .lst 0 0 40 4 [uv pD]], []⟩) := by
  have h34 := e34 10 pW
  rw [show spanI (IntKind.i64.wrap (10 - pW.heard)) = 2 by decide] at h34
  rw [LR_R (fn := f33) rfl rfl rfl]
  simp only [f33, RB, pickV, eqbV, notV, negV, convV, faddrV, fldV, idxV, eqaggV, iaddrV, isnilV, nilckV, cloV, extrV, slenV, minV, sidxV, abin, cmpInt, params, growLists, fillCells, newAt, rdPtr, wrPtr, AV.cells, asVal, lenOf, boundOf, rowsOf, argIds, freshIn, scalar1, setAll, AV.isData, AV.isYld, Nat.reduceAdd, Nat.reduceMul, Nat.reduceSub, Nat.reduceEqDiff, Nat.reduceLeDiff, Nat.reduceLT, Int.reduceNeg, ↓reduceIte, reduceCtorEq, Int.reduceEq, Int.reduceLT, Int.reduceLE, Int.reduceBEq, Int.reduceBNe, Int.reduceToNat, IntKind.bits, Int.reduceAdd, Int.reduceSub, Int.reduceMul, Int.reduceTDiv, Int.reduceTMod, R7B, take_add, List.append_assoc, List.length_append, Nat.add_assoc, shrink_lit, ball_app, RG, LPB, uv_len, uv_data, uv_p, uv_0, uv_1, uv_2, uv_3, uv_oo, uv_snap, w_0, w_1, w_2, w_o1, w_all, uv_og, uv_oh, uv_os, urows_len, lisFits, h34, W_go, LPB, O_buildSlq, quietOk, aop_buildSl, fillRows, asData, aappend, show pW.st = 1 from rfl, show pW.num = 1 from rfl, show headFits 1 [[AV.int IntKind.i64 1]] = true from rfl]
  rfl
theorem e10 : LV E 10 [.agg [.int .i64 0, .ro (urows [pW])], .int .i64 10] = some (.tup [.agg [.int .i64 10, .ro (urows [pD])], .ro [[.int .i64 1]], .int .i64 0]) := by
  have h32 := r32_fin (ys := []) (pend := []) (bs := [.box 0 24 [.int .i64 0, .ro (urows [pW])], .box 0 2 [.int .i64 10], .box 0 24 [.int .i64 0, .lis 3 0 0 0], .lst 0 0 40 4 [], .lst 0 0 3 1 [], .box 0 27 [.lis 6 0 0 0], .lst 0 0 3 1 [], .dead, .dead]) (bs2 := [.box 0 24 [.int .i64 0, .ro (urows [pW])], .box 0 2 [.int .i64 10], .box 0 24 [.int .i64 0, .lis 3 0 0 0], .lst 0 0 40 4 [], .lst 0 0 3 1 [], .box 0 27 [.lis 6 1 0 1], .lst 0 1 3 1 [[.int .i64 1]], .dead, .dead]) (ext := []) (g := 33) (caps := [.ptr 1 0 0 0, .ptr 5 0 0 0]) (g' := 0) (R := urows [pD]) 0 10 [pW] [pD] (by decide) watW (by simp [LPB]) rfl r33
  simp only [List.cons_append, List.nil_append, List.length_cons, List.length_nil, Nat.zero_add, Nat.reduceAdd] at h32
  rw [LV_R (fn := f10) rfl rfl rfl]
  simp only [f10, RB, pickV, eqbV, notV, negV, convV, faddrV, fldV, idxV, eqaggV, iaddrV, isnilV, nilckV, cloV, extrV, slenV, minV, sidxV, abin, cmpInt, params, growLists, fillCells, newAt, rdPtr, wrPtr, AV.cells, asVal, lenOf, boundOf, rowsOf, argIds, freshIn, scalar1, setAll, AV.isData, AV.isYld, Nat.reduceAdd, Nat.reduceMul, Nat.reduceSub, Nat.reduceEqDiff, Nat.reduceLeDiff, Nat.reduceLT, Int.reduceNeg, ↓reduceIte, reduceCtorEq, Int.reduceEq, Int.reduceLT, Int.reduceLE, Int.reduceBEq, Int.reduceBNe, Int.reduceToNat, IntKind.bits, Int.reduceAdd, Int.reduceSub, Int.reduceMul, Int.reduceTDiv, Int.reduceTMod, R7B, take_add, List.append_assoc, List.length_append, Nat.add_assoc, shrink_lit, ball_app, RG, LPB, uv_len, uv_data, uv_p, uv_0, uv_1, uv_2, uv_3, uv_oo, uv_snap, w_0, w_1, w_2, w_o1, w_all, uv_og, uv_oh, uv_os, urows_len, h32, expCell, List.nodup_cons, List.nodup_nil, List.not_mem_nil, not_false_eq_true, not_true_eq_false, and_true, and_false, if_false, List.mem_cons, mutIds, expIn_wat, pairOk, AV.ids, List.contains_cons, List.contains_nil, Nat.reduceBEq, List.all_cons, List.all_nil, Bool.or_self, Bool.not_false, Bool.and_self, Bool.or_false, show (urows [pD]).take 1 = urows [pD] from rfl]
theorem e8 : LV E 8 [] = some (.bool true) := by
  have h14 := e14 0 [] 1 (by decide)
  have h1 := e16 0 [⟨1, 0, 0, 0⟩] 1 (by decide)
  have h2 := e16 0 [⟨1, 0, 1, 0⟩] 1 (by decide)
  have h3 := e16 0 [⟨1, 0, 2, 0⟩] 1 (by decide)
  rw [addW, urows_nil] at h14
  rw [hear1] at h1; rw [hear2] at h2; rw [hear3] at h3
  unfold tupW at h14
  unfold tupH at h1 h2 h3
  simp only at h14 h1 h2 h3
  rw [LV_R (fn := f8) rfl rfl rfl]
  simp only [f8, RB, pickV, eqbV, notV, negV, convV, faddrV, fldV, idxV, eqaggV, iaddrV, isnilV, nilckV, cloV, extrV, slenV, minV, sidxV, abin, cmpInt, params, growLists, fillCells, newAt, rdPtr, wrPtr, AV.cells, asVal, lenOf, boundOf, rowsOf, argIds, freshIn, scalar1, setAll, AV.isData, AV.isYld, Nat.reduceAdd, Nat.reduceMul, Nat.reduceSub, Nat.reduceEqDiff, Nat.reduceLeDiff, Nat.reduceLT, Int.reduceNeg, ↓reduceIte, reduceCtorEq, Int.reduceEq, Int.reduceLT, Int.reduceLE, Int.reduceBEq, Int.reduceBNe, Int.reduceToNat, IntKind.bits, Int.reduceAdd, Int.reduceSub, Int.reduceMul, Int.reduceTDiv, Int.reduceTMod, R7B, take_add, List.append_assoc, List.length_append, Nat.add_assoc, shrink_lit, ball_app, RG, LPB, uv_len, uv_data, uv_p, uv_0, uv_1, uv_2, uv_3, uv_oo, uv_snap, w_0, w_1, w_2, w_o1, w_all, uv_og, uv_oh, uv_os, urows_len, h14, h1, h2, h3, e10, snap_wat, urows_nil, mutIds, expCell, List.nodup_cons, List.nodup_nil, List.not_mem_nil, not_false_eq_true, not_true_eq_false, and_true, and_false, if_false, List.mem_cons, mutIds, expIn_wat, pairOk, AV.ids, List.contains_cons, List.contains_nil, Nat.reduceBEq, List.all_cons, List.all_nil, Bool.or_self, Bool.not_false, Bool.and_self, Bool.or_false, CW_some, scalar, scalar1, lockAll, lockAt, reduceCtorEq, extrV, List.all_cons, List.all_nil]
  done
end Go.Proofs.Ytabadcnpmfafnaa.F

/- The document's Of, Heard, Without, With, Same. No condition. -/
set_option linter.unusedSimpArgs false
namespace Go.Proofs.Ytabadcnpmfafnaa.D
open Go Go.Proofs.Ytabadcnpmfafnaa.A Go.Proofs.Ytabadcnpmfafnaa.F
def AllF (Q : Nat → Prop) (n k : Nat) : Prop := ∀ i, k ≤ i → i < n → Q i
noncomputable instance {Q : Nat → Prop} {n k : Nat} : Decidable (AllF Q n k) := Classical.propDecidable _
theorem AllF.next {Q : Nat → Prop} {n k : Nat} (h : Q k) : AllF Q n k ↔ AllF Q n (k + 1) := by
  constructor
  · exact fun H i h1 h2 => H i (by omega) h2
  · intro H i h1 h2
    rcases Nat.lt_or_eq_of_le h1 with h3 | rfl
    · exact H i h3 h2
    · exact h
theorem AllF.not {Q : Nat → Prop} {n k : Nat} (hk : k < n) (h : ¬ Q k) : ¬ AllF Q n k := fun H => h (H k (Nat.le_refl _) hk)
theorem AllF.done {Q : Nat → Prop} {n k : Nat} (h : n ≤ k) : AllF Q n k := fun i h1 h2 => by omega
theorem usame_iff {a b : List Pu} (h : a.length = b.length) : AllF (fun i => urow a i = urow b i) a.length 0 ↔ a = b := by
  constructor
  · intro H
    refine List.ext_getElem? fun i => ?_
    by_cases hi : i < a.length
    · rw [urow_some a hi, urow_some b (by omega), H i (Nat.zero_le _) hi]
    · rw [List.getElem?_eq_none (by omega), List.getElem?_eq_none (by omega)]
  · rintro rfl i _ _; rfl
theorem drop_u (l : List Pu) {k : Nat} (hk : k < l.length) : l.drop k = urow l k :: l.drop (k + 1) := by
  have h1 := urow_some l hk
  rw [List.getElem?_eq_getElem hk] at h1
  rw [List.drop_eq_getElem_cons hk, Option.some.inj h1]
theorem take_u (l : List Pu) {k : Nat} (hk : k < l.length) : l.take (k + 1) = l.take k ++ [urow l k] := by rw [List.take_add_one, urow_some l hk]; rfl
def ofR (o : Option Pu) : AV := match o with
  | some p => .tup [.agg (uv p), .bool true]
  | none => .tup [.agg (uv zerU), .bool false]
theorem eq_uv (a b : Pu) : eqCells [1, 1, 1, 1] (uv a) (uv b) = some (decide (a = b)) := by
  obtain ⟨a1, a2, a3, a4⟩ := a
  obtain ⟨b1, b2, b3, b4⟩ := b
  have e : eqCells [1, 1, 1, 1] (uv ⟨a1, a2, a3, a4⟩) (uv ⟨b1, b2, b3, b4⟩) = some ((a1 == b1) && ((a2 == b2) && ((a3 == b3) && ((a4 == b4) && true)))) := rfl
  rw [e, Option.some.injEq, Bool.eq_iff_iff]
  simp
theorem uv_exp (fr : Bool) (bs : List Blk) (p : Pu) : expIn fr bs (.agg (uv p)) = some (.agg (uv p)) := rfl
theorem uv_res (fr : Bool) (bs : List Blk) (p : Pu) : expRes fr bs (.agg (uv p)) = some (.agg (uv p)) := rfl
theorem urows_sn (l : List Pu) (p : Pu) : urows (l ++ [p]) = urows l ++ [uv p] := by simp [urows]
theorem urows_all' (l : List Pu) : (urows l).take l.length = urows l := by rw [← urows_len, List.take_length]
theorem dropU_next (l : List Pu) (n : Int) {k : Nat} (hk : k < l.length) : dropU (l.take (k + 1)) n = if (urow l k).num = n then dropU (l.take k) n else dropU (l.take k) n ++ [urow l k] := by
  unfold dropU
  rw [take_u l hk, List.filter_append]
  by_cases h : (urow l k).num = n
  · simp [h]
  · simp [h]
/-- Of each number up to 8: the peer. -/
def pickU (l : List Pu) (x : Pu) (n : Int) : Option Pu := if n = x.num then some x else findU l n
def withU (l : List Pu) (x : Pu) (k : Nat) : List Pu := (List.range k).filterMap fun (j : Nat) => pickU l x ((j : Int) + 1)
theorem withU_next (l : List Pu) (x : Pu) (k : Nat) : withU l x (k + 1) = withU l x k ++ (pickU l x ((k : Int) + 1)).toList := by
  unfold withU
  rw [List.range_succ, List.filterMap_append]
  cases h : pickU l x ((k : Int) + 1) <;> simp [h]
theorem withU_len (l : List Pu) (x : Pu) (k : Nat) : (withU l x k).length ≤ k := by
  unfold withU; exact Nat.le_trans (List.length_filterMap_le _ _) (by simp)
end Go.Proofs.Ytabadcnpmfafnaa.D
namespace Go.Proofs.Ytabadcnpmfafnaa.F
open Go Go.Proofs.Ytabadcnpmfafnaa.A Go.Proofs.Ytabadcnpmfafnaa.D
theorem expRes_wat (bs : List Blk) (t : Int) (a b c d : Nat) : expRes false bs (.agg [.int .i64 t, .lis a b c d]) = (expCell false bs (.lis a b c d)).map fun x => .agg [.int .i64 t, x] := by
  show ([AV.int .i64 t, AV.lis a b c d].mapM (expCell false bs)).map AV.agg = _
  rw [List.mapM_cons, List.mapM_cons, List.mapM_nil, show expCell false bs (.int .i64 t) = some (.int .i64 t) from rfl]
  cases expCell false bs (.lis a b c d) <;> rfl
theorem e18 (now : Int) (l : List Pu) (n : Int) (hl : l.length ≤ 1000000) : LV E 18 [.agg [.int .i64 now, .ro (urows l)], .int .i64 n] = some (ofR (findU l n)) := by
  rw [LV_R (fn := f18) rfl rfl rfl]
  simp only [f18, ← uv_zer, RB, pickV, eqbV, notV, negV, convV, faddrV, fldV, idxV, eqaggV, iaddrV, isnilV, nilckV, cloV, extrV, slenV, minV, sidxV, abin, cmpInt, params, growLists, fillCells, newAt, rdPtr, wrPtr, AV.cells, asVal, lenOf, boundOf, rowsOf, argIds, freshIn, scalar1, setAll, AV.isData, AV.isYld, Nat.reduceAdd, Nat.reduceMul, Nat.reduceSub, Nat.reduceEqDiff, Nat.reduceLeDiff, Nat.reduceLT, Int.reduceNeg, ↓reduceIte, reduceCtorEq, Int.reduceEq, Int.reduceLT, Int.reduceLE, Int.reduceBEq, Int.reduceBNe, Int.reduceToNat, IntKind.bits, Int.reduceAdd, Int.reduceSub, Int.reduceMul, Int.reduceTDiv, Int.reduceTMod, R7B, take_add, List.append_assoc, List.length_append, Nat.add_assoc, shrink_lit, ball_app, RG, LPB, uv_len, uv_data, uv_p, uv_0, uv_1, uv_2, uv_3, uv_oo, uv_snap, w_0, w_1, w_2, w_o1, w_all, uv_on, uv_og, uv_oh, uv_os, uv_exp, uv_res, urows_len]
  refine (W_rec2 (β := AV) (ι := Nat) (M := fun k => [(1, .int .i64 n), (2, .ptr 0 0 0 0), (4, .ptr 1 0 0 0), (6, .int .i64 (k : Int))]) (H := fun _ => ⟨[.box 0 24 [.int .i64 now, .ro (urows l)], .box 0 40 (uv zerU)], []⟩) (r := fun k => some (ofR (findU (l.drop k) n))) (μ := fun k => l.length - k) (fun i => ?_) (fun k ih => ?_) 0 rfl rfl)
  · simp [LPB]
  · by_cases hk : k < l.length
    · have f1 : (k : Int) < (l.length : Int) := by omega
      have f2 : (0 : Int) ≤ (k : Int) := by omega
      have f6 : IntKind.i64.wrap ((k : Int) + 1) = ((k + 1 : Nat) : Int) := by rw [IntWalk.i64_in _ (by omega)] <;> omega
      have g := urows_get l hk
      have e : findU (l.drop k) n = if (urow l k).num = n then some (urow l k) else findU (l.drop (k + 1)) n := by
        rw [drop_u l hk]; unfold findU
        by_cases h : (urow l k).num = n <;> simp [h]
      rw [e]
      by_cases h : (urow l k).num = n
      · rw [if_pos h]
        simp only [RB, pickV, eqbV, notV, negV, convV, faddrV, fldV, idxV, eqaggV, iaddrV, isnilV, nilckV, cloV, extrV, slenV, minV, sidxV, abin, cmpInt, params, growLists, fillCells, newAt, rdPtr, wrPtr, AV.cells, asVal, lenOf, boundOf, rowsOf, argIds, freshIn, scalar1, setAll, AV.isData, AV.isYld, Nat.reduceAdd, Nat.reduceMul, Nat.reduceSub, Nat.reduceEqDiff, Nat.reduceLeDiff, Nat.reduceLT, Int.reduceNeg, ↓reduceIte, reduceCtorEq, Int.reduceEq, Int.reduceLT, Int.reduceLE, Int.reduceBEq, Int.reduceBNe, Int.reduceToNat, IntKind.bits, Int.reduceAdd, Int.reduceSub, Int.reduceMul, Int.reduceTDiv, Int.reduceTMod, R7B, take_add, List.append_assoc, List.length_append, Nat.add_assoc, shrink_lit, ball_app, RG, LPB, uv_len, uv_data, uv_p, uv_0, uv_1, uv_2, uv_3, uv_oo, uv_snap, w_0, w_1, w_2, w_o1, w_all, uv_on, uv_og, uv_oh, uv_os, uv_exp, uv_res, urows_len, f1, f2, g, h, beq_self_eq_true, ofR, expCell, List.nodup_cons, List.nodup_nil, List.not_mem_nil, not_false_eq_true, not_true_eq_false, and_true, and_false, if_false, List.mem_cons, mutIds]
      · have h' : ((urow l k).num == n) = false := by rw [beq_eq_false_iff_ne]; exact h
        rw [if_neg h]
        simp only [RB, pickV, eqbV, notV, negV, convV, faddrV, fldV, idxV, eqaggV, iaddrV, isnilV, nilckV, cloV, extrV, slenV, minV, sidxV, abin, cmpInt, params, growLists, fillCells, newAt, rdPtr, wrPtr, AV.cells, asVal, lenOf, boundOf, rowsOf, argIds, freshIn, scalar1, setAll, AV.isData, AV.isYld, Nat.reduceAdd, Nat.reduceMul, Nat.reduceSub, Nat.reduceEqDiff, Nat.reduceLeDiff, Nat.reduceLT, Int.reduceNeg, ↓reduceIte, reduceCtorEq, Int.reduceEq, Int.reduceLT, Int.reduceLE, Int.reduceBEq, Int.reduceBNe, Int.reduceToNat, IntKind.bits, Int.reduceAdd, Int.reduceSub, Int.reduceMul, Int.reduceTDiv, Int.reduceTMod, R7B, take_add, List.append_assoc, List.length_append, Nat.add_assoc, shrink_lit, ball_app, RG, LPB, uv_len, uv_data, uv_p, uv_0, uv_1, uv_2, uv_3, uv_oo, uv_snap, w_0, w_1, w_2, w_o1, w_all, uv_on, uv_og, uv_oh, uv_os, uv_exp, uv_res, urows_len, f1, f2, f6, g, h']
        exact ih (k + 1) (by omega)
    · rw [List.drop_eq_nil_of_le (by omega)]
      simp only [RB, pickV, eqbV, notV, negV, convV, faddrV, fldV, idxV, eqaggV, iaddrV, isnilV, nilckV, cloV, extrV, slenV, minV, sidxV, abin, cmpInt, params, growLists, fillCells, newAt, rdPtr, wrPtr, AV.cells, asVal, lenOf, boundOf, rowsOf, argIds, freshIn, scalar1, setAll, AV.isData, AV.isYld, Nat.reduceAdd, Nat.reduceMul, Nat.reduceSub, Nat.reduceEqDiff, Nat.reduceLeDiff, Nat.reduceLT, Int.reduceNeg, ↓reduceIte, reduceCtorEq, Int.reduceEq, Int.reduceLT, Int.reduceLE, Int.reduceBEq, Int.reduceBNe, Int.reduceToNat, IntKind.bits, Int.reduceAdd, Int.reduceSub, Int.reduceMul, Int.reduceTDiv, Int.reduceTMod, R7B, take_add, List.append_assoc, List.length_append, Nat.add_assoc, shrink_lit, ball_app, RG, LPB, uv_len, uv_data, uv_p, uv_0, uv_1, uv_2, uv_3, uv_oo, uv_snap, w_0, w_1, w_2, w_o1, w_all, uv_on, uv_og, uv_oh, uv_os, uv_exp, uv_res, urows_len, show ¬ (k : Int) < (l.length : Int) by omega, ofR, findU, List.find?_nil, expCell, List.nodup_cons, List.nodup_nil, List.not_mem_nil, not_false_eq_true, not_true_eq_false, and_true, and_false, if_false, List.mem_cons, mutIds]
theorem e20 (now : Int) (p : Pu) (h : PuOk now p) (hn : now ≤ 1099511627776) : LV E 20 [.int .i64 now, .agg (uv p)] = some (.agg (uv (heardU now p))) := by
  obtain ⟨p1, p2, p3, p4, p5, p6, _⟩ := h
  have w1 : IntKind.i64.wrap (now - p.heard) = now - p.heard := by rw [IntWalk.i64_in _ (by omega)]
  have w2 : IntKind.i64.wrap (p.good + 1) = p.good + 1 := by rw [IntWalk.i64_in _ (by omega)]
  have h30 := e30 now p
  rw [w1] at h30
  rw [LV_R (fn := f20) rfl rfl rfl]
  simp only [f20, ← uv_zer, RB, pickV, eqbV, notV, negV, convV, faddrV, fldV, idxV, eqaggV, iaddrV, isnilV, nilckV, cloV, extrV, slenV, minV, sidxV, abin, cmpInt, params, growLists, fillCells, newAt, rdPtr, wrPtr, AV.cells, asVal, lenOf, boundOf, rowsOf, argIds, freshIn, scalar1, setAll, AV.isData, AV.isYld, Nat.reduceAdd, Nat.reduceMul, Nat.reduceSub, Nat.reduceEqDiff, Nat.reduceLeDiff, Nat.reduceLT, Int.reduceNeg, ↓reduceIte, reduceCtorEq, Int.reduceEq, Int.reduceLT, Int.reduceLE, Int.reduceBEq, Int.reduceBNe, Int.reduceToNat, IntKind.bits, Int.reduceAdd, Int.reduceSub, Int.reduceMul, Int.reduceTDiv, Int.reduceTMod, R7B, take_add, List.append_assoc, List.length_append, Nat.add_assoc, shrink_lit, ball_app, RG, LPB, uv_len, uv_data, uv_p, uv_0, uv_1, uv_2, uv_3, uv_oo, uv_snap, w_0, w_1, w_2, w_o1, w_all, uv_on, uv_og, uv_oh, uv_os, uv_exp, uv_res, urows_len, h30]
  unfold heardU goodU
  have k : ∀ x y z w : Int, [AV.int .i64 x, .int .i64 y, .int .i64 z, .int .i64 w] = uv ⟨x, y, z, w⟩ := fun _ _ _ _ => rfl
  have s2 : p.st = 2 ∨ ((p.st == 2) = false ∧ p.st ≠ 2) := by
    by_cases h : p.st = 2
    · exact .inl h
    · exact .inr ⟨by rw [beq_eq_false_iff_ne]; exact h, h⟩
  by_cases d1 : now - p.heard ≤ 4
  · by_cases d2 : 3 < p.good + 1
    · simp only [RB, pickV, eqbV, notV, negV, convV, faddrV, fldV, idxV, eqaggV, iaddrV, isnilV, nilckV, cloV, extrV, slenV, minV, sidxV, abin, cmpInt, params, growLists, fillCells, newAt, rdPtr, wrPtr, AV.cells, asVal, lenOf, boundOf, rowsOf, argIds, freshIn, scalar1, setAll, AV.isData, AV.isYld, Nat.reduceAdd, Nat.reduceMul, Nat.reduceSub, Nat.reduceEqDiff, Nat.reduceLeDiff, Nat.reduceLT, Int.reduceNeg, ↓reduceIte, reduceCtorEq, Int.reduceEq, Int.reduceLT, Int.reduceLE, Int.reduceBEq, Int.reduceBNe, Int.reduceToNat, IntKind.bits, Int.reduceAdd, Int.reduceSub, Int.reduceMul, Int.reduceTDiv, Int.reduceTMod, R7B, take_add, List.append_assoc, List.length_append, Nat.add_assoc, shrink_lit, ball_app, RG, LPB, uv_len, uv_data, uv_p, uv_0, uv_1, uv_2, uv_3, uv_oo, uv_snap, w_0, w_1, w_2, w_o1, w_all, uv_on, uv_og, uv_oh, uv_os, uv_exp, uv_res, urows_len, d1, d2, w2, expCell, List.nodup_cons, List.nodup_nil, List.not_mem_nil, not_false_eq_true, not_true_eq_false, and_true, and_false, if_false, List.mem_cons, mutIds]
    · have s3 : p.good + 1 = 3 ∨ ((p.good + 1 == 3) = false ∧ p.good + 1 ≠ 3) := by
        by_cases h : p.good + 1 = 3
        · exact .inl h
        · exact .inr ⟨by rw [beq_eq_false_iff_ne]; exact h, h⟩
      rcases s3 with s3 | ⟨s3, s3'⟩
      · simp only [RB, pickV, eqbV, notV, negV, convV, faddrV, fldV, idxV, eqaggV, iaddrV, isnilV, nilckV, cloV, extrV, slenV, minV, sidxV, abin, cmpInt, params, growLists, fillCells, newAt, rdPtr, wrPtr, AV.cells, asVal, lenOf, boundOf, rowsOf, argIds, freshIn, scalar1, setAll, AV.isData, AV.isYld, Nat.reduceAdd, Nat.reduceMul, Nat.reduceSub, Nat.reduceEqDiff, Nat.reduceLeDiff, Nat.reduceLT, Int.reduceNeg, ↓reduceIte, reduceCtorEq, Int.reduceEq, Int.reduceLT, Int.reduceLE, Int.reduceBEq, Int.reduceBNe, Int.reduceToNat, IntKind.bits, Int.reduceAdd, Int.reduceSub, Int.reduceMul, Int.reduceTDiv, Int.reduceTMod, R7B, take_add, List.append_assoc, List.length_append, Nat.add_assoc, shrink_lit, ball_app, RG, LPB, uv_len, uv_data, uv_p, uv_0, uv_1, uv_2, uv_3, uv_oo, uv_snap, w_0, w_1, w_2, w_o1, w_all, uv_on, uv_og, uv_oh, uv_os, uv_exp, uv_res, urows_len, d1, w2, s3, expCell, List.nodup_cons, List.nodup_nil, List.not_mem_nil, not_false_eq_true, not_true_eq_false, and_true, and_false, if_false, List.mem_cons, mutIds]
      · rcases s2 with s2 | ⟨s2, s2'⟩
        · simp only [RB, pickV, eqbV, notV, negV, convV, faddrV, fldV, idxV, eqaggV, iaddrV, isnilV, nilckV, cloV, extrV, slenV, minV, sidxV, abin, cmpInt, params, growLists, fillCells, newAt, rdPtr, wrPtr, AV.cells, asVal, lenOf, boundOf, rowsOf, argIds, freshIn, scalar1, setAll, AV.isData, AV.isYld, Nat.reduceAdd, Nat.reduceMul, Nat.reduceSub, Nat.reduceEqDiff, Nat.reduceLeDiff, Nat.reduceLT, Int.reduceNeg, ↓reduceIte, reduceCtorEq, Int.reduceEq, Int.reduceLT, Int.reduceLE, Int.reduceBEq, Int.reduceBNe, Int.reduceToNat, IntKind.bits, Int.reduceAdd, Int.reduceSub, Int.reduceMul, Int.reduceTDiv, Int.reduceTMod, R7B, take_add, List.append_assoc, List.length_append, Nat.add_assoc, shrink_lit, ball_app, RG, LPB, uv_len, uv_data, uv_p, uv_0, uv_1, uv_2, uv_3, uv_oo, uv_snap, w_0, w_1, w_2, w_o1, w_all, uv_on, uv_og, uv_oh, uv_os, uv_exp, uv_res, urows_len, d1, d2, w2, s3, s3', s2, expCell, List.nodup_cons, List.nodup_nil, List.not_mem_nil, not_false_eq_true, not_true_eq_false, and_true, and_false, if_false, List.mem_cons, mutIds]
        · simp only [RB, pickV, eqbV, notV, negV, convV, faddrV, fldV, idxV, eqaggV, iaddrV, isnilV, nilckV, cloV, extrV, slenV, minV, sidxV, abin, cmpInt, params, growLists, fillCells, newAt, rdPtr, wrPtr, AV.cells, asVal, lenOf, boundOf, rowsOf, argIds, freshIn, scalar1, setAll, AV.isData, AV.isYld, Nat.reduceAdd, Nat.reduceMul, Nat.reduceSub, Nat.reduceEqDiff, Nat.reduceLeDiff, Nat.reduceLT, Int.reduceNeg, ↓reduceIte, reduceCtorEq, Int.reduceEq, Int.reduceLT, Int.reduceLE, Int.reduceBEq, Int.reduceBNe, Int.reduceToNat, IntKind.bits, Int.reduceAdd, Int.reduceSub, Int.reduceMul, Int.reduceTDiv, Int.reduceTMod, R7B, take_add, List.append_assoc, List.length_append, Nat.add_assoc, shrink_lit, ball_app, RG, LPB, uv_len, uv_data, uv_p, uv_0, uv_1, uv_2, uv_3, uv_oo, uv_snap, w_0, w_1, w_2, w_o1, w_all, uv_on, uv_og, uv_oh, uv_os, uv_exp, uv_res, urows_len, d1, d2, w2, s3, s3', s2, s2', expCell, List.nodup_cons, List.nodup_nil, List.not_mem_nil, not_false_eq_true, not_true_eq_false, and_true, and_false, if_false, List.mem_cons, mutIds]
  · rcases s2 with s2 | ⟨s2, s2'⟩
    · simp only [RB, pickV, eqbV, notV, negV, convV, faddrV, fldV, idxV, eqaggV, iaddrV, isnilV, nilckV, cloV, extrV, slenV, minV, sidxV, abin, cmpInt, params, growLists, fillCells, newAt, rdPtr, wrPtr, AV.cells, asVal, lenOf, boundOf, rowsOf, argIds, freshIn, scalar1, setAll, AV.isData, AV.isYld, Nat.reduceAdd, Nat.reduceMul, Nat.reduceSub, Nat.reduceEqDiff, Nat.reduceLeDiff, Nat.reduceLT, Int.reduceNeg, ↓reduceIte, reduceCtorEq, Int.reduceEq, Int.reduceLT, Int.reduceLE, Int.reduceBEq, Int.reduceBNe, Int.reduceToNat, IntKind.bits, Int.reduceAdd, Int.reduceSub, Int.reduceMul, Int.reduceTDiv, Int.reduceTMod, R7B, take_add, List.append_assoc, List.length_append, Nat.add_assoc, shrink_lit, ball_app, RG, LPB, uv_len, uv_data, uv_p, uv_0, uv_1, uv_2, uv_3, uv_oo, uv_snap, w_0, w_1, w_2, w_o1, w_all, uv_on, uv_og, uv_oh, uv_os, uv_exp, uv_res, urows_len, d1, s2, expCell, List.nodup_cons, List.nodup_nil, List.not_mem_nil, not_false_eq_true, not_true_eq_false, and_true, and_false, if_false, List.mem_cons, mutIds]
    · simp only [RB, pickV, eqbV, notV, negV, convV, faddrV, fldV, idxV, eqaggV, iaddrV, isnilV, nilckV, cloV, extrV, slenV, minV, sidxV, abin, cmpInt, params, growLists, fillCells, newAt, rdPtr, wrPtr, AV.cells, asVal, lenOf, boundOf, rowsOf, argIds, freshIn, scalar1, setAll, AV.isData, AV.isYld, Nat.reduceAdd, Nat.reduceMul, Nat.reduceSub, Nat.reduceEqDiff, Nat.reduceLeDiff, Nat.reduceLT, Int.reduceNeg, ↓reduceIte, reduceCtorEq, Int.reduceEq, Int.reduceLT, Int.reduceLE, Int.reduceBEq, Int.reduceBNe, Int.reduceToNat, IntKind.bits, Int.reduceAdd, Int.reduceSub, Int.reduceMul, Int.reduceTDiv, Int.reduceTMod, R7B, take_add, List.append_assoc, List.length_append, Nat.add_assoc, shrink_lit, ball_app, RG, LPB, uv_len, uv_data, uv_p, uv_0, uv_1, uv_2, uv_3, uv_oo, uv_snap, w_0, w_1, w_2, w_o1, w_all, uv_on, uv_og, uv_oh, uv_os, uv_exp, uv_res, urows_len, d1, s2, s2', expCell, List.nodup_cons, List.nodup_nil, List.not_mem_nil, not_false_eq_true, not_true_eq_false, and_true, and_false, if_false, List.mem_cons, mutIds]
theorem e21 (now : Int) (l : List Pu) (n : Int) (hl : l.length ≤ 1000000) : LV E 21 [.agg [.int .i64 now, .ro (urows l)], .int .i64 n] = some (.agg [.int .i64 now, .ro (urows (dropU l n))]) := by
  rw [LV_R (fn := f21) rfl rfl rfl]
  simp only [f21, ← uv_zer, RB, pickV, eqbV, notV, negV, convV, faddrV, fldV, idxV, eqaggV, iaddrV, isnilV, nilckV, cloV, extrV, slenV, minV, sidxV, abin, cmpInt, params, growLists, fillCells, newAt, rdPtr, wrPtr, AV.cells, asVal, lenOf, boundOf, rowsOf, argIds, freshIn, scalar1, setAll, AV.isData, AV.isYld, Nat.reduceAdd, Nat.reduceMul, Nat.reduceSub, Nat.reduceEqDiff, Nat.reduceLeDiff, Nat.reduceLT, Int.reduceNeg, ↓reduceIte, reduceCtorEq, Int.reduceEq, Int.reduceLT, Int.reduceLE, Int.reduceBEq, Int.reduceBNe, Int.reduceToNat, IntKind.bits, Int.reduceAdd, Int.reduceSub, Int.reduceMul, Int.reduceTDiv, Int.reduceTMod, R7B, take_add, List.append_assoc, List.length_append, Nat.add_assoc, shrink_lit, ball_app, RG, LPB, uv_len, uv_data, uv_p, uv_0, uv_1, uv_2, uv_3, uv_oo, uv_snap, w_0, w_1, w_2, w_o1, w_all, uv_on, uv_og, uv_oh, uv_os, uv_exp, uv_res, urows_len]
  refine (W_rec2 (β := AV) (ι := {k : Nat // k ≤ l.length}) (M := fun k => [(1, .int .i64 n), (2, .ptr 0 0 0 0), (4, .ptr 1 0 0 0), (5, .ptr 4 0 0 0), (6, .int .i64 (k.1 : Int))])
    (H := fun k => ⟨[.box 0 24 [.int .i64 now, .ro (urows l)], .box 0 24 [.int .i64 0, .lis 2 0 0 0], .lst 0 0 40 4 [], .lst 0 (dropU (l.take k.1) n).length 40 4 (urows (dropU (l.take k.1) n)), .box 0 24 [.int .i64 now, .lis 3 (dropU (l.take k.1) n).length 0 (dropU (l.take k.1) n).length], .lst 0 0 40 4 []], []⟩)
    (r := fun _ => some (.agg [.int .i64 now, .ro (urows (dropU l n))])) (μ := fun k => l.length - k.1) (fun i => ?_) (fun k ih => ?_) ⟨0, Nat.zero_le _⟩ rfl rfl)
  · simp [LPB]
  · obtain ⟨k, hkl⟩ := k
    simp only at ih ⊢
    by_cases hk : k < l.length
    · have f1 : (k : Int) < (l.length : Int) := by omega
      have f2 : (0 : Int) ≤ (k : Int) := by omega
      have f6 : IntKind.i64.wrap ((k : Int) + 1) = ((k + 1 : Nat) : Int) := by rw [IntWalk.i64_in _ (by omega)] <;> omega
      have g := urows_get l hk
      have ih := ih ⟨k + 1, hk⟩ (by simp only; omega)
      simp only [dropU_next l n hk] at ih
      have hz : (dropU (l.take k) n).length ≤ k := by unfold dropU; exact Nat.le_trans (List.length_filter_le _ _) (by rw [List.length_take]; exact Nat.min_le_left _ _)
      by_cases h : (urow l k).num = n
      · simp only [if_pos h] at ih
        simp only [RB, pickV, eqbV, notV, negV, convV, faddrV, fldV, idxV, eqaggV, iaddrV, isnilV, nilckV, cloV, extrV, slenV, minV, sidxV, abin, cmpInt, params, growLists, fillCells, newAt, rdPtr, wrPtr, AV.cells, asVal, lenOf, boundOf, rowsOf, argIds, freshIn, scalar1, setAll, AV.isData, AV.isYld, Nat.reduceAdd, Nat.reduceMul, Nat.reduceSub, Nat.reduceEqDiff, Nat.reduceLeDiff, Nat.reduceLT, Int.reduceNeg, ↓reduceIte, reduceCtorEq, Int.reduceEq, Int.reduceLT, Int.reduceLE, Int.reduceBEq, Int.reduceBNe, Int.reduceToNat, IntKind.bits, Int.reduceAdd, Int.reduceSub, Int.reduceMul, Int.reduceTDiv, Int.reduceTMod, R7B, take_add, List.append_assoc, List.length_append, Nat.add_assoc, shrink_lit, ball_app, RG, LPB, uv_len, uv_data, uv_p, uv_0, uv_1, uv_2, uv_3, uv_oo, uv_snap, w_0, w_1, w_2, w_o1, w_all, uv_on, uv_og, uv_oh, uv_os, uv_exp, uv_res, urows_len, f1, f2, f6, g, h, bne_self_eq_false]
        exact ih
      · simp only [if_neg h, urows_sn, List.length_append, List.length_cons, List.length_nil, Nat.zero_add] at ih
        have h' : ((urow l k).num != n) = true := by rw [bne_iff_ne]; exact h
        generalize dropU (l.take k) n = Z at *
        have f7 : (Z.length + 1) * 32 ≤ 140737488355328 := by omega
        have f8 : Z.length ≤ 4611686018427387903 := by omega
        have f12 : ∀ r, headFits 4 [uv r] = true := fun r => rfl
        simp only [RB, pickV, eqbV, notV, negV, convV, faddrV, fldV, idxV, eqaggV, iaddrV, isnilV, nilckV, cloV, extrV, slenV, minV, sidxV, abin, cmpInt, params, growLists, fillCells, newAt, rdPtr, wrPtr, AV.cells, asVal, lenOf, boundOf, rowsOf, argIds, freshIn, scalar1, setAll, AV.isData, AV.isYld, Nat.reduceAdd, Nat.reduceMul, Nat.reduceSub, Nat.reduceEqDiff, Nat.reduceLeDiff, Nat.reduceLT, Int.reduceNeg, ↓reduceIte, reduceCtorEq, Int.reduceEq, Int.reduceLT, Int.reduceLE, Int.reduceBEq, Int.reduceBNe, Int.reduceToNat, IntKind.bits, Int.reduceAdd, Int.reduceSub, Int.reduceMul, Int.reduceTDiv, Int.reduceTMod, R7B, take_add, List.append_assoc, List.length_append, Nat.add_assoc, shrink_lit, ball_app, RG, LPB, uv_len, uv_data, uv_p, uv_0, uv_1, uv_2, uv_3, uv_oo, uv_snap, w_0, w_1, w_2, w_o1, w_all, uv_on, uv_og, uv_oh, uv_os, uv_exp, uv_res, urows_len, f1, f2, f6, g, h', O_buildSlq, quietOk, aop_buildSl, fillRows, asData, aappend, uv_data, f7, f8, f12, urows_all', Nat.le_refl]
        exact ih
    · have e : k = l.length := by omega
      subst e
      rw [List.take_length]
      simp only [RB, pickV, eqbV, notV, negV, convV, faddrV, fldV, idxV, eqaggV, iaddrV, isnilV, nilckV, cloV, extrV, slenV, minV, sidxV, abin, cmpInt, params, growLists, fillCells, newAt, rdPtr, wrPtr, AV.cells, asVal, lenOf, boundOf, rowsOf, argIds, freshIn, scalar1, setAll, AV.isData, AV.isYld, Nat.reduceAdd, Nat.reduceMul, Nat.reduceSub, Nat.reduceEqDiff, Nat.reduceLeDiff, Nat.reduceLT, Int.reduceNeg, ↓reduceIte, reduceCtorEq, Int.reduceEq, Int.reduceLT, Int.reduceLE, Int.reduceBEq, Int.reduceBNe, Int.reduceToNat, IntKind.bits, Int.reduceAdd, Int.reduceSub, Int.reduceMul, Int.reduceTDiv, Int.reduceTMod, R7B, take_add, List.append_assoc, List.length_append, Nat.add_assoc, shrink_lit, ball_app, RG, LPB, uv_len, uv_data, uv_p, uv_0, uv_1, uv_2, uv_3, uv_oo, uv_snap, w_0, w_1, w_2, w_o1, w_all, uv_on, uv_og, uv_oh, uv_os, uv_exp, uv_res, urows_len, show ¬ (l.length : Int) < (l.length : Int) by omega, expCell, List.nodup_cons, List.nodup_nil, List.not_mem_nil, not_false_eq_true, not_true_eq_false, and_true, and_false, if_false, List.mem_cons, mutIds, expRes_wat, urows_all', Nat.le_refl]
theorem e19 (now : Int) (l : List Pu) (x : Pu) (hl : l.length ≤ 1000000) : LV E 19 [.agg [.int .i64 now, .ro (urows l)], .agg (uv x)] = some (.agg [.int .i64 now, .ro (urows (withU l x 8))]) := by
  rw [LV_R (fn := f19) rfl rfl rfl]
  simp only [f19, ← uv_zer, RB, pickV, eqbV, notV, negV, convV, faddrV, fldV, idxV, eqaggV, iaddrV, isnilV, nilckV, cloV, extrV, slenV, minV, sidxV, abin, cmpInt, params, growLists, fillCells, newAt, rdPtr, wrPtr, AV.cells, asVal, lenOf, boundOf, rowsOf, argIds, freshIn, scalar1, setAll, AV.isData, AV.isYld, Nat.reduceAdd, Nat.reduceMul, Nat.reduceSub, Nat.reduceEqDiff, Nat.reduceLeDiff, Nat.reduceLT, Int.reduceNeg, ↓reduceIte, reduceCtorEq, Int.reduceEq, Int.reduceLT, Int.reduceLE, Int.reduceBEq, Int.reduceBNe, Int.reduceToNat, IntKind.bits, Int.reduceAdd, Int.reduceSub, Int.reduceMul, Int.reduceTDiv, Int.reduceTMod, R7B, take_add, List.append_assoc, List.length_append, Nat.add_assoc, shrink_lit, ball_app, RG, LPB, uv_len, uv_data, uv_p, uv_0, uv_1, uv_2, uv_3, uv_oo, uv_snap, w_0, w_1, w_2, w_o1, w_all, uv_on, uv_og, uv_oh, uv_os, uv_exp, uv_res, urows_len]
  refine (W_rec2 (β := AV) (ι := {k : Nat // k ≤ 8}) (M := fun k => [(2, .ptr 0 0 0 0), (3, .ptr 1 0 0 0), (4, .ptr 2 0 0 0), (5, .ptr 5 0 0 0), (6, .int .i64 ((k.1 : Int) + 1))])
    (H := fun k => ⟨[.box 0 24 [.int .i64 now, .ro (urows l)], .box 0 40 (uv x), .box 0 24 [.int .i64 0, .lis 3 0 0 0], .lst 0 0 40 4 [], .lst 0 (withU l x k.1).length 40 4 (urows (withU l x k.1)), .box 0 24 [.int .i64 now, .lis 4 (withU l x k.1).length 0 (withU l x k.1).length], .lst 0 0 40 4 []], []⟩)
    (r := fun _ => some (.agg [.int .i64 now, .ro (urows (withU l x 8))])) (μ := fun k => 8 - k.1) (fun i => ?_) (fun k ih => ?_) ⟨0, Nat.zero_le _⟩ rfl rfl)
  · simp [LPB]
  · obtain ⟨k, hkl⟩ := k
    simp only at ih ⊢
    by_cases hk : k < 8
    · have f1 : (k : Int) + 1 ≤ 8 := by omega
      have f6 : IntKind.i64.wrap ((k : Int) + 1 + 1) = ((k + 1 : Nat) : Int) + 1 := by rw [IntWalk.i64_in _ (by omega)]; omega
      have ih := ih ⟨k + 1, hk⟩ (by simp only; omega)
      simp only [withU_next l x k] at ih
      have hz := withU_len l x k
      have h18 := e18 now l ((k : Int) + 1) hl
      generalize withU l x k = Z at *
      have f7 : (Z.length + 1) * 32 ≤ 140737488355328 := by omega
      have f8 : Z.length ≤ 4611686018427387903 := by omega
      have f12 : ∀ r, headFits 4 [uv r] = true := fun r => rfl
      unfold pickU at ih
      by_cases h : (k : Int) + 1 = x.num
      · have h' : ((k : Int) + 1 == x.num) = true := by rw [beq_iff_eq]; exact h
        simp only [if_pos h, Option.toList_some, urows_sn, List.length_append, List.length_cons, List.length_nil, Nat.zero_add] at ih
        cases hf : findU l ((k : Int) + 1) with
        | none =>
          rw [hf] at h18
          unfold ofR at h18
          simp only at h18
          simp only [RB, pickV, eqbV, notV, negV, convV, faddrV, fldV, idxV, eqaggV, iaddrV, isnilV, nilckV, cloV, extrV, slenV, minV, sidxV, abin, cmpInt, params, growLists, fillCells, newAt, rdPtr, wrPtr, AV.cells, asVal, lenOf, boundOf, rowsOf, argIds, freshIn, scalar1, setAll, AV.isData, AV.isYld, Nat.reduceAdd, Nat.reduceMul, Nat.reduceSub, Nat.reduceEqDiff, Nat.reduceLeDiff, Nat.reduceLT, Int.reduceNeg, ↓reduceIte, reduceCtorEq, Int.reduceEq, Int.reduceLT, Int.reduceLE, Int.reduceBEq, Int.reduceBNe, Int.reduceToNat, IntKind.bits, Int.reduceAdd, Int.reduceSub, Int.reduceMul, Int.reduceTDiv, Int.reduceTMod, R7B, take_add, List.append_assoc, List.length_append, Nat.add_assoc, shrink_lit, ball_app, RG, LPB, uv_len, uv_data, uv_p, uv_0, uv_1, uv_2, uv_3, uv_oo, uv_snap, w_0, w_1, w_2, w_o1, w_all, uv_on, uv_og, uv_oh, uv_os, uv_exp, uv_res, urows_len, f1, f6, h18, h', O_buildSlq, quietOk, aop_buildSl, fillRows, asData, aappend, uv_data, f7, f8, f12, urows_all', Nat.le_refl]
          exact ih
        | some p =>
          rw [hf] at h18
          unfold ofR at h18
          simp only at h18
          simp only [RB, pickV, eqbV, notV, negV, convV, faddrV, fldV, idxV, eqaggV, iaddrV, isnilV, nilckV, cloV, extrV, slenV, minV, sidxV, abin, cmpInt, params, growLists, fillCells, newAt, rdPtr, wrPtr, AV.cells, asVal, lenOf, boundOf, rowsOf, argIds, freshIn, scalar1, setAll, AV.isData, AV.isYld, Nat.reduceAdd, Nat.reduceMul, Nat.reduceSub, Nat.reduceEqDiff, Nat.reduceLeDiff, Nat.reduceLT, Int.reduceNeg, ↓reduceIte, reduceCtorEq, Int.reduceEq, Int.reduceLT, Int.reduceLE, Int.reduceBEq, Int.reduceBNe, Int.reduceToNat, IntKind.bits, Int.reduceAdd, Int.reduceSub, Int.reduceMul, Int.reduceTDiv, Int.reduceTMod, R7B, take_add, List.append_assoc, List.length_append, Nat.add_assoc, shrink_lit, ball_app, RG, LPB, uv_len, uv_data, uv_p, uv_0, uv_1, uv_2, uv_3, uv_oo, uv_snap, w_0, w_1, w_2, w_o1, w_all, uv_on, uv_og, uv_oh, uv_os, uv_exp, uv_res, urows_len, f1, f6, h18, h', O_buildSlq, quietOk, aop_buildSl, fillRows, asData, aappend, uv_data, f7, f8, f12, urows_all', Nat.le_refl]
          exact ih
      · have h' : ((k : Int) + 1 == x.num) = false := by rw [beq_eq_false_iff_ne]; exact h
        simp only [if_neg h] at ih
        cases hf : findU l ((k : Int) + 1) with
        | none =>
          rw [hf] at h18 ih
          unfold ofR at h18
          simp only [Option.toList_none, List.append_nil] at h18 ih
          simp only [RB, pickV, eqbV, notV, negV, convV, faddrV, fldV, idxV, eqaggV, iaddrV, isnilV, nilckV, cloV, extrV, slenV, minV, sidxV, abin, cmpInt, params, growLists, fillCells, newAt, rdPtr, wrPtr, AV.cells, asVal, lenOf, boundOf, rowsOf, argIds, freshIn, scalar1, setAll, AV.isData, AV.isYld, Nat.reduceAdd, Nat.reduceMul, Nat.reduceSub, Nat.reduceEqDiff, Nat.reduceLeDiff, Nat.reduceLT, Int.reduceNeg, ↓reduceIte, reduceCtorEq, Int.reduceEq, Int.reduceLT, Int.reduceLE, Int.reduceBEq, Int.reduceBNe, Int.reduceToNat, IntKind.bits, Int.reduceAdd, Int.reduceSub, Int.reduceMul, Int.reduceTDiv, Int.reduceTMod, R7B, take_add, List.append_assoc, List.length_append, Nat.add_assoc, shrink_lit, ball_app, RG, LPB, uv_len, uv_data, uv_p, uv_0, uv_1, uv_2, uv_3, uv_oo, uv_snap, w_0, w_1, w_2, w_o1, w_all, uv_on, uv_og, uv_oh, uv_os, uv_exp, uv_res, urows_len, f1, f6, h18, h']
          exact ih
        | some p =>
          rw [hf] at h18 ih
          unfold ofR at h18
          simp only [Option.toList_some, urows_sn, List.length_append, List.length_cons, List.length_nil, Nat.zero_add] at h18 ih
          simp only [RB, pickV, eqbV, notV, negV, convV, faddrV, fldV, idxV, eqaggV, iaddrV, isnilV, nilckV, cloV, extrV, slenV, minV, sidxV, abin, cmpInt, params, growLists, fillCells, newAt, rdPtr, wrPtr, AV.cells, asVal, lenOf, boundOf, rowsOf, argIds, freshIn, scalar1, setAll, AV.isData, AV.isYld, Nat.reduceAdd, Nat.reduceMul, Nat.reduceSub, Nat.reduceEqDiff, Nat.reduceLeDiff, Nat.reduceLT, Int.reduceNeg, ↓reduceIte, reduceCtorEq, Int.reduceEq, Int.reduceLT, Int.reduceLE, Int.reduceBEq, Int.reduceBNe, Int.reduceToNat, IntKind.bits, Int.reduceAdd, Int.reduceSub, Int.reduceMul, Int.reduceTDiv, Int.reduceTMod, R7B, take_add, List.append_assoc, List.length_append, Nat.add_assoc, shrink_lit, ball_app, RG, LPB, uv_len, uv_data, uv_p, uv_0, uv_1, uv_2, uv_3, uv_oo, uv_snap, w_0, w_1, w_2, w_o1, w_all, uv_on, uv_og, uv_oh, uv_os, uv_exp, uv_res, urows_len, f1, f6, h18, h', O_buildSlq, quietOk, aop_buildSl, fillRows, asData, aappend, uv_data, f7, f8, f12, urows_all', Nat.le_refl]
          exact ih
    · have e : k = 8 := by omega
      subst e
      simp only [RB, pickV, eqbV, notV, negV, convV, faddrV, fldV, idxV, eqaggV, iaddrV, isnilV, nilckV, cloV, extrV, slenV, minV, sidxV, abin, cmpInt, params, growLists, fillCells, newAt, rdPtr, wrPtr, AV.cells, asVal, lenOf, boundOf, rowsOf, argIds, freshIn, scalar1, setAll, AV.isData, AV.isYld, Nat.reduceAdd, Nat.reduceMul, Nat.reduceSub, Nat.reduceEqDiff, Nat.reduceLeDiff, Nat.reduceLT, Int.reduceNeg, ↓reduceIte, reduceCtorEq, Int.reduceEq, Int.reduceLT, Int.reduceLE, Int.reduceBEq, Int.reduceBNe, Int.reduceToNat, IntKind.bits, Int.reduceAdd, Int.reduceSub, Int.reduceMul, Int.reduceTDiv, Int.reduceTMod, R7B, take_add, List.append_assoc, List.length_append, Nat.add_assoc, shrink_lit, ball_app, RG, LPB, uv_len, uv_data, uv_p, uv_0, uv_1, uv_2, uv_3, uv_oo, uv_snap, w_0, w_1, w_2, w_o1, w_all, uv_on, uv_og, uv_oh, uv_os, uv_exp, uv_res, urows_len, show ¬ ((8 : Nat) : Int) + 1 ≤ 8 by omega, expCell, List.nodup_cons, List.nodup_nil, List.not_mem_nil, not_false_eq_true, not_true_eq_false, and_true, and_false, if_false, List.mem_cons, mutIds, expRes_wat, urows_all', Nat.le_refl]
theorem e12 (now now' : Int) (a b : List Pu) (ha : a.length ≤ 4611686018427387904) : LV E 12 [.agg [.int .i64 now, .ro (urows a)], .agg [.int .i64 now', .ro (urows b)]] = some (.bool (decide (now = now' ∧ a = b))) := by
  rw [LV_R (fn := f12) rfl rfl rfl]
  simp only [f12, RB, pickV, eqbV, notV, negV, convV, faddrV, fldV, idxV, eqaggV, iaddrV, isnilV, nilckV, cloV, extrV, slenV, minV, sidxV, abin, cmpInt, params, growLists, fillCells, newAt, rdPtr, wrPtr, AV.cells, asVal, lenOf, boundOf, rowsOf, argIds, freshIn, scalar1, setAll, AV.isData, AV.isYld, Nat.reduceAdd, Nat.reduceMul, Nat.reduceSub, Nat.reduceEqDiff, Nat.reduceLeDiff, Nat.reduceLT, Int.reduceNeg, ↓reduceIte, reduceCtorEq, Int.reduceEq, Int.reduceLT, Int.reduceLE, Int.reduceBEq, Int.reduceBNe, Int.reduceToNat, IntKind.bits, Int.reduceAdd, Int.reduceSub, Int.reduceMul, Int.reduceTDiv, Int.reduceTMod, R7B, take_add, List.append_assoc, List.length_append, Nat.add_assoc, shrink_lit, ball_app, RG, LPB, uv_len, uv_data, uv_p, uv_0, uv_1, uv_2, uv_3, uv_oo, uv_snap, w_0, w_1, w_2, w_o1, w_all, uv_on, uv_og, uv_oh, uv_os, uv_exp, uv_res, urows_len]
  by_cases h0 : now = now'
  · subst h0
    by_cases hl : a.length = b.length
    · simp only [RB, pickV, eqbV, notV, negV, convV, faddrV, fldV, idxV, eqaggV, iaddrV, isnilV, nilckV, cloV, extrV, slenV, minV, sidxV, abin, cmpInt, params, growLists, fillCells, newAt, rdPtr, wrPtr, AV.cells, asVal, lenOf, boundOf, rowsOf, argIds, freshIn, scalar1, setAll, AV.isData, AV.isYld, Nat.reduceAdd, Nat.reduceMul, Nat.reduceSub, Nat.reduceEqDiff, Nat.reduceLeDiff, Nat.reduceLT, Int.reduceNeg, ↓reduceIte, reduceCtorEq, Int.reduceEq, Int.reduceLT, Int.reduceLE, Int.reduceBEq, Int.reduceBNe, Int.reduceToNat, IntKind.bits, Int.reduceAdd, Int.reduceSub, Int.reduceMul, Int.reduceTDiv, Int.reduceTMod, R7B, take_add, List.append_assoc, List.length_append, Nat.add_assoc, shrink_lit, ball_app, RG, LPB, uv_len, uv_data, uv_p, uv_0, uv_1, uv_2, uv_3, uv_oo, uv_snap, w_0, w_1, w_2, w_o1, w_all, uv_on, uv_og, uv_oh, uv_os, uv_exp, uv_res, urows_len, hl, bne_self_eq_false, true_and]
      have hq : decide (a = b) = decide (AllF (fun i => urow a i = urow b i) b.length 0) := decide_eq_decide.2 (by rw [← hl]; exact (usame_iff hl).symm)
      rw [hq]
      refine (W_rec2 (β := AV) (ι := Nat) (M := fun k => [(2, .ptr 0 0 0 0), (3, .ptr 1 0 0 0), (5, .int .i64 (k : Int))]) (H := fun _ => ⟨[.box 0 24 [.int .i64 now, .ro (urows a)], .box 0 24 [.int .i64 now, .ro (urows b)]], []⟩) (r := fun k => some (AV.bool (decide (AllF (fun i => urow a i = urow b i) b.length k)))) (μ := fun k => b.length - k) (fun i => ?_) (fun k ih => ?_) 0 rfl rfl)
      · simp [LPB]
      · by_cases hk : k < b.length
        · have f1 : (k : Int) < (b.length : Int) := by omega
          have f2 : (0 : Int) ≤ (k : Int) := by omega
          have f6 : IntKind.i64.wrap ((k : Int) + 1) = ((k + 1 : Nat) : Int) := by rw [IntWalk.i64_in _ (by omega)] <;> omega
          have g1 := urows_get a (show k < a.length by omega)
          have g2 := urows_get b hk
          by_cases h : urow a k = urow b k
          · simp only [RB, pickV, eqbV, notV, negV, convV, faddrV, fldV, idxV, eqaggV, iaddrV, isnilV, nilckV, cloV, extrV, slenV, minV, sidxV, abin, cmpInt, params, growLists, fillCells, newAt, rdPtr, wrPtr, AV.cells, asVal, lenOf, boundOf, rowsOf, argIds, freshIn, scalar1, setAll, AV.isData, AV.isYld, Nat.reduceAdd, Nat.reduceMul, Nat.reduceSub, Nat.reduceEqDiff, Nat.reduceLeDiff, Nat.reduceLT, Int.reduceNeg, ↓reduceIte, reduceCtorEq, Int.reduceEq, Int.reduceLT, Int.reduceLE, Int.reduceBEq, Int.reduceBNe, Int.reduceToNat, IntKind.bits, Int.reduceAdd, Int.reduceSub, Int.reduceMul, Int.reduceTDiv, Int.reduceTMod, R7B, take_add, List.append_assoc, List.length_append, Nat.add_assoc, shrink_lit, ball_app, RG, LPB, uv_len, uv_data, uv_p, uv_0, uv_1, uv_2, uv_3, uv_oo, uv_snap, w_0, w_1, w_2, w_o1, w_all, uv_on, uv_og, uv_oh, uv_os, uv_exp, uv_res, urows_len, hl, f1, f2, f6, g1, g2, eq_uv, h]
            rw [ih (k + 1) (by omega)]
            simp only [AllF.next (Q := fun i => urow a i = urow b i) h]
          · simp only [RB, pickV, eqbV, notV, negV, convV, faddrV, fldV, idxV, eqaggV, iaddrV, isnilV, nilckV, cloV, extrV, slenV, minV, sidxV, abin, cmpInt, params, growLists, fillCells, newAt, rdPtr, wrPtr, AV.cells, asVal, lenOf, boundOf, rowsOf, argIds, freshIn, scalar1, setAll, AV.isData, AV.isYld, Nat.reduceAdd, Nat.reduceMul, Nat.reduceSub, Nat.reduceEqDiff, Nat.reduceLeDiff, Nat.reduceLT, Int.reduceNeg, ↓reduceIte, reduceCtorEq, Int.reduceEq, Int.reduceLT, Int.reduceLE, Int.reduceBEq, Int.reduceBNe, Int.reduceToNat, IntKind.bits, Int.reduceAdd, Int.reduceSub, Int.reduceMul, Int.reduceTDiv, Int.reduceTMod, R7B, take_add, List.append_assoc, List.length_append, Nat.add_assoc, shrink_lit, ball_app, RG, LPB, uv_len, uv_data, uv_p, uv_0, uv_1, uv_2, uv_3, uv_oo, uv_snap, w_0, w_1, w_2, w_o1, w_all, uv_on, uv_og, uv_oh, uv_os, uv_exp, uv_res, urows_len, hl, f1, f2, f6, g1, g2, eq_uv, h]
            rw [decide_eq_false (AllF.not (Q := fun i => urow a i = urow b i) hk h)]
        · have f1 : ¬ (k : Int) < (b.length : Int) := by omega
          simp only [RB, pickV, eqbV, notV, negV, convV, faddrV, fldV, idxV, eqaggV, iaddrV, isnilV, nilckV, cloV, extrV, slenV, minV, sidxV, abin, cmpInt, params, growLists, fillCells, newAt, rdPtr, wrPtr, AV.cells, asVal, lenOf, boundOf, rowsOf, argIds, freshIn, scalar1, setAll, AV.isData, AV.isYld, Nat.reduceAdd, Nat.reduceMul, Nat.reduceSub, Nat.reduceEqDiff, Nat.reduceLeDiff, Nat.reduceLT, Int.reduceNeg, ↓reduceIte, reduceCtorEq, Int.reduceEq, Int.reduceLT, Int.reduceLE, Int.reduceBEq, Int.reduceBNe, Int.reduceToNat, IntKind.bits, Int.reduceAdd, Int.reduceSub, Int.reduceMul, Int.reduceTDiv, Int.reduceTMod, R7B, take_add, List.append_assoc, List.length_append, Nat.add_assoc, shrink_lit, ball_app, RG, LPB, uv_len, uv_data, uv_p, uv_0, uv_1, uv_2, uv_3, uv_oo, uv_snap, w_0, w_1, w_2, w_o1, w_all, uv_on, uv_og, uv_oh, uv_os, uv_exp, uv_res, urows_len, hl, f1]
          rw [decide_eq_true (AllF.done (by omega))]
    · have f3 : ((a.length : Int) != (b.length : Int)) = true := by rw [bne_iff_ne]; omega
      simp only [RB, pickV, eqbV, notV, negV, convV, faddrV, fldV, idxV, eqaggV, iaddrV, isnilV, nilckV, cloV, extrV, slenV, minV, sidxV, abin, cmpInt, params, growLists, fillCells, newAt, rdPtr, wrPtr, AV.cells, asVal, lenOf, boundOf, rowsOf, argIds, freshIn, scalar1, setAll, AV.isData, AV.isYld, Nat.reduceAdd, Nat.reduceMul, Nat.reduceSub, Nat.reduceEqDiff, Nat.reduceLeDiff, Nat.reduceLT, Int.reduceNeg, ↓reduceIte, reduceCtorEq, Int.reduceEq, Int.reduceLT, Int.reduceLE, Int.reduceBEq, Int.reduceBNe, Int.reduceToNat, IntKind.bits, Int.reduceAdd, Int.reduceSub, Int.reduceMul, Int.reduceTDiv, Int.reduceTMod, R7B, take_add, List.append_assoc, List.length_append, Nat.add_assoc, shrink_lit, ball_app, RG, LPB, uv_len, uv_data, uv_p, uv_0, uv_1, uv_2, uv_3, uv_oo, uv_snap, w_0, w_1, w_2, w_o1, w_all, uv_on, uv_og, uv_oh, uv_os, uv_exp, uv_res, urows_len, f3, bne_self_eq_false]
      rw [decide_eq_false fun h : a = b => hl (by rw [h])]
  · have f3 : (now != now') = true := bne_iff_ne.2 h0
    simp only [RB, pickV, eqbV, notV, negV, convV, faddrV, fldV, idxV, eqaggV, iaddrV, isnilV, nilckV, cloV, extrV, slenV, minV, sidxV, abin, cmpInt, params, growLists, fillCells, newAt, rdPtr, wrPtr, AV.cells, asVal, lenOf, boundOf, rowsOf, argIds, freshIn, scalar1, setAll, AV.isData, AV.isYld, Nat.reduceAdd, Nat.reduceMul, Nat.reduceSub, Nat.reduceEqDiff, Nat.reduceLeDiff, Nat.reduceLT, Int.reduceNeg, ↓reduceIte, reduceCtorEq, Int.reduceEq, Int.reduceLT, Int.reduceLE, Int.reduceBEq, Int.reduceBNe, Int.reduceToNat, IntKind.bits, Int.reduceAdd, Int.reduceSub, Int.reduceMul, Int.reduceTDiv, Int.reduceTMod, R7B, take_add, List.append_assoc, List.length_append, Nat.add_assoc, shrink_lit, ball_app, RG, LPB, uv_len, uv_data, uv_p, uv_0, uv_1, uv_2, uv_3, uv_oo, uv_snap, w_0, w_1, w_2, w_o1, w_all, uv_on, uv_og, uv_oh, uv_os, uv_exp, uv_res, urows_len, f3]
    rw [decide_eq_false fun h => h0 h.1]
end Go.Proofs.Ytabadcnpmfafnaa.F

/- Peers that come and are heard: the program's rows are the document's. No condition. -/
set_option linter.unusedSimpArgs false
namespace Go.Proofs.Ytabadcnpmfafnaa.D
open Go Go.Proofs.Ytabadcnpmfafnaa.A Go.Proofs.Ytabadcnpmfafnaa.F
def SrtU (l : List Pu) : Prop := l.Pairwise fun a b => a.num < b.num
theorem srt_ext : ∀ {a b : List Pu}, SrtU a → SrtU b → (∀ p, p ∈ a ↔ p ∈ b) → a = b
  | [], [], _, _, _ => rfl
  | [], q :: b, _, _, h => by have := (h q).2 (by simp); simp at this
  | p :: a, [], _, _, h => by have := (h p).1 (by simp); simp at this
  | p :: a, q :: b, ha, hb, h => by
    obtain ⟨ha1, ha2⟩ := List.pairwise_cons.1 ha
    obtain ⟨hb1, hb2⟩ := List.pairwise_cons.1 hb
    have e : p = q := by
      rcases List.mem_cons.1 ((h p).1 (by simp)) with h1 | h1
      · exact h1
      · rcases List.mem_cons.1 ((h q).2 (by simp)) with h2 | h2
        · exact h2.symm
        · have := hb1 p h1; have := ha1 q h2; omega
    subst e
    congr 1
    refine srt_ext ha2 hb2 fun r => ?_
    constructor
    · intro hr
      rcases List.mem_cons.1 ((h r).1 (by simp [hr])) with h1 | h1
      · subst h1; have := ha1 r hr; omega
      · exact h1
    · intro hr
      rcases List.mem_cons.1 ((h r).2 (by simp [hr])) with h1 | h1
      · subst h1; have := hb1 r hr; omega
      · exact h1
theorem RiseU.srt {l : List Pu} (h : RiseU l) : SrtU l := by
  unfold SrtU
  rw [List.pairwise_iff_getElem]
  intro i j hi hj hij
  have e1 := urow_some l hi
  have e2 := urow_some l hj
  rw [List.getElem?_eq_getElem hi] at e1
  rw [List.getElem?_eq_getElem hj] at e2
  rw [Option.some.inj e1, Option.some.inj e2]
  exact h i j hij hj
theorem findU_iff {l : List Pu} (hr : RiseU l) {n : Int} {p : Pu} : findU l n = some p ↔ p ∈ l ∧ p.num = n := by
  constructor
  · intro h
    unfold findU at h
    exact ⟨List.mem_of_find?_eq_some h, by simpa using List.find?_some h⟩
  · rintro ⟨h1, h2⟩
    obtain ⟨i, hi, rfl⟩ := mem_urow h1
    exact find_some hr hi h2
theorem WatOk.mem {now : Int} {l : List Pu} (h : WatOk now l) {p : Pu} (hp : p ∈ l) : PuOk now p := by
  obtain ⟨i, hi, rfl⟩ := mem_urow hp
  exact (h.2 i (Nat.zero_le _) hi).1
theorem pick_num {l : List Pu} {x p : Pu} {n : Int} (h : pickU l x n = some p) : p.num = n := by
  unfold pickU at h
  split at h
  · rename_i h1; cases h; exact h1.symm
  · unfold findU at h; simpa using List.find?_some h
theorem withU_srt (l : List Pu) (x : Pu) (k : Nat) : SrtU (withU l x k) := by
  induction k with
  | zero => exact List.Pairwise.nil
  | succ k ih =>
    rw [withU_next]
    unfold SrtU
    rw [List.pairwise_append]
    refine ⟨ih, ?_, ?_⟩
    · cases pickU l x ((k : Int) + 1) <;> simp
    · intro a ha b hb
      have hb' : pickU l x ((k : Int) + 1) = some b := by
        cases h : pickU l x ((k : Int) + 1) with
        | none => rw [h] at hb; simp at hb
        | some q => rw [h] at hb; simp at hb; rw [hb]
      have h1 := pick_num hb'
      unfold withU at ha
      obtain ⟨j, hj, e⟩ := List.mem_filterMap.1 ha
      have h2 := pick_num e
      have := List.mem_range.1 hj
      omega
theorem withU_mem {now : Int} {l : List Pu} (h : WatOk now l) {x p : Pu} (hx : 1 ≤ x.num ∧ x.num ≤ 8) : p ∈ withU l x 8 ↔ p = x ∨ (p ∈ l ∧ p.num ≠ x.num) := by
  have hr := h.2.rise
  unfold withU
  rw [List.mem_filterMap]
  constructor
  · rintro ⟨j, hj, e⟩
    unfold pickU at e
    split at e
    · cases e; exact .inl rfl
    · rename_i hn
      obtain ⟨h1, h2⟩ := (findU_iff hr).1 e
      exact .inr ⟨h1, by omega⟩
  · have key : ∀ n : Int, 1 ≤ n → n ≤ 8 → ∃ j : Nat, j ∈ List.range 8 ∧ (j : Int) + 1 = n := fun n h1 h2 => ⟨(n - 1).toNat, List.mem_range.2 (by omega), by omega⟩
    rintro (rfl | ⟨h1, h2⟩)
    · obtain ⟨j, hj, e⟩ := key p.num hx.1 hx.2
      exact ⟨j, hj, by unfold pickU; rw [if_pos e]⟩
    · have hp := h.mem h1
      obtain ⟨j, hj, e⟩ := key p.num hp.1 hp.2.1
      exact ⟨j, hj, by unfold pickU; rw [if_neg (by omega), e]; exact (findU_iff hr).2 ⟨h1, rfl⟩⟩
theorem insU_mem {l : List Pu} {x p : Pu} : p ∈ insU l x ↔ p = x ∨ (p ∈ l ∧ p.num ≠ x.num) := by
  unfold insU
  simp only [List.mem_append, List.mem_filter, List.mem_singleton, decide_eq_true_eq]
  constructor
  · rintro ((⟨h1, h2⟩ | h) | ⟨h1, h2⟩)
    · exact .inr ⟨h1, by omega⟩
    · exact .inl h
    · exact .inr ⟨h1, by omega⟩
  · rintro (h | ⟨h1, h2⟩)
    · exact .inl (.inr h)
    · rcases Int.lt_or_lt_of_ne h2 with h3 | h3
      · exact .inl (.inl ⟨h1, h3⟩)
      · exact .inr ⟨h1, h3⟩
theorem insU_srt {l : List Pu} (hr : RiseU l) (x : Pu) : SrtU (insU l x) := by
  unfold insU SrtU
  rw [List.pairwise_append, List.pairwise_append]
  refine ⟨⟨hr.srt.filter _, List.pairwise_singleton _ _, ?_⟩, hr.srt.filter _, ?_⟩
  · intro a ha b hb
    simp only [List.mem_filter, decide_eq_true_eq, List.mem_singleton] at ha hb
    subst hb; exact ha.2
  · intro a ha b hb
    simp only [List.mem_append, List.mem_filter, decide_eq_true_eq, List.mem_singleton] at ha hb
    rcases ha with ha | rfl
    · have := ha.2; have := hb.2; omega
    · exact hb.2
theorem ins_with {now : Int} {l : List Pu} (h : WatOk now l) {x : Pu} (hx : 1 ≤ x.num ∧ x.num ≤ 8) : insU l x = withU l x 8 :=
  srt_ext (insU_srt h.2.rise x) (withU_srt l x 8) fun p => by rw [insU_mem, withU_mem h hx]
theorem hearL_srt {now : Int} {l : List Pu} (hr : RiseU l) (n : Int) : SrtU (hearL now l n) := by
  unfold hearL SrtU
  rw [List.pairwise_map]
  refine hr.srt.imp fun {a b} hab => ?_
  have e : ∀ c : Pu, (if c.num = n then heardU now c else c).num = c.num := fun c => by split <;> rfl
  rw [e, e]; exact hab
theorem hear_with {now : Int} {l : List Pu} (h : WatOk now l) {n : Int} {p : Pu} (hp : p ∈ l) (hn : p.num = n) : hearL now l n = withU l (heardU now p) 8 := by
  have hk := h.mem hp
  have hx : 1 ≤ (heardU now p).num ∧ (heardU now p).num ≤ 8 := ⟨hk.1, hk.2.1⟩
  refine srt_ext (hearL_srt h.2.rise n) (withU_srt l _ 8) fun q => ?_
  rw [withU_mem h hx]
  unfold hearL
  rw [List.mem_map]
  have hpn : (heardU now p).num = n := hn
  rw [hpn]
  constructor
  · rintro ⟨r, hr, rfl⟩
    by_cases hrn : r.num = n
    · rw [if_pos hrn]
      have : r = p := by
        have h1 := (findU_iff h.2.rise).2 ⟨hr, hrn⟩
        have h2 := (findU_iff h.2.rise).2 ⟨hp, hn⟩
        rw [h1] at h2; exact Option.some.inj h2
      exact .inl (by rw [this])
    · rw [if_neg hrn]; exact .inr ⟨hr, hrn⟩
  · rintro (rfl | ⟨h1, h2⟩)
    · exact ⟨p, hp, by rw [if_pos hn]⟩
    · exact ⟨q, h1, by rw [if_neg h2]⟩
end Go.Proofs.Ytabadcnpmfafnaa.D
namespace Go.Proofs.Ytabadcnpmfafnaa.F
open Go Go.Proofs.Ytabadcnpmfafnaa.A Go.Proofs.Ytabadcnpmfafnaa.D
theorem e9 (now : Int) (l : List Pu) (hl : l.length ≤ 1000000) : LV E 9 [.agg [.int .i64 now, .ro (urows l)]] = some (.agg [.int .i64 now, .ro (urows l)]) := by
  rw [LV_R (fn := f9) rfl rfl rfl]
  have f7 : l.length * 32 ≤ 140737488355328 := by omega
  have f8 : l.length ≤ 4611686018427387904 := by omega
  have f12 : headFits 4 (urows l) = true := by cases l <;> rfl
  simp only [f9, ← uv_zer, RB, pickV, eqbV, notV, negV, convV, faddrV, fldV, idxV, eqaggV, iaddrV, isnilV, nilckV, cloV, extrV, slenV, minV, sidxV, abin, cmpInt, params, growLists, fillCells, newAt, rdPtr, wrPtr, AV.cells, asVal, lenOf, boundOf, rowsOf, argIds, freshIn, scalar1, setAll, AV.isData, AV.isYld, Nat.reduceAdd, Nat.reduceMul, Nat.reduceSub, Nat.reduceEqDiff, Nat.reduceLeDiff, Nat.reduceLT, Int.reduceNeg, ↓reduceIte, reduceCtorEq, Int.reduceEq, Int.reduceLT, Int.reduceLE, Int.reduceBEq, Int.reduceBNe, Int.reduceToNat, IntKind.bits, Int.reduceAdd, Int.reduceSub, Int.reduceMul, Int.reduceTDiv, Int.reduceTMod, R7B, take_add, List.append_assoc, List.length_append, Nat.add_assoc, shrink_lit, ball_app, RG, LPB, uv_len, uv_data, uv_p, uv_0, uv_1, uv_2, uv_3, uv_oo, uv_snap, w_0, w_1, w_2, w_o1, w_all, uv_on, uv_og, uv_oh, uv_os, uv_exp, uv_res, urows_len, O_buildSlq, quietOk, aop_buildSl, fillRows, asData, aappend, f7, f8, f12, Nat.zero_add, expCell, List.nodup_cons, List.nodup_nil, List.not_mem_nil, not_false_eq_true, not_true_eq_false, and_true, and_false, if_false, List.mem_cons, mutIds, expRes_wat]
  cases l with
  | nil => simp only [RB, pickV, eqbV, notV, negV, convV, faddrV, fldV, idxV, eqaggV, iaddrV, isnilV, nilckV, cloV, extrV, slenV, minV, sidxV, abin, cmpInt, params, growLists, fillCells, newAt, rdPtr, wrPtr, AV.cells, asVal, lenOf, boundOf, rowsOf, argIds, freshIn, scalar1, setAll, AV.isData, AV.isYld, Nat.reduceAdd, Nat.reduceMul, Nat.reduceSub, Nat.reduceEqDiff, Nat.reduceLeDiff, Nat.reduceLT, Int.reduceNeg, ↓reduceIte, reduceCtorEq, Int.reduceEq, Int.reduceLT, Int.reduceLE, Int.reduceBEq, Int.reduceBNe, Int.reduceToNat, IntKind.bits, Int.reduceAdd, Int.reduceSub, Int.reduceMul, Int.reduceTDiv, Int.reduceTMod, R7B, take_add, List.append_assoc, List.length_append, Nat.add_assoc, shrink_lit, ball_app, RG, LPB, uv_len, uv_data, uv_p, uv_0, uv_1, uv_2, uv_3, uv_oo, uv_snap, w_0, w_1, w_2, w_o1, w_all, uv_on, uv_og, uv_oh, uv_os, uv_exp, uv_res, urows_len, urows_nil, expCell, List.nodup_cons, List.nodup_nil, List.not_mem_nil, not_false_eq_true, not_true_eq_false, and_true, and_false, if_false, List.mem_cons, mutIds, expRes_wat, List.length_nil, show headFits 4 [] = true from rfl]
  | cons r l => simp only [RB, pickV, eqbV, notV, negV, convV, faddrV, fldV, idxV, eqaggV, iaddrV, isnilV, nilckV, cloV, extrV, slenV, minV, sidxV, abin, cmpInt, params, growLists, fillCells, newAt, rdPtr, wrPtr, AV.cells, asVal, lenOf, boundOf, rowsOf, argIds, freshIn, scalar1, setAll, AV.isData, AV.isYld, Nat.reduceAdd, Nat.reduceMul, Nat.reduceSub, Nat.reduceEqDiff, Nat.reduceLeDiff, Nat.reduceLT, Int.reduceNeg, ↓reduceIte, reduceCtorEq, Int.reduceEq, Int.reduceLT, Int.reduceLE, Int.reduceBEq, Int.reduceBNe, Int.reduceToNat, IntKind.bits, Int.reduceAdd, Int.reduceSub, Int.reduceMul, Int.reduceTDiv, Int.reduceTMod, R7B, take_add, List.append_assoc, List.length_append, Nat.add_assoc, shrink_lit, ball_app, RG, LPB, uv_len, uv_data, uv_p, uv_0, uv_1, uv_2, uv_3, uv_oo, uv_snap, w_0, w_1, w_2, w_o1, w_all, uv_on, uv_og, uv_oh, uv_os, uv_exp, uv_res, urows_len, expCell, List.nodup_cons, List.nodup_nil, List.not_mem_nil, not_false_eq_true, not_true_eq_false, and_true, and_false, if_false, List.mem_cons, mutIds, expRes_wat, show headFits 4 [] = true from rfl, show (urows (r :: l)).take (l.length + 1) = urows (r :: l) from urows_all' (r :: l), Nat.le_refl]
theorem uv_take (k : Bool) (s : Nat) (bs : List Blk) (p : Pu) : takeRes k s (.agg (uv p)) bs = some (.agg (uv p), bs) := rfl
theorem uv_mut (p : Pu) : mutIds (uv p) = [] := rfl
theorem hasU_of {l : List Pu} {n : Int} {p : Pu} (h : findU l n = some p) : hasU l n ∧ p ∈ l ∧ p.num = n := by
  unfold findU at h
  have h1 := List.mem_of_find?_eq_some h
  have h2 : p.num = n := by simpa using List.find?_some h
  exact ⟨⟨p, h1, h2⟩, h1, h2⟩
theorem hasU_not {l : List Pu} {n : Int} (h : findU l n = none) : ¬ hasU l n := by
  unfold findU at h
  rw [List.find?_eq_none] at h
  rintro ⟨p, h1, h2⟩
  have := h p h1
  simp [h2] at this
theorem peers (now : Int) (l : List Pu) (n : Int) : LV E 4 [.agg [.int .i64 now, .ro (urows l)], .int .i64 n] = some (.bool true) := by
  rw [LV_R (fn := f4) rfl rfl rfl]
  simp only [f4, ← uv_zer, RB, pickV, eqbV, notV, negV, convV, faddrV, fldV, idxV, eqaggV, iaddrV, isnilV, nilckV, cloV, extrV, slenV, minV, sidxV, abin, cmpInt, params, growLists, fillCells, newAt, rdPtr, wrPtr, AV.cells, asVal, lenOf, boundOf, rowsOf, argIds, freshIn, scalar1, setAll, AV.isData, AV.isYld, Nat.reduceAdd, Nat.reduceMul, Nat.reduceSub, Nat.reduceEqDiff, Nat.reduceLeDiff, Nat.reduceLT, Int.reduceNeg, ↓reduceIte, reduceCtorEq, Int.reduceEq, Int.reduceLT, Int.reduceLE, Int.reduceBEq, Int.reduceBNe, Int.reduceToNat, IntKind.bits, Int.reduceAdd, Int.reduceSub, Int.reduceMul, Int.reduceTDiv, Int.reduceTMod, R7B, take_add, List.append_assoc, List.length_append, Nat.add_assoc, shrink_lit, ball_app, RG, LPB, uv_len, uv_data, uv_p, uv_0, uv_1, uv_2, uv_3, uv_oo, uv_snap, w_0, w_1, w_2, w_o1, w_all, uv_on, uv_og, uv_oh, uv_os, uv_exp, uv_res, urows_len, e8]
  by_cases h1 : (100 : Int) < (l.length : Int)
  · simp only [RB, pickV, eqbV, notV, negV, convV, faddrV, fldV, idxV, eqaggV, iaddrV, isnilV, nilckV, cloV, extrV, slenV, minV, sidxV, abin, cmpInt, params, growLists, fillCells, newAt, rdPtr, wrPtr, AV.cells, asVal, lenOf, boundOf, rowsOf, argIds, freshIn, scalar1, setAll, AV.isData, AV.isYld, Nat.reduceAdd, Nat.reduceMul, Nat.reduceSub, Nat.reduceEqDiff, Nat.reduceLeDiff, Nat.reduceLT, Int.reduceNeg, ↓reduceIte, reduceCtorEq, Int.reduceEq, Int.reduceLT, Int.reduceLE, Int.reduceBEq, Int.reduceBNe, Int.reduceToNat, IntKind.bits, Int.reduceAdd, Int.reduceSub, Int.reduceMul, Int.reduceTDiv, Int.reduceTMod, R7B, take_add, List.append_assoc, List.length_append, Nat.add_assoc, shrink_lit, ball_app, RG, LPB, uv_len, uv_data, uv_p, uv_0, uv_1, uv_2, uv_3, uv_oo, uv_snap, w_0, w_1, w_2, w_o1, w_all, uv_on, uv_og, uv_oh, uv_os, uv_exp, uv_res, urows_len, h1]
  · have hl : l.length ≤ 1000000 := by omega
    have h9 := e9 now l hl
    have h14 := e14 now l n hl
    have h15 := e15 now l n hl
    have h16 := e16 now l n hl
    have h12 := e12 now now l l (by omega)
    have h17 := e17 now l
    have h18 := e18 now l n hl
    unfold tupW at h14 h15
    unfold tupH at h16
    by_cases h2 : WatOk now l
    · have eq1 : decide (now = now ∧ l = l) = true := by simp
      rw [eq1] at h12
      cases hf : findU l n with
      | none =>
        have h3 := hasU_not hf
        unfold dropS at h15
        unfold hearS at h16
        rw [hf] at h18 h16
        rw [if_pos h2, if_neg h3] at h15
        rw [if_pos h2] at h16
        unfold ofR at h18
        unfold addS at h14
        rw [if_pos h2] at h14
        simp only at h15 h16 h18
        by_cases h4 : n < 1
        · rw [if_pos (.inl h4)] at h14
          simp only at h14
          simp only [RB, pickV, eqbV, notV, negV, convV, faddrV, fldV, idxV, eqaggV, iaddrV, isnilV, nilckV, cloV, extrV, slenV, minV, sidxV, abin, cmpInt, params, growLists, fillCells, newAt, rdPtr, wrPtr, AV.cells, asVal, lenOf, boundOf, rowsOf, argIds, freshIn, scalar1, setAll, AV.isData, AV.isYld, Nat.reduceAdd, Nat.reduceMul, Nat.reduceSub, Nat.reduceEqDiff, Nat.reduceLeDiff, Nat.reduceLT, Int.reduceNeg, ↓reduceIte, reduceCtorEq, Int.reduceEq, Int.reduceLT, Int.reduceLE, Int.reduceBEq, Int.reduceBNe, Int.reduceToNat, IntKind.bits, Int.reduceAdd, Int.reduceSub, Int.reduceMul, Int.reduceTDiv, Int.reduceTMod, R7B, take_add, List.append_assoc, List.length_append, Nat.add_assoc, shrink_lit, ball_app, RG, LPB, uv_len, uv_data, uv_p, uv_0, uv_1, uv_2, uv_3, uv_oo, uv_snap, w_0, w_1, w_2, w_o1, w_all, uv_on, uv_og, uv_oh, uv_os, uv_exp, uv_res, urows_len, h1, h2, h4, h9, h14, h15, h16, h12, h17, h18, urows_nil, List.length_nil, uv_mut, bne_self_eq_false, CW_some, scalar, scalar1, lockAll, lockAt, reduceCtorEq, extrV, List.all_cons, List.all_nil, pairOk, AV.ids, List.contains_cons, List.contains_nil, Nat.reduceBEq, List.all_cons, List.all_nil, Bool.or_self, Bool.not_false, Bool.and_self, Bool.or_false]
        · by_cases h5 : 8 < n
          · rw [if_pos (.inr h5)] at h14
            simp only at h14
            simp only [RB, pickV, eqbV, notV, negV, convV, faddrV, fldV, idxV, eqaggV, iaddrV, isnilV, nilckV, cloV, extrV, slenV, minV, sidxV, abin, cmpInt, params, growLists, fillCells, newAt, rdPtr, wrPtr, AV.cells, asVal, lenOf, boundOf, rowsOf, argIds, freshIn, scalar1, setAll, AV.isData, AV.isYld, Nat.reduceAdd, Nat.reduceMul, Nat.reduceSub, Nat.reduceEqDiff, Nat.reduceLeDiff, Nat.reduceLT, Int.reduceNeg, ↓reduceIte, reduceCtorEq, Int.reduceEq, Int.reduceLT, Int.reduceLE, Int.reduceBEq, Int.reduceBNe, Int.reduceToNat, IntKind.bits, Int.reduceAdd, Int.reduceSub, Int.reduceMul, Int.reduceTDiv, Int.reduceTMod, R7B, take_add, List.append_assoc, List.length_append, Nat.add_assoc, shrink_lit, ball_app, RG, LPB, uv_len, uv_data, uv_p, uv_0, uv_1, uv_2, uv_3, uv_oo, uv_snap, w_0, w_1, w_2, w_o1, w_all, uv_on, uv_og, uv_oh, uv_os, uv_exp, uv_res, urows_len, h1, h2, h4, h5, h9, h14, h15, h16, h12, h17, h18, urows_nil, List.length_nil, uv_mut, bne_self_eq_false, CW_some, scalar, scalar1, lockAll, lockAt, reduceCtorEq, extrV, List.all_cons, List.all_nil, pairOk, AV.ids, List.contains_cons, List.contains_nil, Nat.reduceBEq, List.all_cons, List.all_nil, Bool.or_self, Bool.not_false, Bool.and_self, Bool.or_false]
          · rw [if_neg (by omega), if_neg h3] at h14
            simp only at h14
            have h19 := e19 now l ⟨n, now, 0, 0⟩ hl
            have hx : 1 ≤ n ∧ n ≤ 8 := ⟨by omega, by omega⟩
            rw [← ins_with h2 (x := ⟨n, now, 0, 0⟩) hx] at h19
            have hil : (insU l ⟨n, now, 0, 0⟩).length ≤ 4611686018427387904 := by
              rw [ins_with h2 (x := ⟨n, now, 0, 0⟩) hx]
              have := withU_len l ⟨n, now, 0, 0⟩ 8; omega
            have h12b := e12 now now (insU l ⟨n, now, 0, 0⟩) (insU l ⟨n, now, 0, 0⟩) hil
            simp only [RB, pickV, eqbV, notV, negV, convV, faddrV, fldV, idxV, eqaggV, iaddrV, isnilV, nilckV, cloV, extrV, slenV, minV, sidxV, abin, cmpInt, params, growLists, fillCells, newAt, rdPtr, wrPtr, AV.cells, asVal, lenOf, boundOf, rowsOf, argIds, freshIn, scalar1, setAll, AV.isData, AV.isYld, Nat.reduceAdd, Nat.reduceMul, Nat.reduceSub, Nat.reduceEqDiff, Nat.reduceLeDiff, Nat.reduceLT, Int.reduceNeg, ↓reduceIte, reduceCtorEq, Int.reduceEq, Int.reduceLT, Int.reduceLE, Int.reduceBEq, Int.reduceBNe, Int.reduceToNat, IntKind.bits, Int.reduceAdd, Int.reduceSub, Int.reduceMul, Int.reduceTDiv, Int.reduceTMod, R7B, take_add, List.append_assoc, List.length_append, Nat.add_assoc, shrink_lit, ball_app, RG, LPB, uv_len, uv_data, uv_p, uv_0, uv_1, uv_2, uv_3, uv_oo, uv_snap, w_0, w_1, w_2, w_o1, w_all, uv_on, uv_og, uv_oh, uv_os, uv_exp, uv_res, urows_len, h1, h2, h4, h5, h9, h14, h15, h16, h12, h12b, h17, h18, h19, urows_nil, List.length_nil, bne_self_eq_false, zu2, zu3, uv_mut, CW_some, scalar, scalar1, lockAll, lockAt, reduceCtorEq, extrV, List.all_cons, List.all_nil, pairOk, AV.ids, List.contains_cons, List.contains_nil, Nat.reduceBEq, List.all_cons, List.all_nil, Bool.or_self, Bool.not_false, Bool.and_self, Bool.or_false]
      | some p =>
        obtain ⟨h3, hm, hpn⟩ := hasU_of hf
        have hk := h2.mem hm
        have h20 := e20 now p hk h2.1.2
        have h19 := e19 now l (heardU now p) hl
        rw [← hear_with h2 hm hpn] at h19
        have h21 := e21 now l n hl
        have h12b := e12 now now (hearL now l n) (hearL now l n) (by rw [hearL_len]; omega)
        have h12c := e12 now now (dropU l n) (dropU l n) (by have : (dropU l n).length ≤ l.length := List.length_filter_le _ _; omega)
        unfold dropS at h15
        unfold hearS at h16
        rw [hf] at h18 h16
        rw [if_pos h2, if_pos h3] at h15
        rw [if_pos h2] at h16
        unfold ofR at h18
        unfold addS at h14
        rw [if_pos h2, if_neg (by have := hk.1; have := hk.2.1; omega), if_pos h3] at h14
        simp only at h14 h15 h16 h18
        by_cases c1 : (heardU now p).st = 1
        · by_cases c2 : p.st = 1
          · have hc : cameU now p = false := decide_eq_false fun h => h.2 c2
            simp only [RB, pickV, eqbV, notV, negV, convV, faddrV, fldV, idxV, eqaggV, iaddrV, isnilV, nilckV, cloV, extrV, slenV, minV, sidxV, abin, cmpInt, params, growLists, fillCells, newAt, rdPtr, wrPtr, AV.cells, asVal, lenOf, boundOf, rowsOf, argIds, freshIn, scalar1, setAll, AV.isData, AV.isYld, Nat.reduceAdd, Nat.reduceMul, Nat.reduceSub, Nat.reduceEqDiff, Nat.reduceLeDiff, Nat.reduceLT, Int.reduceNeg, ↓reduceIte, reduceCtorEq, Int.reduceEq, Int.reduceLT, Int.reduceLE, Int.reduceBEq, Int.reduceBNe, Int.reduceToNat, IntKind.bits, Int.reduceAdd, Int.reduceSub, Int.reduceMul, Int.reduceTDiv, Int.reduceTMod, R7B, take_add, List.append_assoc, List.length_append, Nat.add_assoc, shrink_lit, ball_app, RG, LPB, uv_len, uv_data, uv_p, uv_0, uv_1, uv_2, uv_3, uv_oo, uv_snap, w_0, w_1, w_2, w_o1, w_all, uv_on, uv_og, uv_oh, uv_os, uv_exp, uv_res, urows_len, h1, h2, h9, h14, h15, h16, h12, h12b, h12c, h17, h18, h19, h20, h21, uv_take, uv_mut, hc, urows_nil, List.length_nil, bne_self_eq_false, c1, c2, CW_some, scalar, scalar1, lockAll, lockAt, reduceCtorEq, extrV, List.all_cons, List.all_nil, pairOk, AV.ids, List.contains_cons, List.contains_nil, Nat.reduceBEq, List.all_cons, List.all_nil, Bool.or_self, Bool.not_false, Bool.and_self, Bool.or_false]
          · have hc : cameU now p = true := decide_eq_true ⟨c1, c2⟩
            have c2 : (p.st != 1) = true := bne_iff_ne.2 c2
            simp only [RB, pickV, eqbV, notV, negV, convV, faddrV, fldV, idxV, eqaggV, iaddrV, isnilV, nilckV, cloV, extrV, slenV, minV, sidxV, abin, cmpInt, params, growLists, fillCells, newAt, rdPtr, wrPtr, AV.cells, asVal, lenOf, boundOf, rowsOf, argIds, freshIn, scalar1, setAll, AV.isData, AV.isYld, Nat.reduceAdd, Nat.reduceMul, Nat.reduceSub, Nat.reduceEqDiff, Nat.reduceLeDiff, Nat.reduceLT, Int.reduceNeg, ↓reduceIte, reduceCtorEq, Int.reduceEq, Int.reduceLT, Int.reduceLE, Int.reduceBEq, Int.reduceBNe, Int.reduceToNat, IntKind.bits, Int.reduceAdd, Int.reduceSub, Int.reduceMul, Int.reduceTDiv, Int.reduceTMod, R7B, take_add, List.append_assoc, List.length_append, Nat.add_assoc, shrink_lit, ball_app, RG, LPB, uv_len, uv_data, uv_p, uv_0, uv_1, uv_2, uv_3, uv_oo, uv_snap, w_0, w_1, w_2, w_o1, w_all, uv_on, uv_og, uv_oh, uv_os, uv_exp, uv_res, urows_len, h1, h2, h9, h14, h15, h16, h12, h12b, h12c, h17, h18, h19, h20, h21, uv_take, uv_mut, hc, urows_nil, List.length_nil, bne_self_eq_false, c1, c2, CW_some, scalar, scalar1, lockAll, lockAt, reduceCtorEq, extrV, List.all_cons, List.all_nil, pairOk, AV.ids, List.contains_cons, List.contains_nil, Nat.reduceBEq, List.all_cons, List.all_nil, Bool.or_self, Bool.not_false, Bool.and_self, Bool.or_false]
        · have hc : cameU now p = false := decide_eq_false fun h => c1 h.1
          have c1 : ((heardU now p).st == 1) = false := by rw [beq_eq_false_iff_ne]; exact c1
          have c2 := 0
          simp only [RB, pickV, eqbV, notV, negV, convV, faddrV, fldV, idxV, eqaggV, iaddrV, isnilV, nilckV, cloV, extrV, slenV, minV, sidxV, abin, cmpInt, params, growLists, fillCells, newAt, rdPtr, wrPtr, AV.cells, asVal, lenOf, boundOf, rowsOf, argIds, freshIn, scalar1, setAll, AV.isData, AV.isYld, Nat.reduceAdd, Nat.reduceMul, Nat.reduceSub, Nat.reduceEqDiff, Nat.reduceLeDiff, Nat.reduceLT, Int.reduceNeg, ↓reduceIte, reduceCtorEq, Int.reduceEq, Int.reduceLT, Int.reduceLE, Int.reduceBEq, Int.reduceBNe, Int.reduceToNat, IntKind.bits, Int.reduceAdd, Int.reduceSub, Int.reduceMul, Int.reduceTDiv, Int.reduceTMod, R7B, take_add, List.append_assoc, List.length_append, Nat.add_assoc, shrink_lit, ball_app, RG, LPB, uv_len, uv_data, uv_p, uv_0, uv_1, uv_2, uv_3, uv_oo, uv_snap, w_0, w_1, w_2, w_o1, w_all, uv_on, uv_og, uv_oh, uv_os, uv_exp, uv_res, urows_len, h1, h2, h9, h14, h15, h16, h12, h12b, h12c, h17, h18, h19, h20, h21, uv_take, uv_mut, hc, urows_nil, List.length_nil, bne_self_eq_false, c1, CW_some, scalar, scalar1, lockAll, lockAt, reduceCtorEq, extrV, List.all_cons, List.all_nil, pairOk, AV.ids, List.contains_cons, List.contains_nil, Nat.reduceBEq, List.all_cons, List.all_nil, Bool.or_self, Bool.not_false, Bool.and_self, Bool.or_false]
    · unfold addS at h14
      unfold dropS at h15
      unfold hearS at h16
      rw [if_neg h2] at h14 h15 h16
      simp only at h14 h15 h16
      have eq1 : decide (now = now ∧ l = l) = true := by simp
      rw [eq1] at h12
      simp only [RB, pickV, eqbV, notV, negV, convV, faddrV, fldV, idxV, eqaggV, iaddrV, isnilV, nilckV, cloV, extrV, slenV, minV, sidxV, abin, cmpInt, params, growLists, fillCells, newAt, rdPtr, wrPtr, AV.cells, asVal, lenOf, boundOf, rowsOf, argIds, freshIn, scalar1, setAll, AV.isData, AV.isYld, Nat.reduceAdd, Nat.reduceMul, Nat.reduceSub, Nat.reduceEqDiff, Nat.reduceLeDiff, Nat.reduceLT, Int.reduceNeg, ↓reduceIte, reduceCtorEq, Int.reduceEq, Int.reduceLT, Int.reduceLE, Int.reduceBEq, Int.reduceBNe, Int.reduceToNat, IntKind.bits, Int.reduceAdd, Int.reduceSub, Int.reduceMul, Int.reduceTDiv, Int.reduceTMod, R7B, take_add, List.append_assoc, List.length_append, Nat.add_assoc, shrink_lit, ball_app, RG, LPB, uv_len, uv_data, uv_p, uv_0, uv_1, uv_2, uv_3, uv_oo, uv_snap, w_0, w_1, w_2, w_o1, w_all, uv_on, uv_og, uv_oh, uv_os, uv_exp, uv_res, urows_len, h1, h2, h9, h14, h15, h16, h12, h17, urows_nil, List.length_nil, CW_some, scalar, scalar1, lockAll, lockAt, reduceCtorEq, extrV, List.all_cons, List.all_nil, pairOk, AV.ids, List.contains_cons, List.contains_nil, Nat.reduceBEq, List.all_cons, List.all_nil, Bool.or_self, Bool.not_false, Bool.and_self, Bool.or_false]
      done
end Go.Proofs.Ytabadcnpmfafnaa.F

/- Arguments that are read: flat structs, slices of flat things. No condition. -/
set_option linter.unusedSimpArgs false
set_option maxRecDepth 20000
namespace Go.Proofs.Ytabadcnpmfafnaa.D
open Go Go.RowKit Go.Proofs.Ytabadcnpmfafnaa.A Go.Proofs.Ytabadcnpmfafnaa.J
variable {w : World} {P : Program} {t : TypeId} {v : Value}
def I64 (n : Int) : Prop := -9223372036854775808 ≤ n ∧ n ≤ 9223372036854775807
theorem plain_one {u : Value} (h : plainV u = true) : u.oneCell' = true := by cases u <;> first | rfl | cases h
theorem rep_flat {ks : List CK} {cs : List Value} (h : Fits ks cs) : Rep w (Old w) [] [] [] (.agg (cs.map avOf)) (.agg cs.toArray) :=
  .agg _ _ (by simp) (fun u hu => plain_one (fits_plain h u hu)) (avOf_repL (fits_plain h)).2
/-- A flat struct. -/
theorem reads_flat {fs : Array Field} {n : Nat} {ks : List CK} (h : Reads P w t v) (ht : P.underlying t = some (.struct fs)) (hf : flat P n t = some ks) : ∃ cs, Fits ks cs ∧ Rep w (Old w) [] [] [] (.agg (cs.map avOf)) v := by
  obtain ⟨cs, rfl, hr⟩ := h.agg ht
  exact ⟨cs, hr.flat hf, rep_flat (hr.flat hf)⟩
theorem rdc_slice {e : TypeId} {k : Nat} {α : Type} {enc : α → List AV} {ok : α → Prop} {n : Nat} {ks : List CK} {a : Option Addr} {css : List (List Value)} {cap : Nat} (hk : 0 < k) (hc : css.length ≤ cap) (hs : SlC w k a css) (hcs : ∀ c ∈ css, RdC P w e c) (hf : flat P n e = some ks) (hfit : ∀ cs, Fits ks cs → ∃ x : α, cs.map avOf = enc x ∧ ok x) :
    ∃ l : List α, l.length = css.length ∧ (∀ x ∈ l, ok x) ∧ Rep w (Old w) [] [] [] (.ro (l.map enc)) (.slice a css.length cap) := by
  have key : ∀ css : List (List Value), (∀ c ∈ css, RdC P w e c) → ∃ l : List α, l.length = css.length ∧ (∀ x ∈ l, ok x) ∧ css.map (·.map avOf) = l.map enc := by
    intro css
    induction css with
    | nil => exact fun _ => ⟨[], rfl, by simp, rfl⟩
    | cons c css ih =>
      intro h
      obtain ⟨l, h1, h2, h3⟩ := ih fun x hx => h x (List.mem_cons_of_mem _ hx)
      obtain ⟨x, h4, h5⟩ := hfit c ((h c List.mem_cons_self).flat hf)
      exact ⟨x :: l, by simp [h1], fun y hy => by
        rcases List.mem_cons.1 hy with rfl | hy
        · exact h5
        · exact h2 y hy, by simp only [List.map_cons, h4, h3]⟩
  obtain ⟨l, h1, h2, h3⟩ := key css hcs
  exact ⟨l, h1, h2, h3 ▸ slice_rep hk hs hc fun c hc u hu => fits_plain ((hcs c hc).flat hf) u hu⟩
theorem maxLen_le : maxLen ≤ 9223372036854775807 := by decide
/-- A slice of flat things. -/
theorem reads_slice {e : TypeId} {k : Nat} {α : Type} {enc : α → List AV} {ok : α → Prop} {n : Nat} {ks : List CK} (h : Reads P w t v) (ht : P.underlying t = some (.slice e)) (hk : k = P.cellsOf e) (hpos : 0 < k) (hf : flat P n e = some ks) (hfit : ∀ cs, Fits ks cs → ∃ x : α, cs.map avOf = enc x ∧ ok x) :
    ∃ l : List α, l.length ≤ 9223372036854775807 ∧ (∀ x ∈ l, ok x) ∧ Rep w (Old w) [] [] [] (.ro (l.map enc)) v := by
  obtain ⟨a, cap, css, rfl, h1, h2, h3, h4⟩ := h.slice ht hk hpos
  obtain ⟨l, h5, h6, h7⟩ := rdc_slice hpos h1 h3 h4 hf hfit
  exact ⟨l, by have := maxLen_le; omega, h6, h7⟩
theorem fits_int {cs : List Value} (h : Fits [.i .i64] cs) : ∃ n : Int, cs.map avOf = [.int .i64 n] ∧ I64 n := by
  obtain ⟨c, rfl⟩ := List.length_eq_one_iff.1 h.length.symm
  obtain ⟨⟨n, hc, hn⟩, _⟩ := h
  subst hc; exact ⟨n, rfl, wf_i64 hn⟩
/-- A struct of one slice of flat things. -/
theorem reads_one {e ts : TypeId} {k : Nat} {α : Type} {enc : α → List AV} {ok : α → Prop} {n : Nat} {ks : List CK} {f : Field} (h : Reads P w t v) (ht : P.underlying t = some (.struct #[f])) (hoff : f.offset = 0) (hty : f.type = ts) (hc1 : P.cellsOf t = 1) (hc2 : P.cellsOf ts = 1) (hts : P.underlying ts = some (.slice e)) (hk : k = P.cellsOf e) (hpos : 0 < k) (hf : flat P n e = some ks) (hfit : ∀ cs, Fits ks cs → ∃ x : α, cs.map avOf = enc x ∧ ok x) :
    ∃ l : List α, l.length ≤ 9223372036854775807 ∧ (∀ x ∈ l, ok x) ∧ Rep w (Old w) [] [] [] (.agg [.ro (l.map enc)]) v := by
  obtain ⟨cs, rfl, hr⟩ := h.agg ht
  obtain ⟨h1, h2⟩ := hr.struct ht
  rw [hc1] at h1
  obtain ⟨c, rfl⟩ := List.length_eq_one_iff.1 h1
  have h3 := h2 f (by simp)
  rw [hoff, hty, hc2] at h3
  obtain ⟨a, cap, css, h4, h5, h6, h7, h8⟩ := h3.slice hts hk hpos
  simp at h4
  subst h4
  obtain ⟨l, h9, h10, h11⟩ := rdc_slice hpos h5 h7 h8 hf hfit
  refine ⟨l, by have := maxLen_le; omega, h10, .agg _ _ rfl (by simp [Value.oneCell']) fun i x u hx hu => ?_⟩
  cases i with
  | zero =>
    simp at hx hu
    subst hx; subst hu
    exact h11
  | succ i => simp at hx
/-- A struct of a number and a slice of flat things. -/
theorem reads_num_slice {kd : IntKind} {e ts tn : TypeId} {k : Nat} {α : Type} {enc : α → List AV} {ok : α → Prop} {n : Nat} {ks : List CK} {f g : Field} (h : Reads P w t v) (ht : P.underlying t = some (.struct #[f, g])) (hf0 : f.offset = 0) (hft : f.type = tn) (hg1 : g.offset = 1) (hgt : g.type = ts) (hc2 : P.cellsOf t = 2) (hcn : P.cellsOf tn = 1) (hcs : P.cellsOf ts = 1)
    (htn : P.underlying tn = some (.int kd)) (hts : P.underlying ts = some (.slice e)) (hk : k = P.cellsOf e) (hpos : 0 < k) (hf : flat P n e = some ks) (hfit : ∀ cs, Fits ks cs → ∃ x : α, cs.map avOf = enc x ∧ ok x) :
    ∃ (m : Int) (l : List α), l.length ≤ 9223372036854775807 ∧ (∀ x ∈ l, ok x) ∧ Rep w (Old w) [] [] [] (.agg [.int kd m, .ro (l.map enc)]) v := by
  obtain ⟨cs, rfl, hr⟩ := h.agg ht
  obtain ⟨h1, h2⟩ := hr.struct ht
  rw [hc2] at h1
  obtain ⟨c, d, rfl⟩ : ∃ c d, cs = [c, d] := by
    match cs, h1 with
    | [c, d], _ => exact ⟨c, d, rfl⟩
  have h3 := h2 f (by simp)
  rw [hf0, hft, hcn] at h3
  have h4 := h2 g (by simp)
  rw [hg1, hgt, hcs] at h4
  simp only [List.drop_succ_cons, List.drop_zero, List.take_succ_cons, List.take_zero] at h3 h4
  obtain ⟨m, hm, hw⟩ := RdC.int h3 htn
  simp at hm
  subst hm
  obtain ⟨a, cap, css, h5, h6, h7, h8, h9⟩ := h4.slice hts hk hpos
  simp at h5
  subst h5
  obtain ⟨l, k1, k2, k3⟩ := rdc_slice hpos h6 h8 h9 hf hfit
  refine ⟨m, l, by have := maxLen_le; omega, k2, .agg _ _ rfl (by simp [Value.oneCell']) fun i x u hx hu => ?_⟩
  match i with
  | 0 => simp at hx hu; subst hx; subst hu; exact .int _ _
  | 1 => simp at hx hu; subst hx; subst hu; exact k3
  | i + 2 => simp at hx
end Go.Proofs.Ytabadcnpmfafnaa.D

/- Watches that are read. No condition. -/
set_option linter.unusedSimpArgs false
namespace Go.Proofs.Ytabadcnpmfafnaa.D
open Go Go.RowKit Go.Proofs.Ytabadcnpmfafnaa.A Go.Proofs.Ytabadcnpmfafnaa.J
theorem fits_pu {cs : List Value} (h : Fits [.i .i64, .i .i64, .i .i64, .i .i64] cs) : ∃ p : Pu, cs.map avOf = uv p ∧ True := by
  obtain ⟨x0, x1, x2, x3, rfl⟩ : ∃ x0 x1 x2 x3, cs = [x0, x1, x2, x3] := by
    have h4 := h.length
    match cs, h4 with
    | [x0, x1, x2, x3], _ => exact ⟨x0, x1, x2, x3, rfl⟩
  obtain ⟨⟨n1, e1, _⟩, ⟨n2, e2, _⟩, ⟨n3, e3, _⟩, ⟨n4, e4, _⟩, _⟩ := h
  subst e1 e2 e3 e4
  exact ⟨⟨n1, n2, n3, n4⟩, rfl, trivial⟩
end Go.Proofs.Ytabadcnpmfafnaa.D
namespace Go.Proofs.Ytabadcnpmfafnaa
open Go Go.RowKit Go.Proofs.Ytabadcnpmfafnaa.A Go.Proofs.Ytabadcnpmfafnaa.D Go.Proofs.Ytabadcnpmfafnaa.J
theorem reads_wat {W : World} {v : Value} (h : Reads Try.prog W 24 v) : ∃ (now : Int) (l : List Pu), Rep W (Old W) [] [] [] (.agg [.int .i64 now, .ro (urows l)]) v := by
  obtain ⟨m, l, _, _, hr⟩ := reads_num_slice (α := Pu) (enc := uv) (ok := fun _ => True) (k := 4) (n := 2) h Try.underlying24 rfl rfl rfl rfl (by kernel_rfl) (by kernel_rfl) (by kernel_rfl) Try.underlying2 Try.underlying22 (by kernel_rfl) (by decide) (by kernel_rfl) (fun cs h => fits_pu h)
  exact ⟨m, l, hr⟩
theorem gNone {W : World} : GOk F.G W (Old W) := fun g row h => by cases h
end Go.Proofs.Ytabadcnpmfafnaa

/- slices.Equal of peers' rows, beat.Same, same of numbers, beat.State. No condition. -/
set_option linter.unusedSimpArgs false
namespace Go.Proofs.Ytabadcnpmfafnaa.D
open Go Go.Proofs.Ytabadcnpmfafnaa.A Go.Proofs.Ytabadcnpmfafnaa.F
def nums (l : List Int) : List (List AV) := l.map fun n => [.int .i64 n]
theorem nums_len (l : List Int) : (nums l).length = l.length := by simp [nums]
def nrow (l : List Int) (i : Nat) : Int := l.getD i 0
theorem nrow_some (l : List Int) {i : Nat} (h : i < l.length) : l[i]? = some (nrow l i) := by simp [nrow, List.getD_eq_getElem?_getD, h]
theorem nums_get (l : List Int) {i : Nat} (h : i < l.length) : (nums l)[i]? = some [.int .i64 (nrow l i)] := by
  rw [nums, List.getElem?_map, nrow_some l h]; rfl
theorem nums_sn (l : List Int) (n : Int) : nums (l ++ [n]) = nums l ++ [[.int .i64 n]] := by simp [nums]
theorem nums_all (l : List Int) : (nums l).take l.length = nums l := by rw [← nums_len, List.take_length]
theorem nsame_iff {a b : List Int} (h : a.length = b.length) : AllF (fun i => nrow a i = nrow b i) a.length 0 ↔ a = b := by
  constructor
  · intro H
    refine List.ext_getElem? fun i => ?_
    by_cases hi : i < a.length
    · rw [nrow_some a hi, nrow_some b (by omega), H i (Nat.zero_le _) hi]
    · rw [List.getElem?_eq_none (by omega), List.getElem?_eq_none (by omega)]
  · rintro rfl i _ _; rfl
end Go.Proofs.Ytabadcnpmfafnaa.D
namespace Go.Proofs.Ytabadcnpmfafnaa.F
open Go Go.Proofs.Ytabadcnpmfafnaa.A Go.Proofs.Ytabadcnpmfafnaa.D
theorem e44 (a b : List Pu) (ha : a.length ≤ 4611686018427387904) : LV E 44 [.ro (urows a), .ro (urows b)] = some (.bool (decide (a = b))) := by
  rw [LV_R (fn := f44) rfl rfl rfl]
  simp only [f44, RB, pickV, eqbV, notV, negV, convV, faddrV, fldV, idxV, eqaggV, iaddrV, isnilV, nilckV, cloV, extrV, slenV, minV, sidxV, abin, cmpInt, params, growLists, fillCells, newAt, rdPtr, wrPtr, AV.cells, asVal, lenOf, boundOf, rowsOf, argIds, freshIn, scalar1, setAll, AV.isData, AV.isYld, Nat.reduceAdd, Nat.reduceMul, Nat.reduceSub, Nat.reduceEqDiff, Nat.reduceLeDiff, Nat.reduceLT, Int.reduceNeg, ↓reduceIte, reduceCtorEq, Int.reduceEq, Int.reduceLT, Int.reduceLE, Int.reduceBEq, Int.reduceBNe, Int.reduceToNat, IntKind.bits, Int.reduceAdd, Int.reduceSub, Int.reduceMul, Int.reduceTDiv, Int.reduceTMod, R7B, take_add, List.append_assoc, List.length_append, Nat.add_assoc, shrink_lit, ball_app, RG, LPB, uv_len, uv_data, uv_p, uv_0, uv_1, uv_2, uv_3, uv_oo, uv_snap, w_0, w_1, w_2, w_o1, w_all, uv_on, uv_og, uv_oh, uv_os, uv_exp, uv_res, urows_len]
  by_cases hl : a.length = b.length
  · simp only [RB, pickV, eqbV, notV, negV, convV, faddrV, fldV, idxV, eqaggV, iaddrV, isnilV, nilckV, cloV, extrV, slenV, minV, sidxV, abin, cmpInt, params, growLists, fillCells, newAt, rdPtr, wrPtr, AV.cells, asVal, lenOf, boundOf, rowsOf, argIds, freshIn, scalar1, setAll, AV.isData, AV.isYld, Nat.reduceAdd, Nat.reduceMul, Nat.reduceSub, Nat.reduceEqDiff, Nat.reduceLeDiff, Nat.reduceLT, Int.reduceNeg, ↓reduceIte, reduceCtorEq, Int.reduceEq, Int.reduceLT, Int.reduceLE, Int.reduceBEq, Int.reduceBNe, Int.reduceToNat, IntKind.bits, Int.reduceAdd, Int.reduceSub, Int.reduceMul, Int.reduceTDiv, Int.reduceTMod, R7B, take_add, List.append_assoc, List.length_append, Nat.add_assoc, shrink_lit, ball_app, RG, LPB, uv_len, uv_data, uv_p, uv_0, uv_1, uv_2, uv_3, uv_oo, uv_snap, w_0, w_1, w_2, w_o1, w_all, uv_on, uv_og, uv_oh, uv_os, uv_exp, uv_res, urows_len, hl, bne_self_eq_false]
    have hq : decide (a = b) = decide (AllF (fun i => urow a i = urow b i) b.length 0) := decide_eq_decide.2 (by rw [← hl]; exact (usame_iff hl).symm)
    rw [hq]
    refine (W_rec2 (β := AV) (ι := Nat) (M := fun k => [(0, .ro (urows a)), (1, .ro (urows b)), (12, .int .i64 (b.length : Int)), (13, .int .i64 (k : Int))]) (H := fun _ => ⟨[], []⟩) (r := fun k => some (AV.bool (decide (AllF (fun i => urow a i = urow b i) b.length k)))) (μ := fun k => b.length - k) (fun i => ?_) (fun k ih => ?_) 0 rfl rfl)
    · simp [LPB]
    · by_cases hk : k < b.length
      · have f1 : (k : Int) < (b.length : Int) := by omega
        have f2 : (0 : Int) ≤ (k : Int) := by omega
        have f6 : IntKind.i64.wrap ((k : Int) + 1) = ((k + 1 : Nat) : Int) := by rw [IntWalk.i64_in _ (by omega)] <;> omega
        have g1 := urows_get a (show k < a.length by omega)
        have g2 := urows_get b hk
        by_cases h : urow a k = urow b k
        · simp only [RB, pickV, eqbV, notV, negV, convV, faddrV, fldV, idxV, eqaggV, iaddrV, isnilV, nilckV, cloV, extrV, slenV, minV, sidxV, abin, cmpInt, params, growLists, fillCells, newAt, rdPtr, wrPtr, AV.cells, asVal, lenOf, boundOf, rowsOf, argIds, freshIn, scalar1, setAll, AV.isData, AV.isYld, Nat.reduceAdd, Nat.reduceMul, Nat.reduceSub, Nat.reduceEqDiff, Nat.reduceLeDiff, Nat.reduceLT, Int.reduceNeg, ↓reduceIte, reduceCtorEq, Int.reduceEq, Int.reduceLT, Int.reduceLE, Int.reduceBEq, Int.reduceBNe, Int.reduceToNat, IntKind.bits, Int.reduceAdd, Int.reduceSub, Int.reduceMul, Int.reduceTDiv, Int.reduceTMod, R7B, take_add, List.append_assoc, List.length_append, Nat.add_assoc, shrink_lit, ball_app, RG, LPB, uv_len, uv_data, uv_p, uv_0, uv_1, uv_2, uv_3, uv_oo, uv_snap, w_0, w_1, w_2, w_o1, w_all, uv_on, uv_og, uv_oh, uv_os, uv_exp, uv_res, urows_len, hl, f1, f2, f6, g1, g2, eq_uv, h]
          rw [ih (k + 1) (by omega)]
          simp only [AllF.next (Q := fun i => urow a i = urow b i) h]
        · simp only [RB, pickV, eqbV, notV, negV, convV, faddrV, fldV, idxV, eqaggV, iaddrV, isnilV, nilckV, cloV, extrV, slenV, minV, sidxV, abin, cmpInt, params, growLists, fillCells, newAt, rdPtr, wrPtr, AV.cells, asVal, lenOf, boundOf, rowsOf, argIds, freshIn, scalar1, setAll, AV.isData, AV.isYld, Nat.reduceAdd, Nat.reduceMul, Nat.reduceSub, Nat.reduceEqDiff, Nat.reduceLeDiff, Nat.reduceLT, Int.reduceNeg, ↓reduceIte, reduceCtorEq, Int.reduceEq, Int.reduceLT, Int.reduceLE, Int.reduceBEq, Int.reduceBNe, Int.reduceToNat, IntKind.bits, Int.reduceAdd, Int.reduceSub, Int.reduceMul, Int.reduceTDiv, Int.reduceTMod, R7B, take_add, List.append_assoc, List.length_append, Nat.add_assoc, shrink_lit, ball_app, RG, LPB, uv_len, uv_data, uv_p, uv_0, uv_1, uv_2, uv_3, uv_oo, uv_snap, w_0, w_1, w_2, w_o1, w_all, uv_on, uv_og, uv_oh, uv_os, uv_exp, uv_res, urows_len, hl, f1, f2, f6, g1, g2, eq_uv, h]
          rw [decide_eq_false (AllF.not (Q := fun i => urow a i = urow b i) hk h)]
      · have f1 : ¬ (k : Int) < (b.length : Int) := by omega
        simp only [RB, pickV, eqbV, notV, negV, convV, faddrV, fldV, idxV, eqaggV, iaddrV, isnilV, nilckV, cloV, extrV, slenV, minV, sidxV, abin, cmpInt, params, growLists, fillCells, newAt, rdPtr, wrPtr, AV.cells, asVal, lenOf, boundOf, rowsOf, argIds, freshIn, scalar1, setAll, AV.isData, AV.isYld, Nat.reduceAdd, Nat.reduceMul, Nat.reduceSub, Nat.reduceEqDiff, Nat.reduceLeDiff, Nat.reduceLT, Int.reduceNeg, ↓reduceIte, reduceCtorEq, Int.reduceEq, Int.reduceLT, Int.reduceLE, Int.reduceBEq, Int.reduceBNe, Int.reduceToNat, IntKind.bits, Int.reduceAdd, Int.reduceSub, Int.reduceMul, Int.reduceTDiv, Int.reduceTMod, R7B, take_add, List.append_assoc, List.length_append, Nat.add_assoc, shrink_lit, ball_app, RG, LPB, uv_len, uv_data, uv_p, uv_0, uv_1, uv_2, uv_3, uv_oo, uv_snap, w_0, w_1, w_2, w_o1, w_all, uv_on, uv_og, uv_oh, uv_os, uv_exp, uv_res, urows_len, hl, f1]
        rw [decide_eq_true (AllF.done (by omega))]
  · have f3 : ((a.length : Int) != (b.length : Int)) = true := by rw [bne_iff_ne]; omega
    simp only [RB, pickV, eqbV, notV, negV, convV, faddrV, fldV, idxV, eqaggV, iaddrV, isnilV, nilckV, cloV, extrV, slenV, minV, sidxV, abin, cmpInt, params, growLists, fillCells, newAt, rdPtr, wrPtr, AV.cells, asVal, lenOf, boundOf, rowsOf, argIds, freshIn, scalar1, setAll, AV.isData, AV.isYld, Nat.reduceAdd, Nat.reduceMul, Nat.reduceSub, Nat.reduceEqDiff, Nat.reduceLeDiff, Nat.reduceLT, Int.reduceNeg, ↓reduceIte, reduceCtorEq, Int.reduceEq, Int.reduceLT, Int.reduceLE, Int.reduceBEq, Int.reduceBNe, Int.reduceToNat, IntKind.bits, Int.reduceAdd, Int.reduceSub, Int.reduceMul, Int.reduceTDiv, Int.reduceTMod, R7B, take_add, List.append_assoc, List.length_append, Nat.add_assoc, shrink_lit, ball_app, RG, LPB, uv_len, uv_data, uv_p, uv_0, uv_1, uv_2, uv_3, uv_oo, uv_snap, w_0, w_1, w_2, w_o1, w_all, uv_on, uv_og, uv_oh, uv_os, uv_exp, uv_res, urows_len, f3]
    rw [decide_eq_false fun h : a = b => hl (by rw [h])]
theorem e13 (a b : List Int) (ha : a.length ≤ 4611686018427387904) : LV E 13 [.ro (nums a), .ro (nums b)] = some (.bool (decide (a = b))) := by
  rw [LV_R (fn := f13) rfl rfl rfl]
  simp only [f13, RB, pickV, eqbV, notV, negV, convV, faddrV, fldV, idxV, eqaggV, iaddrV, isnilV, nilckV, cloV, extrV, slenV, minV, sidxV, abin, cmpInt, params, growLists, fillCells, newAt, rdPtr, wrPtr, AV.cells, asVal, lenOf, boundOf, rowsOf, argIds, freshIn, scalar1, setAll, AV.isData, AV.isYld, Nat.reduceAdd, Nat.reduceMul, Nat.reduceSub, Nat.reduceEqDiff, Nat.reduceLeDiff, Nat.reduceLT, Int.reduceNeg, ↓reduceIte, reduceCtorEq, Int.reduceEq, Int.reduceLT, Int.reduceLE, Int.reduceBEq, Int.reduceBNe, Int.reduceToNat, IntKind.bits, Int.reduceAdd, Int.reduceSub, Int.reduceMul, Int.reduceTDiv, Int.reduceTMod, R7B, take_add, List.append_assoc, List.length_append, Nat.add_assoc, shrink_lit, ball_app, RG, LPB, uv_len, uv_data, uv_p, uv_0, uv_1, uv_2, uv_3, uv_oo, uv_snap, w_0, w_1, w_2, w_o1, w_all, uv_on, uv_og, uv_oh, uv_os, uv_exp, uv_res, urows_len, nums_len]
  by_cases hl : a.length = b.length
  · simp only [RB, pickV, eqbV, notV, negV, convV, faddrV, fldV, idxV, eqaggV, iaddrV, isnilV, nilckV, cloV, extrV, slenV, minV, sidxV, abin, cmpInt, params, growLists, fillCells, newAt, rdPtr, wrPtr, AV.cells, asVal, lenOf, boundOf, rowsOf, argIds, freshIn, scalar1, setAll, AV.isData, AV.isYld, Nat.reduceAdd, Nat.reduceMul, Nat.reduceSub, Nat.reduceEqDiff, Nat.reduceLeDiff, Nat.reduceLT, Int.reduceNeg, ↓reduceIte, reduceCtorEq, Int.reduceEq, Int.reduceLT, Int.reduceLE, Int.reduceBEq, Int.reduceBNe, Int.reduceToNat, IntKind.bits, Int.reduceAdd, Int.reduceSub, Int.reduceMul, Int.reduceTDiv, Int.reduceTMod, R7B, take_add, List.append_assoc, List.length_append, Nat.add_assoc, shrink_lit, ball_app, RG, LPB, uv_len, uv_data, uv_p, uv_0, uv_1, uv_2, uv_3, uv_oo, uv_snap, w_0, w_1, w_2, w_o1, w_all, uv_on, uv_og, uv_oh, uv_os, uv_exp, uv_res, urows_len, nums_len, hl, bne_self_eq_false]
    have hq : decide (a = b) = decide (AllF (fun i => nrow a i = nrow b i) b.length 0) := decide_eq_decide.2 (by rw [← hl]; exact (nsame_iff hl).symm)
    rw [hq]
    refine (W_rec2 (β := AV) (ι := Nat) (M := fun k => [(0, .ro (nums a)), (1, .ro (nums b)), (12, .int .i64 (b.length : Int)), (13, .int .i64 (k : Int))]) (H := fun _ => ⟨[], []⟩) (r := fun k => some (AV.bool (decide (AllF (fun i => nrow a i = nrow b i) b.length k)))) (μ := fun k => b.length - k) (fun i => ?_) (fun k ih => ?_) 0 rfl rfl)
    · simp [LPB]
    · by_cases hk : k < b.length
      · have f1 : (k : Int) < (b.length : Int) := by omega
        have f2 : (0 : Int) ≤ (k : Int) := by omega
        have f6 : IntKind.i64.wrap ((k : Int) + 1) = ((k + 1 : Nat) : Int) := by rw [IntWalk.i64_in _ (by omega)] <;> omega
        have g1 := nums_get a (show k < a.length by omega)
        have g2 := nums_get b hk
        by_cases h : nrow a k = nrow b k
        · simp only [RB, pickV, eqbV, notV, negV, convV, faddrV, fldV, idxV, eqaggV, iaddrV, isnilV, nilckV, cloV, extrV, slenV, minV, sidxV, abin, cmpInt, params, growLists, fillCells, newAt, rdPtr, wrPtr, AV.cells, asVal, lenOf, boundOf, rowsOf, argIds, freshIn, scalar1, setAll, AV.isData, AV.isYld, Nat.reduceAdd, Nat.reduceMul, Nat.reduceSub, Nat.reduceEqDiff, Nat.reduceLeDiff, Nat.reduceLT, Int.reduceNeg, ↓reduceIte, reduceCtorEq, Int.reduceEq, Int.reduceLT, Int.reduceLE, Int.reduceBEq, Int.reduceBNe, Int.reduceToNat, IntKind.bits, Int.reduceAdd, Int.reduceSub, Int.reduceMul, Int.reduceTDiv, Int.reduceTMod, R7B, take_add, List.append_assoc, List.length_append, Nat.add_assoc, shrink_lit, ball_app, RG, LPB, uv_len, uv_data, uv_p, uv_0, uv_1, uv_2, uv_3, uv_oo, uv_snap, w_0, w_1, w_2, w_o1, w_all, uv_on, uv_og, uv_oh, uv_os, uv_exp, uv_res, urows_len, nums_len, hl, f1, f2, f6, g1, g2, h, bne_self_eq_false]
          rw [ih (k + 1) (by omega)]
          simp only [AllF.next (Q := fun i => nrow a i = nrow b i) h]
        · have h' : (nrow a k != nrow b k) = true := bne_iff_ne.2 h
          simp only [RB, pickV, eqbV, notV, negV, convV, faddrV, fldV, idxV, eqaggV, iaddrV, isnilV, nilckV, cloV, extrV, slenV, minV, sidxV, abin, cmpInt, params, growLists, fillCells, newAt, rdPtr, wrPtr, AV.cells, asVal, lenOf, boundOf, rowsOf, argIds, freshIn, scalar1, setAll, AV.isData, AV.isYld, Nat.reduceAdd, Nat.reduceMul, Nat.reduceSub, Nat.reduceEqDiff, Nat.reduceLeDiff, Nat.reduceLT, Int.reduceNeg, ↓reduceIte, reduceCtorEq, Int.reduceEq, Int.reduceLT, Int.reduceLE, Int.reduceBEq, Int.reduceBNe, Int.reduceToNat, IntKind.bits, Int.reduceAdd, Int.reduceSub, Int.reduceMul, Int.reduceTDiv, Int.reduceTMod, R7B, take_add, List.append_assoc, List.length_append, Nat.add_assoc, shrink_lit, ball_app, RG, LPB, uv_len, uv_data, uv_p, uv_0, uv_1, uv_2, uv_3, uv_oo, uv_snap, w_0, w_1, w_2, w_o1, w_all, uv_on, uv_og, uv_oh, uv_os, uv_exp, uv_res, urows_len, nums_len, hl, f1, f2, f6, g1, g2, h']
          rw [decide_eq_false (AllF.not (Q := fun i => nrow a i = nrow b i) hk h)]
      · have f1 : ¬ (k : Int) < (b.length : Int) := by omega
        simp only [RB, pickV, eqbV, notV, negV, convV, faddrV, fldV, idxV, eqaggV, iaddrV, isnilV, nilckV, cloV, extrV, slenV, minV, sidxV, abin, cmpInt, params, growLists, fillCells, newAt, rdPtr, wrPtr, AV.cells, asVal, lenOf, boundOf, rowsOf, argIds, freshIn, scalar1, setAll, AV.isData, AV.isYld, Nat.reduceAdd, Nat.reduceMul, Nat.reduceSub, Nat.reduceEqDiff, Nat.reduceLeDiff, Nat.reduceLT, Int.reduceNeg, ↓reduceIte, reduceCtorEq, Int.reduceEq, Int.reduceLT, Int.reduceLE, Int.reduceBEq, Int.reduceBNe, Int.reduceToNat, IntKind.bits, Int.reduceAdd, Int.reduceSub, Int.reduceMul, Int.reduceTDiv, Int.reduceTMod, R7B, take_add, List.append_assoc, List.length_append, Nat.add_assoc, shrink_lit, ball_app, RG, LPB, uv_len, uv_data, uv_p, uv_0, uv_1, uv_2, uv_3, uv_oo, uv_snap, w_0, w_1, w_2, w_o1, w_all, uv_on, uv_og, uv_oh, uv_os, uv_exp, uv_res, urows_len, hl, f1]
        rw [decide_eq_true (AllF.done (by omega))]
  · have f3 : ((a.length : Int) != (b.length : Int)) = true := by rw [bne_iff_ne]; omega
    simp only [RB, pickV, eqbV, notV, negV, convV, faddrV, fldV, idxV, eqaggV, iaddrV, isnilV, nilckV, cloV, extrV, slenV, minV, sidxV, abin, cmpInt, params, growLists, fillCells, newAt, rdPtr, wrPtr, AV.cells, asVal, lenOf, boundOf, rowsOf, argIds, freshIn, scalar1, setAll, AV.isData, AV.isYld, Nat.reduceAdd, Nat.reduceMul, Nat.reduceSub, Nat.reduceEqDiff, Nat.reduceLeDiff, Nat.reduceLT, Int.reduceNeg, ↓reduceIte, reduceCtorEq, Int.reduceEq, Int.reduceLT, Int.reduceLE, Int.reduceBEq, Int.reduceBNe, Int.reduceToNat, IntKind.bits, Int.reduceAdd, Int.reduceSub, Int.reduceMul, Int.reduceTDiv, Int.reduceTMod, R7B, take_add, List.append_assoc, List.length_append, Nat.add_assoc, shrink_lit, ball_app, RG, LPB, uv_len, uv_data, uv_p, uv_0, uv_1, uv_2, uv_3, uv_oo, uv_snap, w_0, w_1, w_2, w_o1, w_all, uv_on, uv_og, uv_oh, uv_os, uv_exp, uv_res, urows_len, nums_len, f3]
    rw [decide_eq_false fun h : a = b => hl (by rw [h])]
theorem e23 (now now' : Int) (a b : List Pu) (ha : a.length ≤ 4611686018427387904) : LV E 23 [.agg [.int .i64 now, .ro (urows a)], .agg [.int .i64 now', .ro (urows b)]] = some (.bool (decide (now = now' ∧ a = b))) := by
  rw [LV_R (fn := f23) rfl rfl rfl]
  have h44 := e44 a b ha
  by_cases h0 : now = now'
  · subst h0
    simp only [f23, RB, pickV, eqbV, notV, negV, convV, faddrV, fldV, idxV, eqaggV, iaddrV, isnilV, nilckV, cloV, extrV, slenV, minV, sidxV, abin, cmpInt, params, growLists, fillCells, newAt, rdPtr, wrPtr, AV.cells, asVal, lenOf, boundOf, rowsOf, argIds, freshIn, scalar1, setAll, AV.isData, AV.isYld, Nat.reduceAdd, Nat.reduceMul, Nat.reduceSub, Nat.reduceEqDiff, Nat.reduceLeDiff, Nat.reduceLT, Int.reduceNeg, ↓reduceIte, reduceCtorEq, Int.reduceEq, Int.reduceLT, Int.reduceLE, Int.reduceBEq, Int.reduceBNe, Int.reduceToNat, IntKind.bits, Int.reduceAdd, Int.reduceSub, Int.reduceMul, Int.reduceTDiv, Int.reduceTMod, R7B, take_add, List.append_assoc, List.length_append, Nat.add_assoc, shrink_lit, ball_app, RG, LPB, uv_len, uv_data, uv_p, uv_0, uv_1, uv_2, uv_3, uv_oo, uv_snap, w_0, w_1, w_2, w_o1, w_all, uv_on, uv_og, uv_oh, uv_os, uv_exp, uv_res, urows_len, h44, true_and, beq_self_eq_true]
  · have h0' : (now == now') = false := by rw [beq_eq_false_iff_ne]; exact h0
    rw [decide_eq_false fun h => h0 h.1]
    simp only [f23, RB, pickV, eqbV, notV, negV, convV, faddrV, fldV, idxV, eqaggV, iaddrV, isnilV, nilckV, cloV, extrV, slenV, minV, sidxV, abin, cmpInt, params, growLists, fillCells, newAt, rdPtr, wrPtr, AV.cells, asVal, lenOf, boundOf, rowsOf, argIds, freshIn, scalar1, setAll, AV.isData, AV.isYld, Nat.reduceAdd, Nat.reduceMul, Nat.reduceSub, Nat.reduceEqDiff, Nat.reduceLeDiff, Nat.reduceLT, Int.reduceNeg, ↓reduceIte, reduceCtorEq, Int.reduceEq, Int.reduceLT, Int.reduceLE, Int.reduceBEq, Int.reduceBNe, Int.reduceToNat, IntKind.bits, Int.reduceAdd, Int.reduceSub, Int.reduceMul, Int.reduceTDiv, Int.reduceTMod, R7B, take_add, List.append_assoc, List.length_append, Nat.add_assoc, shrink_lit, ball_app, RG, LPB, uv_len, uv_data, uv_p, uv_0, uv_1, uv_2, uv_3, uv_oo, uv_snap, w_0, w_1, w_2, w_o1, w_all, uv_on, uv_og, uv_oh, uv_os, uv_exp, uv_res, urows_len, h0']
/-- How a peer stands. -/
noncomputable def stateS (now : Int) (l : List Pu) (n : Int) : Int × Int :=
  if WatOk now l then match findU l n with
    | some p => (p.st, 0)
    | none => (0, 4)
  else (0, 390)
theorem e28 (now : Int) (l : List Pu) (n : Int) (hl : l.length ≤ 1000000) : LV E 28 [.agg [.int .i64 now, .ro (urows l)], .int .i64 n] = some (.tup [.int .i64 (stateS now l n).1, .int .i64 (stateS now l n).2]) := by
  rw [LV_R (fn := f28) rfl rfl rfl]
  have h22 := e22 now l (by omega)
  unfold stateS
  by_cases h2 : WatOk now l
  · have hr := h2.2.rise
    obtain ⟨i, k1, k2, k3, k4⟩ := e37 now l n hl hr
    rw [if_pos h2] at h22
    rw [if_pos h2]
    by_cases h : i < l.length ∧ (urow l i).num = n
    · rw [find_some hr h.1 h.2]
      have f2 : (0 : Int) ≤ (i : Int) := by omega
      have f1 : (i : Int) < (l.length : Int) := by omega
      have g := urows_get l h.1
      simp only [f28, RB, pickV, eqbV, notV, negV, convV, faddrV, fldV, idxV, eqaggV, iaddrV, isnilV, nilckV, cloV, extrV, slenV, minV, sidxV, abin, cmpInt, params, growLists, fillCells, newAt, rdPtr, wrPtr, AV.cells, asVal, lenOf, boundOf, rowsOf, argIds, freshIn, scalar1, setAll, AV.isData, AV.isYld, Nat.reduceAdd, Nat.reduceMul, Nat.reduceSub, Nat.reduceEqDiff, Nat.reduceLeDiff, Nat.reduceLT, Int.reduceNeg, ↓reduceIte, reduceCtorEq, Int.reduceEq, Int.reduceLT, Int.reduceLE, Int.reduceBEq, Int.reduceBNe, Int.reduceToNat, IntKind.bits, Int.reduceAdd, Int.reduceSub, Int.reduceMul, Int.reduceTDiv, Int.reduceTMod, R7B, take_add, List.append_assoc, List.length_append, Nat.add_assoc, shrink_lit, ball_app, RG, LPB, uv_len, uv_data, uv_p, uv_0, uv_1, uv_2, uv_3, uv_oo, uv_snap, w_0, w_1, w_2, w_o1, w_all, uv_on, uv_og, uv_oh, uv_os, uv_exp, uv_res, urows_len, h22, k4, h, f1, f2, g, bne_self_eq_false, expCell, List.nodup_cons, List.nodup_nil, List.not_mem_nil, not_false_eq_true, not_true_eq_false, and_true, and_false, if_false, List.mem_cons, mutIds]
      done
    · have hf : findU l n = none := by
        cases hf : findU l n with
        | none => rfl
        | some p =>
          obtain ⟨h3, h4⟩ := (findU_iff hr).1 hf
          obtain ⟨j, hj, rfl⟩ := mem_urow h3
          exfalso
          rcases Nat.lt_trichotomy j i with h5 | h5 | h5
          · have := k2 j h5; omega
          · subst h5; exact h ⟨hj, h4⟩
          · have := k3 j (by omega) hj
            have := hr i j h5 hj
            have := k3 i (Nat.le_refl _) (by omega)
            omega
      rw [hf]
      simp only [f28, RB, pickV, eqbV, notV, negV, convV, faddrV, fldV, idxV, eqaggV, iaddrV, isnilV, nilckV, cloV, extrV, slenV, minV, sidxV, abin, cmpInt, params, growLists, fillCells, newAt, rdPtr, wrPtr, AV.cells, asVal, lenOf, boundOf, rowsOf, argIds, freshIn, scalar1, setAll, AV.isData, AV.isYld, Nat.reduceAdd, Nat.reduceMul, Nat.reduceSub, Nat.reduceEqDiff, Nat.reduceLeDiff, Nat.reduceLT, Int.reduceNeg, ↓reduceIte, reduceCtorEq, Int.reduceEq, Int.reduceLT, Int.reduceLE, Int.reduceBEq, Int.reduceBNe, Int.reduceToNat, IntKind.bits, Int.reduceAdd, Int.reduceSub, Int.reduceMul, Int.reduceTDiv, Int.reduceTMod, R7B, take_add, List.append_assoc, List.length_append, Nat.add_assoc, shrink_lit, ball_app, RG, LPB, uv_len, uv_data, uv_p, uv_0, uv_1, uv_2, uv_3, uv_oo, uv_snap, w_0, w_1, w_2, w_o1, w_all, uv_on, uv_og, uv_oh, uv_os, uv_exp, uv_res, urows_len, h22, k4, h, bne_self_eq_false, expCell, List.nodup_cons, List.nodup_nil, List.not_mem_nil, not_false_eq_true, not_true_eq_false, and_true, and_false, if_false, List.mem_cons, mutIds]
      done
  · rw [if_neg h2] at h22
    rw [if_neg h2]
    simp only [f28, RB, pickV, eqbV, notV, negV, convV, faddrV, fldV, idxV, eqaggV, iaddrV, isnilV, nilckV, cloV, extrV, slenV, minV, sidxV, abin, cmpInt, params, growLists, fillCells, newAt, rdPtr, wrPtr, AV.cells, asVal, lenOf, boundOf, rowsOf, argIds, freshIn, scalar1, setAll, AV.isData, AV.isYld, Nat.reduceAdd, Nat.reduceMul, Nat.reduceSub, Nat.reduceEqDiff, Nat.reduceLeDiff, Nat.reduceLT, Int.reduceNeg, ↓reduceIte, reduceCtorEq, Int.reduceEq, Int.reduceLT, Int.reduceLE, Int.reduceBEq, Int.reduceBNe, Int.reduceToNat, IntKind.bits, Int.reduceAdd, Int.reduceSub, Int.reduceMul, Int.reduceTDiv, Int.reduceTMod, R7B, take_add, List.append_assoc, List.length_append, Nat.add_assoc, shrink_lit, ball_app, RG, LPB, uv_len, uv_data, uv_p, uv_0, uv_1, uv_2, uv_3, uv_oo, uv_snap, w_0, w_1, w_2, w_o1, w_all, uv_on, uv_og, uv_oh, uv_os, uv_exp, uv_res, urows_len, h22, expCell, List.nodup_cons, List.nodup_nil, List.not_mem_nil, not_false_eq_true, not_true_eq_false, and_true, and_false, if_false, List.mem_cons, mutIds]
    done
end Go.Proofs.Ytabadcnpmfafnaa.F

/- beat.Up, beat.Next. No condition. -/
set_option linter.unusedSimpArgs false
namespace Go.Proofs.Ytabadcnpmfafnaa.D
open Go Go.Proofs.Ytabadcnpmfafnaa.A Go.Proofs.Ytabadcnpmfafnaa.F
def isUp (p : Pu) : Bool := p.st == 1 || p.st == 2
def upL (l : List Pu) : List Int := (l.filter isUp).map (·.num)
theorem upL_len (l : List Pu) : (upL l).length ≤ l.length := by unfold upL; rw [List.length_map]; exact List.length_filter_le _ _
theorem upL_next (l : List Pu) {k : Nat} (hk : k < l.length) : upL (l.take (k + 1)) = if isUp (urow l k) = true then upL (l.take k) ++ [(urow l k).num] else upL (l.take k) := by
  unfold upL
  rw [take_u l hk, List.filter_append]
  by_cases h : isUp (urow l k) = true
  · simp [h]
  · simp [h]
/-- When a peer that is not gone turns. -/
def dueU (now : Int) (p : Pu) : Int := if now - p.heard ≤ 4 then p.heard + 5 else p.heard + 10
def nextN (now : Int) (s : Int × Bool) (p : Pu) : Int × Bool :=
  if now - p.heard ≤ 9 then (if s.2 = false ∨ dueU now p < s.1 then (dueU now p, true) else s) else s
def nextL (now : Int) (l : List Pu) : Int × Bool := l.foldl (nextN now) (0, false)
theorem nextL_next (now : Int) (l : List Pu) {k : Nat} (hk : k < l.length) : nextL now (l.take (k + 1)) = nextN now (nextL now (l.take k)) (urow l k) := by
  unfold nextL
  rw [take_u l hk, List.foldl_append]; rfl
end Go.Proofs.Ytabadcnpmfafnaa.D
namespace Go.Proofs.Ytabadcnpmfafnaa.F
open Go Go.Proofs.Ytabadcnpmfafnaa.A Go.Proofs.Ytabadcnpmfafnaa.D
theorem e29 (now : Int) (l : List Pu) (hl : l.length ≤ 1000000) : LV E 29 [.agg [.int .i64 now, .ro (urows l)]] = some (.ro (nums (if WatOk now l then upL l else []))) := by
  rw [LV_R (fn := f29) rfl rfl rfl]
  have h22 := e22 now l (by omega)
  by_cases h2 : WatOk now l
  · rw [if_pos h2] at h22
    rw [if_pos h2]
    simp only [f29, ← uv_zer, RB, pickV, eqbV, notV, negV, convV, faddrV, fldV, idxV, eqaggV, iaddrV, isnilV, nilckV, cloV, extrV, slenV, minV, sidxV, abin, cmpInt, params, growLists, fillCells, newAt, rdPtr, wrPtr, AV.cells, asVal, lenOf, boundOf, rowsOf, argIds, freshIn, scalar1, setAll, AV.isData, AV.isYld, Nat.reduceAdd, Nat.reduceMul, Nat.reduceSub, Nat.reduceEqDiff, Nat.reduceLeDiff, Nat.reduceLT, Int.reduceNeg, ↓reduceIte, reduceCtorEq, Int.reduceEq, Int.reduceLT, Int.reduceLE, Int.reduceBEq, Int.reduceBNe, Int.reduceToNat, IntKind.bits, Int.reduceAdd, Int.reduceSub, Int.reduceMul, Int.reduceTDiv, Int.reduceTMod, R7B, take_add, List.append_assoc, List.length_append, Nat.add_assoc, shrink_lit, ball_app, RG, LPB, uv_len, uv_data, uv_p, uv_0, uv_1, uv_2, uv_3, uv_oo, uv_snap, w_0, w_1, w_2, w_o1, w_all, uv_on, uv_og, uv_oh, uv_os, uv_exp, uv_res, urows_len, h22, bne_self_eq_false]
    refine (W_rec2 (β := AV) (ι := {k : Nat // k ≤ l.length}) (M := fun k => [(3, .lis 2 (upL (l.take k.1)).length 0 (upL (l.take k.1)).length), (10, .ro (urows l)), (11, .int .i64 (l.length : Int)), (12, .int .i64 (k.1 : Int))])
      (H := fun k => ⟨[.box 0 24 [.int .i64 now, .ro (urows l)], .lst 0 0 3 1 [], .lst 0 (upL (l.take k.1)).length 3 1 (nums (upL (l.take k.1)))], []⟩)
      (r := fun _ => some (.ro (nums (upL l)))) (μ := fun k => l.length - k.1) (fun i => ?_) (fun k ih => ?_) ⟨0, Nat.zero_le _⟩ rfl rfl)
    · simp [LPB]
    · obtain ⟨k, hkl⟩ := k
      simp only at ih ⊢
      by_cases hk : k < l.length
      · have f1 : (k : Int) < (l.length : Int) := by omega
        have f2 : (0 : Int) ≤ (k : Int) := by omega
        have f6 : IntKind.i64.wrap ((k : Int) + 1) = ((k + 1 : Nat) : Int) := by rw [IntWalk.i64_in _ (by omega)] <;> omega
        have g := urows_get l hk
        have ih := ih ⟨k + 1, hk⟩ (by simp only; omega)
        simp only [upL_next l hk] at ih
        have hz : (upL (l.take k)).length ≤ k := Nat.le_trans (upL_len _) (by rw [List.length_take]; exact Nat.min_le_left _ _)
        have up : isUp (urow l k) = ((urow l k).st == 1 || (urow l k).st == 2) := rfl
        rw [up] at ih
        generalize upL (l.take k) = Z at *
        have f7 : (Z.length + 1) * 8 ≤ 140737488355328 := by omega
        have f8 : Z.length ≤ 4611686018427387903 := by omega
        have f12 : ∀ n, headFits 1 [[AV.int .i64 n]] = true := fun r => rfl
        cases t1 : ((urow l k).st == 1) with
        | true =>
          simp only [t1, Bool.true_or, if_true, nums_sn, List.length_append, List.length_cons, List.length_nil, Nat.zero_add] at ih
          simp only [RB, pickV, eqbV, notV, negV, convV, faddrV, fldV, idxV, eqaggV, iaddrV, isnilV, nilckV, cloV, extrV, slenV, minV, sidxV, abin, cmpInt, params, growLists, fillCells, newAt, rdPtr, wrPtr, AV.cells, asVal, lenOf, boundOf, rowsOf, argIds, freshIn, scalar1, setAll, AV.isData, AV.isYld, Nat.reduceAdd, Nat.reduceMul, Nat.reduceSub, Nat.reduceEqDiff, Nat.reduceLeDiff, Nat.reduceLT, Int.reduceNeg, ↓reduceIte, reduceCtorEq, Int.reduceEq, Int.reduceLT, Int.reduceLE, Int.reduceBEq, Int.reduceBNe, Int.reduceToNat, IntKind.bits, Int.reduceAdd, Int.reduceSub, Int.reduceMul, Int.reduceTDiv, Int.reduceTMod, R7B, take_add, List.append_assoc, List.length_append, Nat.add_assoc, shrink_lit, ball_app, RG, LPB, uv_len, uv_data, uv_p, uv_0, uv_1, uv_2, uv_3, uv_oo, uv_snap, w_0, w_1, w_2, w_o1, w_all, uv_on, uv_og, uv_oh, uv_os, uv_exp, uv_res, urows_len, f1, f2, f6, g, t1, O_buildSlq, quietOk, aop_buildSl, fillRows, asData, aappend, f7, f8, f12, nums_len, nums_all, Nat.le_refl]
          exact ih
        | false =>
          cases t2 : ((urow l k).st == 2) with
          | true =>
            simp only [t1, t2, Bool.false_or, if_true, nums_sn, List.length_append, List.length_cons, List.length_nil, Nat.zero_add] at ih
            simp only [RB, pickV, eqbV, notV, negV, convV, faddrV, fldV, idxV, eqaggV, iaddrV, isnilV, nilckV, cloV, extrV, slenV, minV, sidxV, abin, cmpInt, params, growLists, fillCells, newAt, rdPtr, wrPtr, AV.cells, asVal, lenOf, boundOf, rowsOf, argIds, freshIn, scalar1, setAll, AV.isData, AV.isYld, Nat.reduceAdd, Nat.reduceMul, Nat.reduceSub, Nat.reduceEqDiff, Nat.reduceLeDiff, Nat.reduceLT, Int.reduceNeg, ↓reduceIte, reduceCtorEq, Int.reduceEq, Int.reduceLT, Int.reduceLE, Int.reduceBEq, Int.reduceBNe, Int.reduceToNat, IntKind.bits, Int.reduceAdd, Int.reduceSub, Int.reduceMul, Int.reduceTDiv, Int.reduceTMod, R7B, take_add, List.append_assoc, List.length_append, Nat.add_assoc, shrink_lit, ball_app, RG, LPB, uv_len, uv_data, uv_p, uv_0, uv_1, uv_2, uv_3, uv_oo, uv_snap, w_0, w_1, w_2, w_o1, w_all, uv_on, uv_og, uv_oh, uv_os, uv_exp, uv_res, urows_len, f1, f2, f6, g, t1, t2, O_buildSlq, quietOk, aop_buildSl, fillRows, asData, aappend, f7, f8, f12, nums_len, nums_all, Nat.le_refl]
            exact ih
          | false =>
            simp only [t1, t2, Bool.or_self, Bool.false_eq_true, if_false] at ih
            simp only [RB, pickV, eqbV, notV, negV, convV, faddrV, fldV, idxV, eqaggV, iaddrV, isnilV, nilckV, cloV, extrV, slenV, minV, sidxV, abin, cmpInt, params, growLists, fillCells, newAt, rdPtr, wrPtr, AV.cells, asVal, lenOf, boundOf, rowsOf, argIds, freshIn, scalar1, setAll, AV.isData, AV.isYld, Nat.reduceAdd, Nat.reduceMul, Nat.reduceSub, Nat.reduceEqDiff, Nat.reduceLeDiff, Nat.reduceLT, Int.reduceNeg, ↓reduceIte, reduceCtorEq, Int.reduceEq, Int.reduceLT, Int.reduceLE, Int.reduceBEq, Int.reduceBNe, Int.reduceToNat, IntKind.bits, Int.reduceAdd, Int.reduceSub, Int.reduceMul, Int.reduceTDiv, Int.reduceTMod, R7B, take_add, List.append_assoc, List.length_append, Nat.add_assoc, shrink_lit, ball_app, RG, LPB, uv_len, uv_data, uv_p, uv_0, uv_1, uv_2, uv_3, uv_oo, uv_snap, w_0, w_1, w_2, w_o1, w_all, uv_on, uv_og, uv_oh, uv_os, uv_exp, uv_res, urows_len, f1, f2, f6, g, t1, t2]
            exact ih
      · have e : k = l.length := by omega
        subst e
        rw [List.take_length]
        simp only [RB, pickV, eqbV, notV, negV, convV, faddrV, fldV, idxV, eqaggV, iaddrV, isnilV, nilckV, cloV, extrV, slenV, minV, sidxV, abin, cmpInt, params, growLists, fillCells, newAt, rdPtr, wrPtr, AV.cells, asVal, lenOf, boundOf, rowsOf, argIds, freshIn, scalar1, setAll, AV.isData, AV.isYld, Nat.reduceAdd, Nat.reduceMul, Nat.reduceSub, Nat.reduceEqDiff, Nat.reduceLeDiff, Nat.reduceLT, Int.reduceNeg, ↓reduceIte, reduceCtorEq, Int.reduceEq, Int.reduceLT, Int.reduceLE, Int.reduceBEq, Int.reduceBNe, Int.reduceToNat, IntKind.bits, Int.reduceAdd, Int.reduceSub, Int.reduceMul, Int.reduceTDiv, Int.reduceTMod, R7B, take_add, List.append_assoc, List.length_append, Nat.add_assoc, shrink_lit, ball_app, RG, LPB, uv_len, uv_data, uv_p, uv_0, uv_1, uv_2, uv_3, uv_oo, uv_snap, w_0, w_1, w_2, w_o1, w_all, uv_on, uv_og, uv_oh, uv_os, uv_exp, uv_res, urows_len, show ¬ (l.length : Int) < (l.length : Int) by omega, expCell, List.nodup_cons, List.nodup_nil, List.not_mem_nil, not_false_eq_true, not_true_eq_false, and_true, and_false, if_false, List.mem_cons, mutIds, nums_len, nums_all, Nat.le_refl]
        done
  · rw [if_neg h2] at h22
    rw [if_neg h2]
    simp only [f29, RB, pickV, eqbV, notV, negV, convV, faddrV, fldV, idxV, eqaggV, iaddrV, isnilV, nilckV, cloV, extrV, slenV, minV, sidxV, abin, cmpInt, params, growLists, fillCells, newAt, rdPtr, wrPtr, AV.cells, asVal, lenOf, boundOf, rowsOf, argIds, freshIn, scalar1, setAll, AV.isData, AV.isYld, Nat.reduceAdd, Nat.reduceMul, Nat.reduceSub, Nat.reduceEqDiff, Nat.reduceLeDiff, Nat.reduceLT, Int.reduceNeg, ↓reduceIte, reduceCtorEq, Int.reduceEq, Int.reduceLT, Int.reduceLE, Int.reduceBEq, Int.reduceBNe, Int.reduceToNat, IntKind.bits, Int.reduceAdd, Int.reduceSub, Int.reduceMul, Int.reduceTDiv, Int.reduceTMod, R7B, take_add, List.append_assoc, List.length_append, Nat.add_assoc, shrink_lit, ball_app, RG, LPB, uv_len, uv_data, uv_p, uv_0, uv_1, uv_2, uv_3, uv_oo, uv_snap, w_0, w_1, w_2, w_o1, w_all, uv_on, uv_og, uv_oh, uv_os, uv_exp, uv_res, urows_len, h22, expCell, List.nodup_cons, List.nodup_nil, List.not_mem_nil, not_false_eq_true, not_true_eq_false, and_true, and_false, if_false, List.mem_cons, mutIds]
    rfl
theorem spanI_f {n : Int} (h : n ≤ 4) : spanI n = 0 := by unfold spanI; rw [if_pos h]
theorem spanI_l {n : Int} (h : ¬ n ≤ 4) (h' : n ≤ 9) : spanI n = 1 := by unfold spanI; rw [if_neg h, if_pos h']
theorem spanI_g {n : Int} (h' : ¬ n ≤ 9) : spanI n = 2 := by unfold spanI; rw [if_neg (by omega), if_neg h']
theorem e24 (now : Int) (l : List Pu) (hl : l.length ≤ 1000000) : LV E 24 [.agg [.int .i64 now, .ro (urows l)]] = some (.tup [.int .i64 (if WatOk now l then nextL now l else (0, false)).1, .bool (if WatOk now l then nextL now l else (0, false)).2]) := by
  rw [LV_R (fn := f24) rfl rfl rfl]
  have h22 := e22 now l (by omega)
  by_cases h2 : WatOk now l
  · rw [if_pos h2] at h22
    rw [if_pos h2]
    simp only [f24, ← uv_zer, RB, pickV, eqbV, notV, negV, convV, faddrV, fldV, idxV, eqaggV, iaddrV, isnilV, nilckV, cloV, extrV, slenV, minV, sidxV, abin, cmpInt, params, growLists, fillCells, newAt, rdPtr, wrPtr, AV.cells, asVal, lenOf, boundOf, rowsOf, argIds, freshIn, scalar1, setAll, AV.isData, AV.isYld, Nat.reduceAdd, Nat.reduceMul, Nat.reduceSub, Nat.reduceEqDiff, Nat.reduceLeDiff, Nat.reduceLT, Int.reduceNeg, ↓reduceIte, reduceCtorEq, Int.reduceEq, Int.reduceLT, Int.reduceLE, Int.reduceBEq, Int.reduceBNe, Int.reduceToNat, IntKind.bits, Int.reduceAdd, Int.reduceSub, Int.reduceMul, Int.reduceTDiv, Int.reduceTMod, R7B, take_add, List.append_assoc, List.length_append, Nat.add_assoc, shrink_lit, ball_app, RG, LPB, uv_len, uv_data, uv_p, uv_0, uv_1, uv_2, uv_3, uv_oo, uv_snap, w_0, w_1, w_2, w_o1, w_all, uv_on, uv_og, uv_oh, uv_os, uv_exp, uv_res, urows_len, h22, bne_self_eq_false]
    refine (W_rec2 (β := AV) (ι := {k : Nat // k ≤ l.length}) (M := fun k => [(1, .ptr 0 0 0 0), (4, .int .i64 (nextL now (l.take k.1)).1), (5, .bool (nextL now (l.take k.1)).2), (13, .ro (urows l)), (14, .int .i64 (l.length : Int)), (15, .int .i64 (k.1 : Int))])
      (H := fun k => ⟨[.box 0 24 [.int .i64 now, .ro (urows l)]], []⟩)
      (r := fun _ => some (.tup [.int .i64 (nextL now l).1, .bool (nextL now l).2])) (μ := fun k => l.length - k.1) (fun i => ?_) (fun k ih => ?_) ⟨0, Nat.zero_le _⟩ rfl rfl)
    · simp [LPB]
    · obtain ⟨k, hkl⟩ := k
      simp only at ih ⊢
      by_cases hk : k < l.length
      · have f1 : (k : Int) < (l.length : Int) := by omega
        have f2 : (0 : Int) ≤ (k : Int) := by omega
        have f6 : IntKind.i64.wrap ((k : Int) + 1) = ((k + 1 : Nat) : Int) := by rw [IntWalk.i64_in _ (by omega)] <;> omega
        have g := urows_get l hk
        have ih := ih ⟨k + 1, hk⟩ (by simp only; omega)
        rw [nextL_next now l hk] at ih
        obtain ⟨_, _, o3, o4, _⟩ := (h2.2 k (Nat.zero_le _) hk).1
        have o5 := h2.1.2
        have h34 := e34 now (urow l k)
        rw [IntWalk.i64_in (now - (urow l k).heard) (by omega)] at h34
        have a1 : IntKind.i64.wrap ((urow l k).heard + 4) = (urow l k).heard + 4 := by rw [IntWalk.i64_in _ (by omega)]
        have a2 : IntKind.i64.wrap ((urow l k).heard + 4 + 1) = (urow l k).heard + 5 := by rw [IntWalk.i64_in _ (by omega)]; omega
        have a3 : IntKind.i64.wrap ((urow l k).heard + 9) = (urow l k).heard + 9 := by rw [IntWalk.i64_in _ (by omega)]
        have a4 : IntKind.i64.wrap ((urow l k).heard + 9 + 1) = (urow l k).heard + 10 := by rw [IntWalk.i64_in _ (by omega)]; omega
        generalize nextL now (l.take k) = S at *
        obtain ⟨s, b⟩ := S
        simp only at ih ⊢
        unfold nextN dueU at ih
        by_cases d1 : now - (urow l k).heard ≤ 4
        · rw [spanI_f d1] at h34
          rw [if_pos (show now - (urow l k).heard ≤ 9 by omega)] at ih
          simp only [if_pos d1] at ih
          cases b with
          | false =>
            simp only [true_or, if_true] at ih
            simp only [RB, pickV, eqbV, notV, negV, convV, faddrV, fldV, idxV, eqaggV, iaddrV, isnilV, nilckV, cloV, extrV, slenV, minV, sidxV, abin, cmpInt, params, growLists, fillCells, newAt, rdPtr, wrPtr, AV.cells, asVal, lenOf, boundOf, rowsOf, argIds, freshIn, scalar1, setAll, AV.isData, AV.isYld, Nat.reduceAdd, Nat.reduceMul, Nat.reduceSub, Nat.reduceEqDiff, Nat.reduceLeDiff, Nat.reduceLT, Int.reduceNeg, ↓reduceIte, reduceCtorEq, Int.reduceEq, Int.reduceLT, Int.reduceLE, Int.reduceBEq, Int.reduceBNe, Int.reduceToNat, IntKind.bits, Int.reduceAdd, Int.reduceSub, Int.reduceMul, Int.reduceTDiv, Int.reduceTMod, R7B, take_add, List.append_assoc, List.length_append, Nat.add_assoc, shrink_lit, ball_app, RG, LPB, uv_len, uv_data, uv_p, uv_0, uv_1, uv_2, uv_3, uv_oo, uv_snap, w_0, w_1, w_2, w_o1, w_all, uv_on, uv_og, uv_oh, uv_os, uv_exp, uv_res, urows_len, f1, f2, f6, g, h34, a1, a2, a3, a4]
            exact ih
          | true =>
            by_cases d3 : (urow l k).heard + 5 < s
            · rw [if_pos (.inr d3)] at ih
              simp only [RB, pickV, eqbV, notV, negV, convV, faddrV, fldV, idxV, eqaggV, iaddrV, isnilV, nilckV, cloV, extrV, slenV, minV, sidxV, abin, cmpInt, params, growLists, fillCells, newAt, rdPtr, wrPtr, AV.cells, asVal, lenOf, boundOf, rowsOf, argIds, freshIn, scalar1, setAll, AV.isData, AV.isYld, Nat.reduceAdd, Nat.reduceMul, Nat.reduceSub, Nat.reduceEqDiff, Nat.reduceLeDiff, Nat.reduceLT, Int.reduceNeg, ↓reduceIte, reduceCtorEq, Int.reduceEq, Int.reduceLT, Int.reduceLE, Int.reduceBEq, Int.reduceBNe, Int.reduceToNat, IntKind.bits, Int.reduceAdd, Int.reduceSub, Int.reduceMul, Int.reduceTDiv, Int.reduceTMod, R7B, take_add, List.append_assoc, List.length_append, Nat.add_assoc, shrink_lit, ball_app, RG, LPB, uv_len, uv_data, uv_p, uv_0, uv_1, uv_2, uv_3, uv_oo, uv_snap, w_0, w_1, w_2, w_o1, w_all, uv_on, uv_og, uv_oh, uv_os, uv_exp, uv_res, urows_len, f1, f2, f6, g, h34, a1, a2, a3, a4, d3]
              exact ih
            · rw [if_neg (by simp [d3])] at ih
              simp only [RB, pickV, eqbV, notV, negV, convV, faddrV, fldV, idxV, eqaggV, iaddrV, isnilV, nilckV, cloV, extrV, slenV, minV, sidxV, abin, cmpInt, params, growLists, fillCells, newAt, rdPtr, wrPtr, AV.cells, asVal, lenOf, boundOf, rowsOf, argIds, freshIn, scalar1, setAll, AV.isData, AV.isYld, Nat.reduceAdd, Nat.reduceMul, Nat.reduceSub, Nat.reduceEqDiff, Nat.reduceLeDiff, Nat.reduceLT, Int.reduceNeg, ↓reduceIte, reduceCtorEq, Int.reduceEq, Int.reduceLT, Int.reduceLE, Int.reduceBEq, Int.reduceBNe, Int.reduceToNat, IntKind.bits, Int.reduceAdd, Int.reduceSub, Int.reduceMul, Int.reduceTDiv, Int.reduceTMod, R7B, take_add, List.append_assoc, List.length_append, Nat.add_assoc, shrink_lit, ball_app, RG, LPB, uv_len, uv_data, uv_p, uv_0, uv_1, uv_2, uv_3, uv_oo, uv_snap, w_0, w_1, w_2, w_o1, w_all, uv_on, uv_og, uv_oh, uv_os, uv_exp, uv_res, urows_len, f1, f2, f6, g, h34, a1, a2, a3, a4, d3]
              exact ih
        · by_cases d2 : now - (urow l k).heard ≤ 9
          · rw [spanI_l d1 d2] at h34
            rw [if_pos d2] at ih
            simp only [if_neg d1] at ih
            cases b with
            | false =>
              simp only [true_or, if_true] at ih
              simp only [RB, pickV, eqbV, notV, negV, convV, faddrV, fldV, idxV, eqaggV, iaddrV, isnilV, nilckV, cloV, extrV, slenV, minV, sidxV, abin, cmpInt, params, growLists, fillCells, newAt, rdPtr, wrPtr, AV.cells, asVal, lenOf, boundOf, rowsOf, argIds, freshIn, scalar1, setAll, AV.isData, AV.isYld, Nat.reduceAdd, Nat.reduceMul, Nat.reduceSub, Nat.reduceEqDiff, Nat.reduceLeDiff, Nat.reduceLT, Int.reduceNeg, ↓reduceIte, reduceCtorEq, Int.reduceEq, Int.reduceLT, Int.reduceLE, Int.reduceBEq, Int.reduceBNe, Int.reduceToNat, IntKind.bits, Int.reduceAdd, Int.reduceSub, Int.reduceMul, Int.reduceTDiv, Int.reduceTMod, R7B, take_add, List.append_assoc, List.length_append, Nat.add_assoc, shrink_lit, ball_app, RG, LPB, uv_len, uv_data, uv_p, uv_0, uv_1, uv_2, uv_3, uv_oo, uv_snap, w_0, w_1, w_2, w_o1, w_all, uv_on, uv_og, uv_oh, uv_os, uv_exp, uv_res, urows_len, f1, f2, f6, g, h34, a1, a2, a3, a4]
              exact ih
            | true =>
              by_cases d3 : (urow l k).heard + 10 < s
              · rw [if_pos (.inr d3)] at ih
                simp only [RB, pickV, eqbV, notV, negV, convV, faddrV, fldV, idxV, eqaggV, iaddrV, isnilV, nilckV, cloV, extrV, slenV, minV, sidxV, abin, cmpInt, params, growLists, fillCells, newAt, rdPtr, wrPtr, AV.cells, asVal, lenOf, boundOf, rowsOf, argIds, freshIn, scalar1, setAll, AV.isData, AV.isYld, Nat.reduceAdd, Nat.reduceMul, Nat.reduceSub, Nat.reduceEqDiff, Nat.reduceLeDiff, Nat.reduceLT, Int.reduceNeg, ↓reduceIte, reduceCtorEq, Int.reduceEq, Int.reduceLT, Int.reduceLE, Int.reduceBEq, Int.reduceBNe, Int.reduceToNat, IntKind.bits, Int.reduceAdd, Int.reduceSub, Int.reduceMul, Int.reduceTDiv, Int.reduceTMod, R7B, take_add, List.append_assoc, List.length_append, Nat.add_assoc, shrink_lit, ball_app, RG, LPB, uv_len, uv_data, uv_p, uv_0, uv_1, uv_2, uv_3, uv_oo, uv_snap, w_0, w_1, w_2, w_o1, w_all, uv_on, uv_og, uv_oh, uv_os, uv_exp, uv_res, urows_len, f1, f2, f6, g, h34, a1, a2, a3, a4, d3]
                exact ih
              · rw [if_neg (by simp [d3])] at ih
                simp only [RB, pickV, eqbV, notV, negV, convV, faddrV, fldV, idxV, eqaggV, iaddrV, isnilV, nilckV, cloV, extrV, slenV, minV, sidxV, abin, cmpInt, params, growLists, fillCells, newAt, rdPtr, wrPtr, AV.cells, asVal, lenOf, boundOf, rowsOf, argIds, freshIn, scalar1, setAll, AV.isData, AV.isYld, Nat.reduceAdd, Nat.reduceMul, Nat.reduceSub, Nat.reduceEqDiff, Nat.reduceLeDiff, Nat.reduceLT, Int.reduceNeg, ↓reduceIte, reduceCtorEq, Int.reduceEq, Int.reduceLT, Int.reduceLE, Int.reduceBEq, Int.reduceBNe, Int.reduceToNat, IntKind.bits, Int.reduceAdd, Int.reduceSub, Int.reduceMul, Int.reduceTDiv, Int.reduceTMod, R7B, take_add, List.append_assoc, List.length_append, Nat.add_assoc, shrink_lit, ball_app, RG, LPB, uv_len, uv_data, uv_p, uv_0, uv_1, uv_2, uv_3, uv_oo, uv_snap, w_0, w_1, w_2, w_o1, w_all, uv_on, uv_og, uv_oh, uv_os, uv_exp, uv_res, urows_len, f1, f2, f6, g, h34, a1, a2, a3, a4, d3]
                exact ih
          · rw [spanI_g d2] at h34
            rw [if_neg d2] at ih
            simp only [RB, pickV, eqbV, notV, negV, convV, faddrV, fldV, idxV, eqaggV, iaddrV, isnilV, nilckV, cloV, extrV, slenV, minV, sidxV, abin, cmpInt, params, growLists, fillCells, newAt, rdPtr, wrPtr, AV.cells, asVal, lenOf, boundOf, rowsOf, argIds, freshIn, scalar1, setAll, AV.isData, AV.isYld, Nat.reduceAdd, Nat.reduceMul, Nat.reduceSub, Nat.reduceEqDiff, Nat.reduceLeDiff, Nat.reduceLT, Int.reduceNeg, ↓reduceIte, reduceCtorEq, Int.reduceEq, Int.reduceLT, Int.reduceLE, Int.reduceBEq, Int.reduceBNe, Int.reduceToNat, IntKind.bits, Int.reduceAdd, Int.reduceSub, Int.reduceMul, Int.reduceTDiv, Int.reduceTMod, R7B, take_add, List.append_assoc, List.length_append, Nat.add_assoc, shrink_lit, ball_app, RG, LPB, uv_len, uv_data, uv_p, uv_0, uv_1, uv_2, uv_3, uv_oo, uv_snap, w_0, w_1, w_2, w_o1, w_all, uv_on, uv_og, uv_oh, uv_os, uv_exp, uv_res, urows_len, f1, f2, f6, g, h34, a1, a2, a3, a4]
            exact ih
      · have e : k = l.length := by omega
        subst e
        rw [List.take_length]
        simp only [RB, pickV, eqbV, notV, negV, convV, faddrV, fldV, idxV, eqaggV, iaddrV, isnilV, nilckV, cloV, extrV, slenV, minV, sidxV, abin, cmpInt, params, growLists, fillCells, newAt, rdPtr, wrPtr, AV.cells, asVal, lenOf, boundOf, rowsOf, argIds, freshIn, scalar1, setAll, AV.isData, AV.isYld, Nat.reduceAdd, Nat.reduceMul, Nat.reduceSub, Nat.reduceEqDiff, Nat.reduceLeDiff, Nat.reduceLT, Int.reduceNeg, ↓reduceIte, reduceCtorEq, Int.reduceEq, Int.reduceLT, Int.reduceLE, Int.reduceBEq, Int.reduceBNe, Int.reduceToNat, IntKind.bits, Int.reduceAdd, Int.reduceSub, Int.reduceMul, Int.reduceTDiv, Int.reduceTMod, R7B, take_add, List.append_assoc, List.length_append, Nat.add_assoc, shrink_lit, ball_app, RG, LPB, uv_len, uv_data, uv_p, uv_0, uv_1, uv_2, uv_3, uv_oo, uv_snap, w_0, w_1, w_2, w_o1, w_all, uv_on, uv_og, uv_oh, uv_os, uv_exp, uv_res, urows_len, show ¬ (l.length : Int) < (l.length : Int) by omega, expCell, List.nodup_cons, List.nodup_nil, List.not_mem_nil, not_false_eq_true, not_true_eq_false, and_true, and_false, if_false, List.mem_cons, mutIds]
        done
  · rw [if_neg h2] at h22
    rw [if_neg h2]
    simp only [f24, RB, pickV, eqbV, notV, negV, convV, faddrV, fldV, idxV, eqaggV, iaddrV, isnilV, nilckV, cloV, extrV, slenV, minV, sidxV, abin, cmpInt, params, growLists, fillCells, newAt, rdPtr, wrPtr, AV.cells, asVal, lenOf, boundOf, rowsOf, argIds, freshIn, scalar1, setAll, AV.isData, AV.isYld, Nat.reduceAdd, Nat.reduceMul, Nat.reduceSub, Nat.reduceEqDiff, Nat.reduceLeDiff, Nat.reduceLT, Int.reduceNeg, ↓reduceIte, reduceCtorEq, Int.reduceEq, Int.reduceLT, Int.reduceLE, Int.reduceBEq, Int.reduceBNe, Int.reduceToNat, IntKind.bits, Int.reduceAdd, Int.reduceSub, Int.reduceMul, Int.reduceTDiv, Int.reduceTMod, R7B, take_add, List.append_assoc, List.length_append, Nat.add_assoc, shrink_lit, ball_app, RG, LPB, uv_len, uv_data, uv_p, uv_0, uv_1, uv_2, uv_3, uv_oo, uv_snap, w_0, w_1, w_2, w_o1, w_all, uv_on, uv_og, uv_oh, uv_os, uv_exp, uv_res, urows_len, h22, expCell, List.nodup_cons, List.nodup_nil, List.not_mem_nil, not_false_eq_true, not_true_eq_false, and_true, and_false, if_false, List.mem_cons, mutIds]
    done
end Go.Proofs.Ytabadcnpmfafnaa.F

/- What Next tells is the first time at which a peer turns. No condition. -/
set_option linter.unusedSimpArgs false
namespace Go.Proofs.Ytabadcnpmfafnaa.D
open Go Go.Proofs.Ytabadcnpmfafnaa.A Go.Proofs.Ytabadcnpmfafnaa.F
def chgB (now k : Int) (p : Pu) : Bool := (decide (now - p.heard ≤ 4) != decide (now + k - p.heard ≤ 4)) || (decide (9 < now - p.heard) != decide (9 < now + k - p.heard))
def hitB (now k : Int) (l : List Pu) : Bool := l.any (chgB now k)
theorem hitB_next (now k : Int) (l : List Pu) {i : Nat} (hi : i < l.length) : hitB now k (l.take (i + 1)) = (hitB now k (l.take i) || chgB now k (urow l i)) := by
  unfold hitB
  rw [take_u l hi, List.any_append]; simp
theorem chg_iff {now k : Int} {p : Pu} (h : p.heard ≤ now) (hk : 1 ≤ k) (hk' : k ≤ 10) : chgB now k p = true ↔ now - p.heard ≤ 9 ∧ dueU now p ≤ now + k := by
  have b : ∀ (P Q : Prop) [Decidable P] [Decidable Q], ((decide P != decide Q) = true ↔ ¬ (P ↔ Q)) := fun P Q _ _ => by
    by_cases hp : P <;> by_cases hq : Q <;> simp [hp, hq]
  unfold chgB dueU
  rw [Bool.or_eq_true, b, b]
  split <;> omega
theorem next_inv (now : Int) : ∀ (l : List Pu) (s : Int × Bool), (s.2 = false → s.1 = 0) →
    ((l.foldl (nextN now) s).2 = false → (l.foldl (nextN now) s).1 = 0 ∧ s.2 = false ∧ ∀ p ∈ l, ¬ now - p.heard ≤ 9) ∧
    ((l.foldl (nextN now) s).2 = true → ((s.2 = true ∧ (l.foldl (nextN now) s).1 = s.1) ∨ ∃ p ∈ l, now - p.heard ≤ 9 ∧ (l.foldl (nextN now) s).1 = dueU now p) ∧ (s.2 = true → (l.foldl (nextN now) s).1 ≤ s.1) ∧ ∀ p ∈ l, now - p.heard ≤ 9 → (l.foldl (nextN now) s).1 ≤ dueU now p)
  | [], s, h0 => ⟨fun h => ⟨h0 h, h, by simp⟩, fun h => ⟨.inl ⟨h, rfl⟩, fun _ => Int.le_refl _, by simp⟩⟩
  | p :: l, s, h0 => by
    have key : nextN now s p = s ∨ (now - p.heard ≤ 9 ∧ nextN now s p = (dueU now p, true)) := by
      unfold nextN
      split
      · rename_i h
        split
        · exact .inr ⟨h, rfl⟩
        · exact .inl rfl
      · exact .inl rfl
    have k1 : (nextN now s p).2 = false → (nextN now s p).1 = 0 := by
      rcases key with h | ⟨_, h⟩
      · rw [h]; exact h0
      · rw [h]; intro h; cases h
    have k2 : now - p.heard ≤ 9 → (nextN now s p).2 = true ∧ (nextN now s p).1 ≤ dueU now p := by
      intro h
      unfold nextN
      rw [if_pos h]
      split
      · exact ⟨rfl, Int.le_refl _⟩
      · rename_i h'
        cases hs : s.2 with
        | false => exact absurd (.inl hs) h'
        | true => exact ⟨rfl, by omega⟩
    have k3 : s.2 = true → (nextN now s p).2 = true ∧ (nextN now s p).1 ≤ s.1 := by
      intro h
      unfold nextN
      split
      · split
        · rename_i h'
          rcases h' with h' | h'
          · rw [h] at h'; cases h'
          · exact ⟨rfl, by simp only; omega⟩
        · exact ⟨h, Int.le_refl _⟩
      · exact ⟨h, Int.le_refl _⟩
    obtain ⟨i1, i2⟩ := next_inv now l (nextN now s p) k1
    rw [List.foldl_cons]
    constructor
    · intro h
      obtain ⟨j1, j2, j3⟩ := i1 h
      refine ⟨j1, ?_, ?_⟩
      · cases hs : s.2 with
        | false => rfl
        | true => rw [(k3 hs).1] at j2; cases j2
      · intro q hq
        rcases List.mem_cons.1 hq with rfl | hq
        · intro h'; rw [(k2 h').1] at j2; cases j2
        · exact j3 q hq
    · intro h
      obtain ⟨j1, j2, j3⟩ := i2 h
      refine ⟨?_, ?_, ?_⟩
      · rcases j1 with ⟨j4, j5⟩ | ⟨q, hq, j4, j5⟩
        · rcases key with e | ⟨e1, e⟩
          · rw [e] at j4 j5; rw [e]; exact .inl ⟨j4, j5⟩
          · exact .inr ⟨p, by simp, e1, by rw [j5, e]⟩
        · exact .inr ⟨q, by simp [hq], j4, j5⟩
      · intro hs
        obtain ⟨e1, e2⟩ := k3 hs
        exact Int.le_trans (j2 e1) e2
      · intro q hq hg
        rcases List.mem_cons.1 hq with rfl | hq
        · obtain ⟨e1, e2⟩ := k2 hg
          exact Int.le_trans (j2 e1) e2
        · exact j3 q hq hg
theorem next_hit {now : Int} {l : List Pu} (h : WatOk now l) {k : Int} (hk : 1 ≤ k) (hk' : k ≤ 10) (h1 : hitB now k l = true) (h2 : ∀ j : Int, 1 ≤ j → j < k → hitB now j l = false) : nextL now l = (now + k, true) := by
  obtain ⟨i1, i2⟩ := next_inv now l (0, false) fun _ => rfl
  unfold hitB at h1
  obtain ⟨p, hp, hc⟩ := List.any_eq_true.1 h1
  have hpo := (h.mem hp)
  rw [chg_iff hpo.2.2.2.1 hk hk'] at hc
  cases hn : (nextL now l).2 with
  | false => exact absurd hc.1 ((i1 hn).2.2 p hp)
  | true =>
    obtain ⟨j1, _, j3⟩ := i2 hn
    have j4 := j3 p hp hc.1
    rcases j1 with ⟨j1, _⟩ | ⟨q, hq, j5, j6⟩
    · cases j1
    · have hqo := h.mem hq
      have hd : now < dueU now q := by unfold dueU; split <;> omega
      have e : dueU now q = now + k := by
        by_cases e : dueU now q = now + k
        · exact e
        · exfalso
          have lt : dueU now q - now < k := by omega
          have hf := h2 (dueU now q - now) (by omega) lt
          have ht : hitB now (dueU now q - now) l = true := by
            unfold hitB
            exact List.any_eq_true.2 ⟨q, hq, (chg_iff hqo.2.2.2.1 (by omega) (by omega)).2 ⟨j5, by omega⟩⟩
          rw [hf] at ht; cases ht
      have e1 : (nextL now l).1 = now + k := by unfold nextL; rw [j6, e]
      rw [← e1, ← hn]
theorem next_none {now : Int} {l : List Pu} (h : WatOk now l) (h2 : ∀ j : Int, 1 ≤ j → j < 11 → hitB now j l = false) : nextL now l = (0, false) := by
  obtain ⟨i1, i2⟩ := next_inv now l (0, false) fun _ => rfl
  cases hn : (nextL now l).2 with
  | false =>
    have := (i1 hn).1
    show nextL now l = _
    have e1 : (nextL now l).1 = 0 := this
    rw [← e1, ← hn]
  | true =>
    obtain ⟨j1, _, j3⟩ := i2 hn
    rcases j1 with ⟨j1, _⟩ | ⟨q, hq, j5, j6⟩
    · cases j1
    · have hqo := h.mem hq
      exfalso
      have ht : hitB now 10 l = true := by
        unfold hitB
        refine List.any_eq_true.2 ⟨q, hq, (chg_iff hqo.2.2.2.1 (by omega) (by omega)).2 ⟨j5, ?_⟩⟩
        have := hqo.2.2.2.1
        unfold dueU; split <;> omega
      rw [h2 10 (by omega) (by omega)] at ht; cases ht
end Go.Proofs.Ytabadcnpmfafnaa.D

/- Who is up. No condition. -/
set_option linter.unusedSimpArgs false
namespace Go.Proofs.Ytabadcnpmfafnaa.F
open Go Go.Proofs.Ytabadcnpmfafnaa.A Go.Proofs.Ytabadcnpmfafnaa.D
set_option maxRecDepth 20000 in
set_option maxHeartbeats 4000000 in
theorem tells (now now' : Int) (l o : List Pu) (n : Int) : LV E 7 [.agg [.int .i64 now, .ro (urows l)], .agg [.int .i64 now', .ro (urows o)], .int .i64 n] = some (.bool true) := by
  rw [LV_R (fn := f7) rfl rfl rfl]
  simp only [f7, ← uv_zer, RB, pickV, eqbV, notV, negV, convV, faddrV, fldV, idxV, eqaggV, iaddrV, isnilV, nilckV, cloV, extrV, slenV, minV, sidxV, abin, cmpInt, params, growLists, fillCells, newAt, rdPtr, wrPtr, AV.cells, asVal, lenOf, boundOf, rowsOf, argIds, freshIn, scalar1, setAll, AV.isData, AV.isYld, Nat.reduceAdd, Nat.reduceMul, Nat.reduceSub, Nat.reduceEqDiff, Nat.reduceLeDiff, Nat.reduceLT, Int.reduceNeg, ↓reduceIte, reduceCtorEq, Int.reduceEq, Int.reduceLT, Int.reduceLE, Int.reduceBEq, Int.reduceBNe, Int.reduceToNat, IntKind.bits, Int.reduceAdd, Int.reduceSub, Int.reduceMul, Int.reduceTDiv, Int.reduceTMod, R7B, take_add, List.append_assoc, List.length_append, Nat.add_assoc, shrink_lit, ball_app, RG, LPB, uv_len, uv_data, uv_p, uv_0, uv_1, uv_2, uv_3, uv_oo, uv_snap, w_0, w_1, w_2, w_o1, w_all, uv_on, uv_og, uv_oh, uv_os, uv_exp, uv_res, urows_len, nums_len, e8]
  by_cases h1 : (100 : Int) < (l.length : Int)
  · simp only [RB, pickV, eqbV, notV, negV, convV, faddrV, fldV, idxV, eqaggV, iaddrV, isnilV, nilckV, cloV, extrV, slenV, minV, sidxV, abin, cmpInt, params, growLists, fillCells, newAt, rdPtr, wrPtr, AV.cells, asVal, lenOf, boundOf, rowsOf, argIds, freshIn, scalar1, setAll, AV.isData, AV.isYld, Nat.reduceAdd, Nat.reduceMul, Nat.reduceSub, Nat.reduceEqDiff, Nat.reduceLeDiff, Nat.reduceLT, Int.reduceNeg, ↓reduceIte, reduceCtorEq, Int.reduceEq, Int.reduceLT, Int.reduceLE, Int.reduceBEq, Int.reduceBNe, Int.reduceToNat, IntKind.bits, Int.reduceAdd, Int.reduceSub, Int.reduceMul, Int.reduceTDiv, Int.reduceTMod, R7B, take_add, List.append_assoc, List.length_append, Nat.add_assoc, shrink_lit, ball_app, RG, LPB, uv_len, uv_data, uv_p, uv_0, uv_1, uv_2, uv_3, uv_oo, uv_snap, w_0, w_1, w_2, w_o1, w_all, uv_on, uv_og, uv_oh, uv_os, uv_exp, uv_res, urows_len, nums_len, h1]
  by_cases h1' : (100 : Int) < (o.length : Int)
  · simp only [RB, pickV, eqbV, notV, negV, convV, faddrV, fldV, idxV, eqaggV, iaddrV, isnilV, nilckV, cloV, extrV, slenV, minV, sidxV, abin, cmpInt, params, growLists, fillCells, newAt, rdPtr, wrPtr, AV.cells, asVal, lenOf, boundOf, rowsOf, argIds, freshIn, scalar1, setAll, AV.isData, AV.isYld, Nat.reduceAdd, Nat.reduceMul, Nat.reduceSub, Nat.reduceEqDiff, Nat.reduceLeDiff, Nat.reduceLT, Int.reduceNeg, ↓reduceIte, reduceCtorEq, Int.reduceEq, Int.reduceLT, Int.reduceLE, Int.reduceBEq, Int.reduceBNe, Int.reduceToNat, IntKind.bits, Int.reduceAdd, Int.reduceSub, Int.reduceMul, Int.reduceTDiv, Int.reduceTMod, R7B, take_add, List.append_assoc, List.length_append, Nat.add_assoc, shrink_lit, ball_app, RG, LPB, uv_len, uv_data, uv_p, uv_0, uv_1, uv_2, uv_3, uv_oo, uv_snap, w_0, w_1, w_2, w_o1, w_all, uv_on, uv_og, uv_oh, uv_os, uv_exp, uv_res, urows_len, nums_len, h1, h1']
  have hl : l.length ≤ 1000000 := by omega
  have h9 := e9 now l hl
  have h12 := e12 now now' l o (by omega)
  have h23 := e23 now now' l o (by omega)
  have h23b := e23 now now l l (by omega)
  have eq1 : decide (now = now ∧ l = l) = true := by simp
  rw [eq1] at h23b
  have h17 := e17 now l
  have h18 := e18 now l n hl
  have h22 := e22 now l (by omega)
  have h24 := e24 now l hl
  have h28 := e28 now l n hl
  have h29 := e29 now l hl
  unfold stateS at h28
  by_cases h2 : WatOk now l
  · rw [if_pos h2] at h22 h24 h28 h29
    have hup : (upL l).length ≤ 4611686018427387904 := by have := upL_len l; omega
    have h13 := e13 (upL l) (upL l) hup
    have fin : ∀ (X : AV), X = X := fun _ => rfl
    cases hf : findU l n with
    | none =>
      rw [hf] at h28 h18
      unfold ofR at h18
      simp only at h28 h18
      simp only [RB, pickV, eqbV, notV, negV, convV, faddrV, fldV, idxV, eqaggV, iaddrV, isnilV, nilckV, cloV, extrV, slenV, minV, sidxV, abin, cmpInt, params, growLists, fillCells, newAt, rdPtr, wrPtr, AV.cells, asVal, lenOf, boundOf, rowsOf, argIds, freshIn, scalar1, setAll, AV.isData, AV.isYld, Nat.reduceAdd, Nat.reduceMul, Nat.reduceSub, Nat.reduceEqDiff, Nat.reduceLeDiff, Nat.reduceLT, Int.reduceNeg, ↓reduceIte, reduceCtorEq, Int.reduceEq, Int.reduceLT, Int.reduceLE, Int.reduceBEq, Int.reduceBNe, Int.reduceToNat, IntKind.bits, Int.reduceAdd, Int.reduceSub, Int.reduceMul, Int.reduceTDiv, Int.reduceTMod, R7B, take_add, List.append_assoc, List.length_append, Nat.add_assoc, shrink_lit, ball_app, RG, LPB, uv_len, uv_data, uv_p, uv_0, uv_1, uv_2, uv_3, uv_oo, uv_snap, w_0, w_1, w_2, w_o1, w_all, uv_on, uv_og, uv_oh, uv_os, uv_exp, uv_res, urows_len, nums_len, h1, h1', h2, h9, h12, h23, h23b, h17, h18, h22, h24, h28, h29, bne_self_eq_false, beq_self_eq_true, show zerU.st = 0 from rfl, CW_some, scalar, scalar1, lockAll, lockAt, reduceCtorEq, extrV, List.all_cons, List.all_nil, pairOk, AV.ids, List.contains_cons, List.contains_nil, Nat.reduceBEq, List.all_cons, List.all_nil, Bool.or_self, Bool.not_false, Bool.and_self, Bool.or_false]
      obtain ⟨q, hq⟩ : ∃ q, q = zerU := ⟨_, rfl⟩
      rw [← hq]
      clear hq
      refine (W_rec2 (β := AV) (ι := {k : Nat // k ≤ l.length}) (M := fun k => [(3, .ptr 0 0 0 0), (11, .ro (nums (upL l))), (12, .int .i64 (nextL now l).1), (13, .bool (nextL now l).2), (16, .lis 3 (upL (l.take k.1)).length 0 (upL (l.take k.1)).length), (130, .ro (urows l)), (131, .int .i64 (l.length : Int)), (132, .int .i64 (k.1 : Int))])
        (H := fun k => ⟨[.box 0 24 [.int .i64 now, .ro (urows l)], .box 0 24 [.int .i64 now', .ro (urows o)], .box 0 40 (uv q), .lst 0 (upL (l.take k.1)).length 3 1 (nums (upL (l.take k.1)))], []⟩)
        (r := fun _ => some (.bool true)) (μ := fun k => l.length - k.1) (fun i => ?_) (fun k ih => ?_) ⟨0, Nat.zero_le _⟩ rfl rfl)
      · simp [LPB]
      · obtain ⟨k, hkl⟩ := k
        simp only at ih ⊢
        by_cases hk : k < l.length
        · have f1 : (k : Int) < (l.length : Int) := by omega
          have f2 : (0 : Int) ≤ (k : Int) := by omega
          have f6 : IntKind.i64.wrap ((k : Int) + 1) = ((k + 1 : Nat) : Int) := by rw [IntWalk.i64_in _ (by omega)] <;> omega
          have g := urows_get l hk
          have ih := ih ⟨k + 1, hk⟩ (by simp only; omega)
          simp only [upL_next l hk] at ih
          have hz : (upL (l.take k)).length ≤ k := Nat.le_trans (upL_len _) (by rw [List.length_take]; exact Nat.min_le_left _ _)
          have up : isUp (urow l k) = ((urow l k).st == 1 || (urow l k).st == 2) := rfl
          rw [up] at ih
          clear h17 h18 h22 h24 h28 h29 h23 h23b h12 h9
          generalize upL (l.take k) = Z at *
          have f7 : (Z.length + 1) * 8 ≤ 140737488355328 := by omega
          have f8 : Z.length ≤ 4611686018427387903 := by omega
          have f12 : ∀ n, headFits 1 [[AV.int .i64 n]] = true := fun r => rfl
          cases t1 : ((urow l k).st == 1) with
          | true =>
            simp only [t1, Bool.true_or, if_true, nums_sn, List.length_append, List.length_cons, List.length_nil, Nat.zero_add] at ih
            simp only [RB, pickV, eqbV, notV, negV, convV, faddrV, fldV, idxV, eqaggV, iaddrV, isnilV, nilckV, cloV, extrV, slenV, minV, sidxV, abin, cmpInt, params, growLists, fillCells, newAt, rdPtr, wrPtr, AV.cells, asVal, lenOf, boundOf, rowsOf, argIds, freshIn, scalar1, setAll, AV.isData, AV.isYld, Nat.reduceAdd, Nat.reduceMul, Nat.reduceSub, Nat.reduceEqDiff, Nat.reduceLeDiff, Nat.reduceLT, Int.reduceNeg, ↓reduceIte, reduceCtorEq, Int.reduceEq, Int.reduceLT, Int.reduceLE, Int.reduceBEq, Int.reduceBNe, Int.reduceToNat, IntKind.bits, Int.reduceAdd, Int.reduceSub, Int.reduceMul, Int.reduceTDiv, Int.reduceTMod, R7B, take_add, List.append_assoc, List.length_append, Nat.add_assoc, shrink_lit, ball_app, RG, LPB, uv_len, uv_data, uv_p, uv_0, uv_1, uv_2, uv_3, uv_oo, uv_snap, w_0, w_1, w_2, w_o1, w_all, uv_on, uv_og, uv_oh, uv_os, uv_exp, uv_res, urows_len, nums_len, f1, f2, f6, g, t1, O_buildSlq, quietOk, aop_buildSl, fillRows, asData, aappend, f7, f8, f12, nums_all, Nat.le_refl]
            exact ih
          | false =>
            cases t2 : ((urow l k).st == 2) with
            | true =>
              simp only [t1, t2, Bool.false_or, if_true, nums_sn, List.length_append, List.length_cons, List.length_nil, Nat.zero_add] at ih
              simp only [RB, pickV, eqbV, notV, negV, convV, faddrV, fldV, idxV, eqaggV, iaddrV, isnilV, nilckV, cloV, extrV, slenV, minV, sidxV, abin, cmpInt, params, growLists, fillCells, newAt, rdPtr, wrPtr, AV.cells, asVal, lenOf, boundOf, rowsOf, argIds, freshIn, scalar1, setAll, AV.isData, AV.isYld, Nat.reduceAdd, Nat.reduceMul, Nat.reduceSub, Nat.reduceEqDiff, Nat.reduceLeDiff, Nat.reduceLT, Int.reduceNeg, ↓reduceIte, reduceCtorEq, Int.reduceEq, Int.reduceLT, Int.reduceLE, Int.reduceBEq, Int.reduceBNe, Int.reduceToNat, IntKind.bits, Int.reduceAdd, Int.reduceSub, Int.reduceMul, Int.reduceTDiv, Int.reduceTMod, R7B, take_add, List.append_assoc, List.length_append, Nat.add_assoc, shrink_lit, ball_app, RG, LPB, uv_len, uv_data, uv_p, uv_0, uv_1, uv_2, uv_3, uv_oo, uv_snap, w_0, w_1, w_2, w_o1, w_all, uv_on, uv_og, uv_oh, uv_os, uv_exp, uv_res, urows_len, nums_len, f1, f2, f6, g, t1, t2, O_buildSlq, quietOk, aop_buildSl, fillRows, asData, aappend, f7, f8, f12, nums_all, Nat.le_refl]
              exact ih
            | false =>
              simp only [t1, t2, Bool.or_self, Bool.false_eq_true, if_false] at ih
              simp only [RB, pickV, eqbV, notV, negV, convV, faddrV, fldV, idxV, eqaggV, iaddrV, isnilV, nilckV, cloV, extrV, slenV, minV, sidxV, abin, cmpInt, params, growLists, fillCells, newAt, rdPtr, wrPtr, AV.cells, asVal, lenOf, boundOf, rowsOf, argIds, freshIn, scalar1, setAll, AV.isData, AV.isYld, Nat.reduceAdd, Nat.reduceMul, Nat.reduceSub, Nat.reduceEqDiff, Nat.reduceLeDiff, Nat.reduceLT, Int.reduceNeg, ↓reduceIte, reduceCtorEq, Int.reduceEq, Int.reduceLT, Int.reduceLE, Int.reduceBEq, Int.reduceBNe, Int.reduceToNat, IntKind.bits, Int.reduceAdd, Int.reduceSub, Int.reduceMul, Int.reduceTDiv, Int.reduceTMod, R7B, take_add, List.append_assoc, List.length_append, Nat.add_assoc, shrink_lit, ball_app, RG, LPB, uv_len, uv_data, uv_p, uv_0, uv_1, uv_2, uv_3, uv_oo, uv_snap, w_0, w_1, w_2, w_o1, w_all, uv_on, uv_og, uv_oh, uv_os, uv_exp, uv_res, urows_len, nums_len, f1, f2, f6, g, t1, t2]
              exact ih
        · have e : k = l.length := by omega
          subst e
          clear ih
          rw [List.take_length]
          simp only [RB, pickV, eqbV, notV, negV, convV, faddrV, fldV, idxV, eqaggV, iaddrV, isnilV, nilckV, cloV, extrV, slenV, minV, sidxV, abin, cmpInt, params, growLists, fillCells, newAt, rdPtr, wrPtr, AV.cells, asVal, lenOf, boundOf, rowsOf, argIds, freshIn, scalar1, setAll, AV.isData, AV.isYld, Nat.reduceAdd, Nat.reduceMul, Nat.reduceSub, Nat.reduceEqDiff, Nat.reduceLeDiff, Nat.reduceLT, Int.reduceNeg, ↓reduceIte, reduceCtorEq, Int.reduceEq, Int.reduceLT, Int.reduceLE, Int.reduceBEq, Int.reduceBNe, Int.reduceToNat, IntKind.bits, Int.reduceAdd, Int.reduceSub, Int.reduceMul, Int.reduceTDiv, Int.reduceTMod, R7B, take_add, List.append_assoc, List.length_append, Nat.add_assoc, shrink_lit, ball_app, RG, LPB, uv_len, uv_data, uv_p, uv_0, uv_1, uv_2, uv_3, uv_oo, uv_snap, w_0, w_1, w_2, w_o1, w_all, uv_on, uv_og, uv_oh, uv_os, uv_exp, uv_res, urows_len, nums_len, show ¬ (l.length : Int) < (l.length : Int) by omega]
          refine (W_rec2 (β := AV) (ι := {s : Nat × Int // 1 ≤ s.1 ∧ s.1 ≤ 11 ∧ ((s.2 = 0 ∧ ∀ j : Int, 1 ≤ j → j < (s.1 : Int) → hitB now j l = false) ∨ (0 < s.2 ∧ nextL now l = (s.2, true)))})
            (M := fun s => [(3, .ptr 0 0 0 0), (11, .ro (nums (upL l))), (12, .int .i64 (nextL now l).1), (13, .bool (nextL now l).2), (16, .lis 3 (upL l).length 0 (upL l).length), (19, .int .i64 s.1.2), (20, .int .i64 (s.1.1 : Int))])
            (H := fun k => ⟨[.box 0 24 [.int .i64 now, .ro (urows l)], .box 0 24 [.int .i64 now', .ro (urows o)], .box 0 40 (uv q), .lst 0 (upL l).length 3 1 (nums (upL l))], []⟩)
            (r := fun _ => some (.bool true)) (μ := fun s => 11 - s.1.1) (fun i => ?_) (fun s ih => ?_) ⟨(1, 0), by decide, by decide, .inl ⟨rfl, fun j a b => by simp only at b; omega⟩⟩ rfl rfl)
          · simp [LPB]
          · obtain ⟨⟨k, z⟩, k1, k2, kc⟩ := s
            simp only at ih kc k1 k2 ⊢
            rcases kc with ⟨rfl, kn⟩ | ⟨kz, kn⟩
            · by_cases hk : k ≤ 10
              · have f1 : (k : Int) ≤ 10 := by omega
                have f6 : IntKind.i64.wrap ((k : Int) + 1) = ((k + 1 : Nat) : Int) := by rw [IntWalk.i64_in _ (by omega)] <;> omega
                have o6 := h2.1
                have f5 : IntKind.i64.wrap (now + (k : Int)) = now + (k : Int) := by rw [IntWalk.i64_in _ (by omega)]
                simp only [RB, pickV, eqbV, notV, negV, convV, faddrV, fldV, idxV, eqaggV, iaddrV, isnilV, nilckV, cloV, extrV, slenV, minV, sidxV, abin, cmpInt, params, growLists, fillCells, newAt, rdPtr, wrPtr, AV.cells, asVal, lenOf, boundOf, rowsOf, argIds, freshIn, scalar1, setAll, AV.isData, AV.isYld, Nat.reduceAdd, Nat.reduceMul, Nat.reduceSub, Nat.reduceEqDiff, Nat.reduceLeDiff, Nat.reduceLT, Int.reduceNeg, ↓reduceIte, reduceCtorEq, Int.reduceEq, Int.reduceLT, Int.reduceLE, Int.reduceBEq, Int.reduceBNe, Int.reduceToNat, IntKind.bits, Int.reduceAdd, Int.reduceSub, Int.reduceMul, Int.reduceTDiv, Int.reduceTMod, R7B, take_add, List.append_assoc, List.length_append, Nat.add_assoc, shrink_lit, ball_app, RG, LPB, uv_len, uv_data, uv_p, uv_0, uv_1, uv_2, uv_3, uv_oo, uv_snap, w_0, w_1, w_2, w_o1, w_all, uv_on, uv_og, uv_oh, uv_os, uv_exp, uv_res, urows_len, nums_len, f1, beq_self_eq_true]
                refine (W_rec2 (β := AV) (ι := {i : Nat // i ≤ l.length})
                  (M := fun i => [(3, .ptr 0 0 0 0), (11, .ro (nums (upL l))), (12, .int .i64 (nextL now l).1), (13, .bool (nextL now l).2), (16, .lis 3 (upL l).length 0 (upL l).length), (19, .int .i64 (if hitB now k (l.take i.1) = true then now + (k : Int) else 0)), (20, .int .i64 (k : Int)), (159, .ro (urows l)), (160, .int .i64 (l.length : Int)), (161, .int .i64 (i.1 : Int))])
                  (H := fun k => ⟨[.box 0 24 [.int .i64 now, .ro (urows l)], .box 0 24 [.int .i64 now', .ro (urows o)], .box 0 40 (uv q), .lst 0 (upL l).length 3 1 (nums (upL l))], []⟩)
                  (r := fun _ => some (.bool true)) (μ := fun i => l.length - i.1) (fun i => ?_) (fun i ih2 => ?_) ⟨0, Nat.zero_le _⟩ rfl rfl)
                · simp [LPB]
                · obtain ⟨i, hil⟩ := i
                  simp only at ih2 ⊢
                  by_cases hi : i < l.length
                  · have g1 : (i : Int) < (l.length : Int) := by omega
                    have g2 : (0 : Int) ≤ (i : Int) := by omega
                    have g6 : IntKind.i64.wrap ((i : Int) + 1) = ((i + 1 : Nat) : Int) := by rw [IntWalk.i64_in _ (by omega)] <;> omega
                    have g := urows_get l hi
                    have ih2 := ih2 ⟨i + 1, hi⟩ (by simp only; omega)
                    simp only [hitB_next now k l hi] at ih2
                    obtain ⟨_, _, o3, o4, _⟩ := (h2.2 i (Nat.zero_le _) hi).1
                    have c1 := e30 now (urow l i)
                    have c2 := e30 (now + (k : Int)) (urow l i)
                    have c3 := e31 now (urow l i)
                    have c4 := e31 (now + (k : Int)) (urow l i)
                    rw [IntWalk.i64_in (now - (urow l i).heard) (by omega)] at c1 c3
                    rw [IntWalk.i64_in (now + (k : Int) - (urow l i).heard) (by omega)] at c2 c4
                    unfold chgB at ih2
                    generalize decide (now - (urow l i).heard ≤ 4) = b1 at *
                    generalize decide (now + (k : Int) - (urow l i).heard ≤ 4) = b2 at *
                    generalize decide (9 < now - (urow l i).heard) = b3 at *
                    generalize decide (9 < now + (k : Int) - (urow l i).heard) = b4 at *
                    generalize hitB now k (l.take i) = h at *
                    clear ih
                    cases hb : (b1 == b2) with
                    | false =>
                      have hb' : (b1 != b2) = true := by simp only [bne, hb]; rfl
                      simp only [hb', Bool.true_or, Bool.or_true, if_true] at ih2
                      simp only [RB, pickV, eqbV, notV, negV, convV, faddrV, fldV, idxV, eqaggV, iaddrV, isnilV, nilckV, cloV, extrV, slenV, minV, sidxV, abin, cmpInt, params, growLists, fillCells, newAt, rdPtr, wrPtr, AV.cells, asVal, lenOf, boundOf, rowsOf, argIds, freshIn, scalar1, setAll, AV.isData, AV.isYld, Nat.reduceAdd, Nat.reduceMul, Nat.reduceSub, Nat.reduceEqDiff, Nat.reduceLeDiff, Nat.reduceLT, Int.reduceNeg, ↓reduceIte, reduceCtorEq, Int.reduceEq, Int.reduceLT, Int.reduceLE, Int.reduceBEq, Int.reduceBNe, Int.reduceToNat, IntKind.bits, Int.reduceAdd, Int.reduceSub, Int.reduceMul, Int.reduceTDiv, Int.reduceTMod, R7B, take_add, List.append_assoc, List.length_append, Nat.add_assoc, shrink_lit, ball_app, RG, LPB, uv_len, uv_data, uv_p, uv_0, uv_1, uv_2, uv_3, uv_oo, uv_snap, w_0, w_1, w_2, w_o1, w_all, uv_on, uv_og, uv_oh, uv_os, uv_exp, uv_res, urows_len, nums_len, g1, g2, g6, g, f5, c1, c2, c3, c4, hb]
                      exact ih2
                    | true =>
                      have hb' : (b1 != b2) = false := by simp only [bne, hb]; rfl
                      cases hc : (b3 == b4) with
                      | false =>
                        have hc' : (b3 != b4) = true := by simp only [bne, hc]; rfl
                        simp only [hb', hc', Bool.true_or, Bool.or_true, if_true] at ih2
                        simp only [RB, pickV, eqbV, notV, negV, convV, faddrV, fldV, idxV, eqaggV, iaddrV, isnilV, nilckV, cloV, extrV, slenV, minV, sidxV, abin, cmpInt, params, growLists, fillCells, newAt, rdPtr, wrPtr, AV.cells, asVal, lenOf, boundOf, rowsOf, argIds, freshIn, scalar1, setAll, AV.isData, AV.isYld, Nat.reduceAdd, Nat.reduceMul, Nat.reduceSub, Nat.reduceEqDiff, Nat.reduceLeDiff, Nat.reduceLT, Int.reduceNeg, ↓reduceIte, reduceCtorEq, Int.reduceEq, Int.reduceLT, Int.reduceLE, Int.reduceBEq, Int.reduceBNe, Int.reduceToNat, IntKind.bits, Int.reduceAdd, Int.reduceSub, Int.reduceMul, Int.reduceTDiv, Int.reduceTMod, R7B, take_add, List.append_assoc, List.length_append, Nat.add_assoc, shrink_lit, ball_app, RG, LPB, uv_len, uv_data, uv_p, uv_0, uv_1, uv_2, uv_3, uv_oo, uv_snap, w_0, w_1, w_2, w_o1, w_all, uv_on, uv_og, uv_oh, uv_os, uv_exp, uv_res, urows_len, nums_len, g1, g2, g6, g, f5, c1, c2, c3, c4, hb, hc]
                        exact ih2
                      | true =>
                        have hc' : (b3 != b4) = false := by simp only [bne, hc]; rfl
                        simp only [hb', hc', Bool.or_false] at ih2
                        simp only [RB, pickV, eqbV, notV, negV, convV, faddrV, fldV, idxV, eqaggV, iaddrV, isnilV, nilckV, cloV, extrV, slenV, minV, sidxV, abin, cmpInt, params, growLists, fillCells, newAt, rdPtr, wrPtr, AV.cells, asVal, lenOf, boundOf, rowsOf, argIds, freshIn, scalar1, setAll, AV.isData, AV.isYld, Nat.reduceAdd, Nat.reduceMul, Nat.reduceSub, Nat.reduceEqDiff, Nat.reduceLeDiff, Nat.reduceLT, Int.reduceNeg, ↓reduceIte, reduceCtorEq, Int.reduceEq, Int.reduceLT, Int.reduceLE, Int.reduceBEq, Int.reduceBNe, Int.reduceToNat, IntKind.bits, Int.reduceAdd, Int.reduceSub, Int.reduceMul, Int.reduceTDiv, Int.reduceTMod, R7B, take_add, List.append_assoc, List.length_append, Nat.add_assoc, shrink_lit, ball_app, RG, LPB, uv_len, uv_data, uv_p, uv_0, uv_1, uv_2, uv_3, uv_oo, uv_snap, w_0, w_1, w_2, w_o1, w_all, uv_on, uv_og, uv_oh, uv_os, uv_exp, uv_res, urows_len, nums_len, g1, g2, g6, g, f5, c1, c2, c3, c4, hb, hc]
                        exact ih2
                  · have e : i = l.length := by omega
                    subst e
                    clear ih2
                    rw [List.take_length]
                    simp only [RB, pickV, eqbV, notV, negV, convV, faddrV, fldV, idxV, eqaggV, iaddrV, isnilV, nilckV, cloV, extrV, slenV, minV, sidxV, abin, cmpInt, params, growLists, fillCells, newAt, rdPtr, wrPtr, AV.cells, asVal, lenOf, boundOf, rowsOf, argIds, freshIn, scalar1, setAll, AV.isData, AV.isYld, Nat.reduceAdd, Nat.reduceMul, Nat.reduceSub, Nat.reduceEqDiff, Nat.reduceLeDiff, Nat.reduceLT, Int.reduceNeg, ↓reduceIte, reduceCtorEq, Int.reduceEq, Int.reduceLT, Int.reduceLE, Int.reduceBEq, Int.reduceBNe, Int.reduceToNat, IntKind.bits, Int.reduceAdd, Int.reduceSub, Int.reduceMul, Int.reduceTDiv, Int.reduceTMod, R7B, take_add, List.append_assoc, List.length_append, Nat.add_assoc, shrink_lit, ball_app, RG, LPB, uv_len, uv_data, uv_p, uv_0, uv_1, uv_2, uv_3, uv_oo, uv_snap, w_0, w_1, w_2, w_o1, w_all, uv_on, uv_og, uv_oh, uv_os, uv_exp, uv_res, urows_len, nums_len, show ¬ (l.length : Int) < (l.length : Int) by omega, f6]
                    cases hh : hitB now k l with
                    | true =>
                      exact ih ⟨(k + 1, now + (k : Int)), by simp only; omega, by simp only; omega, .inr ⟨by have := h2.1.1; simp only; omega, next_hit h2 (by omega) (by omega) hh kn⟩⟩ (by simp only; omega)
                    | false =>
                      refine ih ⟨(k + 1, 0), by simp only; omega, by simp only; omega, .inl ⟨rfl, fun j a b => ?_⟩⟩ (by simp only; omega)
                      simp only at b
                      by_cases hj : j = k
                      · rw [hj]; exact hh
                      · exact kn j a (by omega)
              · have e : k = 11 := by omega
                subst e
                have f1 : ¬ ((11 : Nat) : Int) ≤ 10 := by omega
                have hn := next_none h2 (fun j a b => kn j a (by omega))
                rw [hn]
                simp only [RB, pickV, eqbV, notV, negV, convV, faddrV, fldV, idxV, eqaggV, iaddrV, isnilV, nilckV, cloV, extrV, slenV, minV, sidxV, abin, cmpInt, params, growLists, fillCells, newAt, rdPtr, wrPtr, AV.cells, asVal, lenOf, boundOf, rowsOf, argIds, freshIn, scalar1, setAll, AV.isData, AV.isYld, Nat.reduceAdd, Nat.reduceMul, Nat.reduceSub, Nat.reduceEqDiff, Nat.reduceLeDiff, Nat.reduceLT, Int.reduceNeg, ↓reduceIte, reduceCtorEq, Int.reduceEq, Int.reduceLT, Int.reduceLE, Int.reduceBEq, Int.reduceBNe, Int.reduceToNat, IntKind.bits, Int.reduceAdd, Int.reduceSub, Int.reduceMul, Int.reduceTDiv, Int.reduceTMod, R7B, take_add, List.append_assoc, List.length_append, Nat.add_assoc, shrink_lit, ball_app, RG, LPB, uv_len, uv_data, uv_p, uv_0, uv_1, uv_2, uv_3, uv_oo, uv_snap, w_0, w_1, w_2, w_o1, w_all, uv_on, uv_og, uv_oh, uv_os, uv_exp, uv_res, urows_len, nums_len, f1, h13, nums_all, bne_self_eq_false, beq_self_eq_true, Nat.le_refl, CW_some, scalar, scalar1, lockAll, lockAt, reduceCtorEq, extrV, List.all_cons, List.all_nil, pairOk, AV.ids, List.contains_cons, List.contains_nil, Nat.reduceBEq, List.all_cons, List.all_nil, Bool.or_self, Bool.not_false, Bool.and_self, Bool.or_false]
                done
            · have f9 : (z == 0) = false := by rw [beq_eq_false_iff_ne]; omega
              rw [kn]
              clear ih
              by_cases hk : k ≤ 10
              · have f1 : (k : Int) ≤ 10 := by omega
                simp only [RB, pickV, eqbV, notV, negV, convV, faddrV, fldV, idxV, eqaggV, iaddrV, isnilV, nilckV, cloV, extrV, slenV, minV, sidxV, abin, cmpInt, params, growLists, fillCells, newAt, rdPtr, wrPtr, AV.cells, asVal, lenOf, boundOf, rowsOf, argIds, freshIn, scalar1, setAll, AV.isData, AV.isYld, Nat.reduceAdd, Nat.reduceMul, Nat.reduceSub, Nat.reduceEqDiff, Nat.reduceLeDiff, Nat.reduceLT, Int.reduceNeg, ↓reduceIte, reduceCtorEq, Int.reduceEq, Int.reduceLT, Int.reduceLE, Int.reduceBEq, Int.reduceBNe, Int.reduceToNat, IntKind.bits, Int.reduceAdd, Int.reduceSub, Int.reduceMul, Int.reduceTDiv, Int.reduceTMod, R7B, take_add, List.append_assoc, List.length_append, Nat.add_assoc, shrink_lit, ball_app, RG, LPB, uv_len, uv_data, uv_p, uv_0, uv_1, uv_2, uv_3, uv_oo, uv_snap, w_0, w_1, w_2, w_o1, w_all, uv_on, uv_og, uv_oh, uv_os, uv_exp, uv_res, urows_len, nums_len, f1, f9, kz, h13, nums_all, bne_self_eq_false, beq_self_eq_true, Nat.le_refl, CW_some, scalar, scalar1, lockAll, lockAt, reduceCtorEq, extrV, List.all_cons, List.all_nil, pairOk, AV.ids, List.contains_cons, List.contains_nil, Nat.reduceBEq, List.all_cons, List.all_nil, Bool.or_self, Bool.not_false, Bool.and_self, Bool.or_false]
                done
              · have f1 : ¬ (k : Int) ≤ 10 := by omega
                simp only [RB, pickV, eqbV, notV, negV, convV, faddrV, fldV, idxV, eqaggV, iaddrV, isnilV, nilckV, cloV, extrV, slenV, minV, sidxV, abin, cmpInt, params, growLists, fillCells, newAt, rdPtr, wrPtr, AV.cells, asVal, lenOf, boundOf, rowsOf, argIds, freshIn, scalar1, setAll, AV.isData, AV.isYld, Nat.reduceAdd, Nat.reduceMul, Nat.reduceSub, Nat.reduceEqDiff, Nat.reduceLeDiff, Nat.reduceLT, Int.reduceNeg, ↓reduceIte, reduceCtorEq, Int.reduceEq, Int.reduceLT, Int.reduceLE, Int.reduceBEq, Int.reduceBNe, Int.reduceToNat, IntKind.bits, Int.reduceAdd, Int.reduceSub, Int.reduceMul, Int.reduceTDiv, Int.reduceTMod, R7B, take_add, List.append_assoc, List.length_append, Nat.add_assoc, shrink_lit, ball_app, RG, LPB, uv_len, uv_data, uv_p, uv_0, uv_1, uv_2, uv_3, uv_oo, uv_snap, w_0, w_1, w_2, w_o1, w_all, uv_on, uv_og, uv_oh, uv_os, uv_exp, uv_res, urows_len, nums_len, f1, f9, kz, h13, nums_all, bne_self_eq_false, beq_self_eq_true, Nat.le_refl, CW_some, scalar, scalar1, lockAll, lockAt, reduceCtorEq, extrV, List.all_cons, List.all_nil, pairOk, AV.ids, List.contains_cons, List.contains_nil, Nat.reduceBEq, List.all_cons, List.all_nil, Bool.or_self, Bool.not_false, Bool.and_self, Bool.or_false]
                done
    | some p =>
      rw [hf] at h28 h18
      unfold ofR at h18
      simp only at h28 h18
      simp only [RB, pickV, eqbV, notV, negV, convV, faddrV, fldV, idxV, eqaggV, iaddrV, isnilV, nilckV, cloV, extrV, slenV, minV, sidxV, abin, cmpInt, params, growLists, fillCells, newAt, rdPtr, wrPtr, AV.cells, asVal, lenOf, boundOf, rowsOf, argIds, freshIn, scalar1, setAll, AV.isData, AV.isYld, Nat.reduceAdd, Nat.reduceMul, Nat.reduceSub, Nat.reduceEqDiff, Nat.reduceLeDiff, Nat.reduceLT, Int.reduceNeg, ↓reduceIte, reduceCtorEq, Int.reduceEq, Int.reduceLT, Int.reduceLE, Int.reduceBEq, Int.reduceBNe, Int.reduceToNat, IntKind.bits, Int.reduceAdd, Int.reduceSub, Int.reduceMul, Int.reduceTDiv, Int.reduceTMod, R7B, take_add, List.append_assoc, List.length_append, Nat.add_assoc, shrink_lit, ball_app, RG, LPB, uv_len, uv_data, uv_p, uv_0, uv_1, uv_2, uv_3, uv_oo, uv_snap, w_0, w_1, w_2, w_o1, w_all, uv_on, uv_og, uv_oh, uv_os, uv_exp, uv_res, urows_len, nums_len, h1, h1', h2, h9, h12, h23, h23b, h17, h18, h22, h24, h28, h29, bne_self_eq_false, beq_self_eq_true, uv_take, CW_some, scalar, scalar1, lockAll, lockAt, reduceCtorEq, extrV, List.all_cons, List.all_nil, pairOk, AV.ids, List.contains_cons, List.contains_nil, Nat.reduceBEq, List.all_cons, List.all_nil, Bool.or_self, Bool.not_false, Bool.and_self, Bool.or_false]
      generalize p = q at *
      refine (W_rec2 (β := AV) (ι := {k : Nat // k ≤ l.length}) (M := fun k => [(3, .ptr 0 0 0 0), (11, .ro (nums (upL l))), (12, .int .i64 (nextL now l).1), (13, .bool (nextL now l).2), (16, .lis 3 (upL (l.take k.1)).length 0 (upL (l.take k.1)).length), (130, .ro (urows l)), (131, .int .i64 (l.length : Int)), (132, .int .i64 (k.1 : Int))])
        (H := fun k => ⟨[.box 0 24 [.int .i64 now, .ro (urows l)], .box 0 24 [.int .i64 now', .ro (urows o)], .box 0 40 (uv q), .lst 0 (upL (l.take k.1)).length 3 1 (nums (upL (l.take k.1)))], []⟩)
        (r := fun _ => some (.bool true)) (μ := fun k => l.length - k.1) (fun i => ?_) (fun k ih => ?_) ⟨0, Nat.zero_le _⟩ rfl rfl)
      · simp [LPB]
      · obtain ⟨k, hkl⟩ := k
        simp only at ih ⊢
        by_cases hk : k < l.length
        · have f1 : (k : Int) < (l.length : Int) := by omega
          have f2 : (0 : Int) ≤ (k : Int) := by omega
          have f6 : IntKind.i64.wrap ((k : Int) + 1) = ((k + 1 : Nat) : Int) := by rw [IntWalk.i64_in _ (by omega)] <;> omega
          have g := urows_get l hk
          have ih := ih ⟨k + 1, hk⟩ (by simp only; omega)
          simp only [upL_next l hk] at ih
          have hz : (upL (l.take k)).length ≤ k := Nat.le_trans (upL_len _) (by rw [List.length_take]; exact Nat.min_le_left _ _)
          have up : isUp (urow l k) = ((urow l k).st == 1 || (urow l k).st == 2) := rfl
          rw [up] at ih
          clear h17 h18 h22 h24 h28 h29 h23 h23b h12 h9
          generalize upL (l.take k) = Z at *
          have f7 : (Z.length + 1) * 8 ≤ 140737488355328 := by omega
          have f8 : Z.length ≤ 4611686018427387903 := by omega
          have f12 : ∀ n, headFits 1 [[AV.int .i64 n]] = true := fun r => rfl
          cases t1 : ((urow l k).st == 1) with
          | true =>
            simp only [t1, Bool.true_or, if_true, nums_sn, List.length_append, List.length_cons, List.length_nil, Nat.zero_add] at ih
            simp only [RB, pickV, eqbV, notV, negV, convV, faddrV, fldV, idxV, eqaggV, iaddrV, isnilV, nilckV, cloV, extrV, slenV, minV, sidxV, abin, cmpInt, params, growLists, fillCells, newAt, rdPtr, wrPtr, AV.cells, asVal, lenOf, boundOf, rowsOf, argIds, freshIn, scalar1, setAll, AV.isData, AV.isYld, Nat.reduceAdd, Nat.reduceMul, Nat.reduceSub, Nat.reduceEqDiff, Nat.reduceLeDiff, Nat.reduceLT, Int.reduceNeg, ↓reduceIte, reduceCtorEq, Int.reduceEq, Int.reduceLT, Int.reduceLE, Int.reduceBEq, Int.reduceBNe, Int.reduceToNat, IntKind.bits, Int.reduceAdd, Int.reduceSub, Int.reduceMul, Int.reduceTDiv, Int.reduceTMod, R7B, take_add, List.append_assoc, List.length_append, Nat.add_assoc, shrink_lit, ball_app, RG, LPB, uv_len, uv_data, uv_p, uv_0, uv_1, uv_2, uv_3, uv_oo, uv_snap, w_0, w_1, w_2, w_o1, w_all, uv_on, uv_og, uv_oh, uv_os, uv_exp, uv_res, urows_len, nums_len, f1, f2, f6, g, t1, O_buildSlq, quietOk, aop_buildSl, fillRows, asData, aappend, f7, f8, f12, nums_all, Nat.le_refl]
            exact ih
          | false =>
            cases t2 : ((urow l k).st == 2) with
            | true =>
              simp only [t1, t2, Bool.false_or, if_true, nums_sn, List.length_append, List.length_cons, List.length_nil, Nat.zero_add] at ih
              simp only [RB, pickV, eqbV, notV, negV, convV, faddrV, fldV, idxV, eqaggV, iaddrV, isnilV, nilckV, cloV, extrV, slenV, minV, sidxV, abin, cmpInt, params, growLists, fillCells, newAt, rdPtr, wrPtr, AV.cells, asVal, lenOf, boundOf, rowsOf, argIds, freshIn, scalar1, setAll, AV.isData, AV.isYld, Nat.reduceAdd, Nat.reduceMul, Nat.reduceSub, Nat.reduceEqDiff, Nat.reduceLeDiff, Nat.reduceLT, Int.reduceNeg, ↓reduceIte, reduceCtorEq, Int.reduceEq, Int.reduceLT, Int.reduceLE, Int.reduceBEq, Int.reduceBNe, Int.reduceToNat, IntKind.bits, Int.reduceAdd, Int.reduceSub, Int.reduceMul, Int.reduceTDiv, Int.reduceTMod, R7B, take_add, List.append_assoc, List.length_append, Nat.add_assoc, shrink_lit, ball_app, RG, LPB, uv_len, uv_data, uv_p, uv_0, uv_1, uv_2, uv_3, uv_oo, uv_snap, w_0, w_1, w_2, w_o1, w_all, uv_on, uv_og, uv_oh, uv_os, uv_exp, uv_res, urows_len, nums_len, f1, f2, f6, g, t1, t2, O_buildSlq, quietOk, aop_buildSl, fillRows, asData, aappend, f7, f8, f12, nums_all, Nat.le_refl]
              exact ih
            | false =>
              simp only [t1, t2, Bool.or_self, Bool.false_eq_true, if_false] at ih
              simp only [RB, pickV, eqbV, notV, negV, convV, faddrV, fldV, idxV, eqaggV, iaddrV, isnilV, nilckV, cloV, extrV, slenV, minV, sidxV, abin, cmpInt, params, growLists, fillCells, newAt, rdPtr, wrPtr, AV.cells, asVal, lenOf, boundOf, rowsOf, argIds, freshIn, scalar1, setAll, AV.isData, AV.isYld, Nat.reduceAdd, Nat.reduceMul, Nat.reduceSub, Nat.reduceEqDiff, Nat.reduceLeDiff, Nat.reduceLT, Int.reduceNeg, ↓reduceIte, reduceCtorEq, Int.reduceEq, Int.reduceLT, Int.reduceLE, Int.reduceBEq, Int.reduceBNe, Int.reduceToNat, IntKind.bits, Int.reduceAdd, Int.reduceSub, Int.reduceMul, Int.reduceTDiv, Int.reduceTMod, R7B, take_add, List.append_assoc, List.length_append, Nat.add_assoc, shrink_lit, ball_app, RG, LPB, uv_len, uv_data, uv_p, uv_0, uv_1, uv_2, uv_3, uv_oo, uv_snap, w_0, w_1, w_2, w_o1, w_all, uv_on, uv_og, uv_oh, uv_os, uv_exp, uv_res, urows_len, nums_len, f1, f2, f6, g, t1, t2]
              exact ih
        · have e : k = l.length := by omega
          subst e
          clear ih
          rw [List.take_length]
          simp only [RB, pickV, eqbV, notV, negV, convV, faddrV, fldV, idxV, eqaggV, iaddrV, isnilV, nilckV, cloV, extrV, slenV, minV, sidxV, abin, cmpInt, params, growLists, fillCells, newAt, rdPtr, wrPtr, AV.cells, asVal, lenOf, boundOf, rowsOf, argIds, freshIn, scalar1, setAll, AV.isData, AV.isYld, Nat.reduceAdd, Nat.reduceMul, Nat.reduceSub, Nat.reduceEqDiff, Nat.reduceLeDiff, Nat.reduceLT, Int.reduceNeg, ↓reduceIte, reduceCtorEq, Int.reduceEq, Int.reduceLT, Int.reduceLE, Int.reduceBEq, Int.reduceBNe, Int.reduceToNat, IntKind.bits, Int.reduceAdd, Int.reduceSub, Int.reduceMul, Int.reduceTDiv, Int.reduceTMod, R7B, take_add, List.append_assoc, List.length_append, Nat.add_assoc, shrink_lit, ball_app, RG, LPB, uv_len, uv_data, uv_p, uv_0, uv_1, uv_2, uv_3, uv_oo, uv_snap, w_0, w_1, w_2, w_o1, w_all, uv_on, uv_og, uv_oh, uv_os, uv_exp, uv_res, urows_len, nums_len, show ¬ (l.length : Int) < (l.length : Int) by omega]
          refine (W_rec2 (β := AV) (ι := {s : Nat × Int // 1 ≤ s.1 ∧ s.1 ≤ 11 ∧ ((s.2 = 0 ∧ ∀ j : Int, 1 ≤ j → j < (s.1 : Int) → hitB now j l = false) ∨ (0 < s.2 ∧ nextL now l = (s.2, true)))})
            (M := fun s => [(3, .ptr 0 0 0 0), (11, .ro (nums (upL l))), (12, .int .i64 (nextL now l).1), (13, .bool (nextL now l).2), (16, .lis 3 (upL l).length 0 (upL l).length), (19, .int .i64 s.1.2), (20, .int .i64 (s.1.1 : Int))])
            (H := fun k => ⟨[.box 0 24 [.int .i64 now, .ro (urows l)], .box 0 24 [.int .i64 now', .ro (urows o)], .box 0 40 (uv q), .lst 0 (upL l).length 3 1 (nums (upL l))], []⟩)
            (r := fun _ => some (.bool true)) (μ := fun s => 11 - s.1.1) (fun i => ?_) (fun s ih => ?_) ⟨(1, 0), by decide, by decide, .inl ⟨rfl, fun j a b => by simp only at b; omega⟩⟩ rfl rfl)
          · simp [LPB]
          · obtain ⟨⟨k, z⟩, k1, k2, kc⟩ := s
            simp only at ih kc k1 k2 ⊢
            rcases kc with ⟨rfl, kn⟩ | ⟨kz, kn⟩
            · by_cases hk : k ≤ 10
              · have f1 : (k : Int) ≤ 10 := by omega
                have f6 : IntKind.i64.wrap ((k : Int) + 1) = ((k + 1 : Nat) : Int) := by rw [IntWalk.i64_in _ (by omega)] <;> omega
                have o6 := h2.1
                have f5 : IntKind.i64.wrap (now + (k : Int)) = now + (k : Int) := by rw [IntWalk.i64_in _ (by omega)]
                simp only [RB, pickV, eqbV, notV, negV, convV, faddrV, fldV, idxV, eqaggV, iaddrV, isnilV, nilckV, cloV, extrV, slenV, minV, sidxV, abin, cmpInt, params, growLists, fillCells, newAt, rdPtr, wrPtr, AV.cells, asVal, lenOf, boundOf, rowsOf, argIds, freshIn, scalar1, setAll, AV.isData, AV.isYld, Nat.reduceAdd, Nat.reduceMul, Nat.reduceSub, Nat.reduceEqDiff, Nat.reduceLeDiff, Nat.reduceLT, Int.reduceNeg, ↓reduceIte, reduceCtorEq, Int.reduceEq, Int.reduceLT, Int.reduceLE, Int.reduceBEq, Int.reduceBNe, Int.reduceToNat, IntKind.bits, Int.reduceAdd, Int.reduceSub, Int.reduceMul, Int.reduceTDiv, Int.reduceTMod, R7B, take_add, List.append_assoc, List.length_append, Nat.add_assoc, shrink_lit, ball_app, RG, LPB, uv_len, uv_data, uv_p, uv_0, uv_1, uv_2, uv_3, uv_oo, uv_snap, w_0, w_1, w_2, w_o1, w_all, uv_on, uv_og, uv_oh, uv_os, uv_exp, uv_res, urows_len, nums_len, f1, beq_self_eq_true]
                refine (W_rec2 (β := AV) (ι := {i : Nat // i ≤ l.length})
                  (M := fun i => [(3, .ptr 0 0 0 0), (11, .ro (nums (upL l))), (12, .int .i64 (nextL now l).1), (13, .bool (nextL now l).2), (16, .lis 3 (upL l).length 0 (upL l).length), (19, .int .i64 (if hitB now k (l.take i.1) = true then now + (k : Int) else 0)), (20, .int .i64 (k : Int)), (159, .ro (urows l)), (160, .int .i64 (l.length : Int)), (161, .int .i64 (i.1 : Int))])
                  (H := fun k => ⟨[.box 0 24 [.int .i64 now, .ro (urows l)], .box 0 24 [.int .i64 now', .ro (urows o)], .box 0 40 (uv q), .lst 0 (upL l).length 3 1 (nums (upL l))], []⟩)
                  (r := fun _ => some (.bool true)) (μ := fun i => l.length - i.1) (fun i => ?_) (fun i ih2 => ?_) ⟨0, Nat.zero_le _⟩ rfl rfl)
                · simp [LPB]
                · obtain ⟨i, hil⟩ := i
                  simp only at ih2 ⊢
                  by_cases hi : i < l.length
                  · have g1 : (i : Int) < (l.length : Int) := by omega
                    have g2 : (0 : Int) ≤ (i : Int) := by omega
                    have g6 : IntKind.i64.wrap ((i : Int) + 1) = ((i + 1 : Nat) : Int) := by rw [IntWalk.i64_in _ (by omega)] <;> omega
                    have g := urows_get l hi
                    have ih2 := ih2 ⟨i + 1, hi⟩ (by simp only; omega)
                    simp only [hitB_next now k l hi] at ih2
                    obtain ⟨_, _, o3, o4, _⟩ := (h2.2 i (Nat.zero_le _) hi).1
                    have c1 := e30 now (urow l i)
                    have c2 := e30 (now + (k : Int)) (urow l i)
                    have c3 := e31 now (urow l i)
                    have c4 := e31 (now + (k : Int)) (urow l i)
                    rw [IntWalk.i64_in (now - (urow l i).heard) (by omega)] at c1 c3
                    rw [IntWalk.i64_in (now + (k : Int) - (urow l i).heard) (by omega)] at c2 c4
                    unfold chgB at ih2
                    generalize decide (now - (urow l i).heard ≤ 4) = b1 at *
                    generalize decide (now + (k : Int) - (urow l i).heard ≤ 4) = b2 at *
                    generalize decide (9 < now - (urow l i).heard) = b3 at *
                    generalize decide (9 < now + (k : Int) - (urow l i).heard) = b4 at *
                    generalize hitB now k (l.take i) = h at *
                    clear ih
                    cases hb : (b1 == b2) with
                    | false =>
                      have hb' : (b1 != b2) = true := by simp only [bne, hb]; rfl
                      simp only [hb', Bool.true_or, Bool.or_true, if_true] at ih2
                      simp only [RB, pickV, eqbV, notV, negV, convV, faddrV, fldV, idxV, eqaggV, iaddrV, isnilV, nilckV, cloV, extrV, slenV, minV, sidxV, abin, cmpInt, params, growLists, fillCells, newAt, rdPtr, wrPtr, AV.cells, asVal, lenOf, boundOf, rowsOf, argIds, freshIn, scalar1, setAll, AV.isData, AV.isYld, Nat.reduceAdd, Nat.reduceMul, Nat.reduceSub, Nat.reduceEqDiff, Nat.reduceLeDiff, Nat.reduceLT, Int.reduceNeg, ↓reduceIte, reduceCtorEq, Int.reduceEq, Int.reduceLT, Int.reduceLE, Int.reduceBEq, Int.reduceBNe, Int.reduceToNat, IntKind.bits, Int.reduceAdd, Int.reduceSub, Int.reduceMul, Int.reduceTDiv, Int.reduceTMod, R7B, take_add, List.append_assoc, List.length_append, Nat.add_assoc, shrink_lit, ball_app, RG, LPB, uv_len, uv_data, uv_p, uv_0, uv_1, uv_2, uv_3, uv_oo, uv_snap, w_0, w_1, w_2, w_o1, w_all, uv_on, uv_og, uv_oh, uv_os, uv_exp, uv_res, urows_len, nums_len, g1, g2, g6, g, f5, c1, c2, c3, c4, hb]
                      exact ih2
                    | true =>
                      have hb' : (b1 != b2) = false := by simp only [bne, hb]; rfl
                      cases hc : (b3 == b4) with
                      | false =>
                        have hc' : (b3 != b4) = true := by simp only [bne, hc]; rfl
                        simp only [hb', hc', Bool.true_or, Bool.or_true, if_true] at ih2
                        simp only [RB, pickV, eqbV, notV, negV, convV, faddrV, fldV, idxV, eqaggV, iaddrV, isnilV, nilckV, cloV, extrV, slenV, minV, sidxV, abin, cmpInt, params, growLists, fillCells, newAt, rdPtr, wrPtr, AV.cells, asVal, lenOf, boundOf, rowsOf, argIds, freshIn, scalar1, setAll, AV.isData, AV.isYld, Nat.reduceAdd, Nat.reduceMul, Nat.reduceSub, Nat.reduceEqDiff, Nat.reduceLeDiff, Nat.reduceLT, Int.reduceNeg, ↓reduceIte, reduceCtorEq, Int.reduceEq, Int.reduceLT, Int.reduceLE, Int.reduceBEq, Int.reduceBNe, Int.reduceToNat, IntKind.bits, Int.reduceAdd, Int.reduceSub, Int.reduceMul, Int.reduceTDiv, Int.reduceTMod, R7B, take_add, List.append_assoc, List.length_append, Nat.add_assoc, shrink_lit, ball_app, RG, LPB, uv_len, uv_data, uv_p, uv_0, uv_1, uv_2, uv_3, uv_oo, uv_snap, w_0, w_1, w_2, w_o1, w_all, uv_on, uv_og, uv_oh, uv_os, uv_exp, uv_res, urows_len, nums_len, g1, g2, g6, g, f5, c1, c2, c3, c4, hb, hc]
                        exact ih2
                      | true =>
                        have hc' : (b3 != b4) = false := by simp only [bne, hc]; rfl
                        simp only [hb', hc', Bool.or_false] at ih2
                        simp only [RB, pickV, eqbV, notV, negV, convV, faddrV, fldV, idxV, eqaggV, iaddrV, isnilV, nilckV, cloV, extrV, slenV, minV, sidxV, abin, cmpInt, params, growLists, fillCells, newAt, rdPtr, wrPtr, AV.cells, asVal, lenOf, boundOf, rowsOf, argIds, freshIn, scalar1, setAll, AV.isData, AV.isYld, Nat.reduceAdd, Nat.reduceMul, Nat.reduceSub, Nat.reduceEqDiff, Nat.reduceLeDiff, Nat.reduceLT, Int.reduceNeg, ↓reduceIte, reduceCtorEq, Int.reduceEq, Int.reduceLT, Int.reduceLE, Int.reduceBEq, Int.reduceBNe, Int.reduceToNat, IntKind.bits, Int.reduceAdd, Int.reduceSub, Int.reduceMul, Int.reduceTDiv, Int.reduceTMod, R7B, take_add, List.append_assoc, List.length_append, Nat.add_assoc, shrink_lit, ball_app, RG, LPB, uv_len, uv_data, uv_p, uv_0, uv_1, uv_2, uv_3, uv_oo, uv_snap, w_0, w_1, w_2, w_o1, w_all, uv_on, uv_og, uv_oh, uv_os, uv_exp, uv_res, urows_len, nums_len, g1, g2, g6, g, f5, c1, c2, c3, c4, hb, hc]
                        exact ih2
                  · have e : i = l.length := by omega
                    subst e
                    clear ih2
                    rw [List.take_length]
                    simp only [RB, pickV, eqbV, notV, negV, convV, faddrV, fldV, idxV, eqaggV, iaddrV, isnilV, nilckV, cloV, extrV, slenV, minV, sidxV, abin, cmpInt, params, growLists, fillCells, newAt, rdPtr, wrPtr, AV.cells, asVal, lenOf, boundOf, rowsOf, argIds, freshIn, scalar1, setAll, AV.isData, AV.isYld, Nat.reduceAdd, Nat.reduceMul, Nat.reduceSub, Nat.reduceEqDiff, Nat.reduceLeDiff, Nat.reduceLT, Int.reduceNeg, ↓reduceIte, reduceCtorEq, Int.reduceEq, Int.reduceLT, Int.reduceLE, Int.reduceBEq, Int.reduceBNe, Int.reduceToNat, IntKind.bits, Int.reduceAdd, Int.reduceSub, Int.reduceMul, Int.reduceTDiv, Int.reduceTMod, R7B, take_add, List.append_assoc, List.length_append, Nat.add_assoc, shrink_lit, ball_app, RG, LPB, uv_len, uv_data, uv_p, uv_0, uv_1, uv_2, uv_3, uv_oo, uv_snap, w_0, w_1, w_2, w_o1, w_all, uv_on, uv_og, uv_oh, uv_os, uv_exp, uv_res, urows_len, nums_len, show ¬ (l.length : Int) < (l.length : Int) by omega, f6]
                    cases hh : hitB now k l with
                    | true =>
                      exact ih ⟨(k + 1, now + (k : Int)), by simp only; omega, by simp only; omega, .inr ⟨by have := h2.1.1; simp only; omega, next_hit h2 (by omega) (by omega) hh kn⟩⟩ (by simp only; omega)
                    | false =>
                      refine ih ⟨(k + 1, 0), by simp only; omega, by simp only; omega, .inl ⟨rfl, fun j a b => ?_⟩⟩ (by simp only; omega)
                      simp only at b
                      by_cases hj : j = k
                      · rw [hj]; exact hh
                      · exact kn j a (by omega)
              · have e : k = 11 := by omega
                subst e
                have f1 : ¬ ((11 : Nat) : Int) ≤ 10 := by omega
                have hn := next_none h2 (fun j a b => kn j a (by omega))
                rw [hn]
                simp only [RB, pickV, eqbV, notV, negV, convV, faddrV, fldV, idxV, eqaggV, iaddrV, isnilV, nilckV, cloV, extrV, slenV, minV, sidxV, abin, cmpInt, params, growLists, fillCells, newAt, rdPtr, wrPtr, AV.cells, asVal, lenOf, boundOf, rowsOf, argIds, freshIn, scalar1, setAll, AV.isData, AV.isYld, Nat.reduceAdd, Nat.reduceMul, Nat.reduceSub, Nat.reduceEqDiff, Nat.reduceLeDiff, Nat.reduceLT, Int.reduceNeg, ↓reduceIte, reduceCtorEq, Int.reduceEq, Int.reduceLT, Int.reduceLE, Int.reduceBEq, Int.reduceBNe, Int.reduceToNat, IntKind.bits, Int.reduceAdd, Int.reduceSub, Int.reduceMul, Int.reduceTDiv, Int.reduceTMod, R7B, take_add, List.append_assoc, List.length_append, Nat.add_assoc, shrink_lit, ball_app, RG, LPB, uv_len, uv_data, uv_p, uv_0, uv_1, uv_2, uv_3, uv_oo, uv_snap, w_0, w_1, w_2, w_o1, w_all, uv_on, uv_og, uv_oh, uv_os, uv_exp, uv_res, urows_len, nums_len, f1, h13, nums_all, bne_self_eq_false, beq_self_eq_true, Nat.le_refl, CW_some, scalar, scalar1, lockAll, lockAt, reduceCtorEq, extrV, List.all_cons, List.all_nil, pairOk, AV.ids, List.contains_cons, List.contains_nil, Nat.reduceBEq, List.all_cons, List.all_nil, Bool.or_self, Bool.not_false, Bool.and_self, Bool.or_false]
                done
            · have f9 : (z == 0) = false := by rw [beq_eq_false_iff_ne]; omega
              rw [kn]
              clear ih
              by_cases hk : k ≤ 10
              · have f1 : (k : Int) ≤ 10 := by omega
                simp only [RB, pickV, eqbV, notV, negV, convV, faddrV, fldV, idxV, eqaggV, iaddrV, isnilV, nilckV, cloV, extrV, slenV, minV, sidxV, abin, cmpInt, params, growLists, fillCells, newAt, rdPtr, wrPtr, AV.cells, asVal, lenOf, boundOf, rowsOf, argIds, freshIn, scalar1, setAll, AV.isData, AV.isYld, Nat.reduceAdd, Nat.reduceMul, Nat.reduceSub, Nat.reduceEqDiff, Nat.reduceLeDiff, Nat.reduceLT, Int.reduceNeg, ↓reduceIte, reduceCtorEq, Int.reduceEq, Int.reduceLT, Int.reduceLE, Int.reduceBEq, Int.reduceBNe, Int.reduceToNat, IntKind.bits, Int.reduceAdd, Int.reduceSub, Int.reduceMul, Int.reduceTDiv, Int.reduceTMod, R7B, take_add, List.append_assoc, List.length_append, Nat.add_assoc, shrink_lit, ball_app, RG, LPB, uv_len, uv_data, uv_p, uv_0, uv_1, uv_2, uv_3, uv_oo, uv_snap, w_0, w_1, w_2, w_o1, w_all, uv_on, uv_og, uv_oh, uv_os, uv_exp, uv_res, urows_len, nums_len, f1, f9, kz, h13, nums_all, bne_self_eq_false, beq_self_eq_true, Nat.le_refl, CW_some, scalar, scalar1, lockAll, lockAt, reduceCtorEq, extrV, List.all_cons, List.all_nil, pairOk, AV.ids, List.contains_cons, List.contains_nil, Nat.reduceBEq, List.all_cons, List.all_nil, Bool.or_self, Bool.not_false, Bool.and_self, Bool.or_false]
                done
              · have f1 : ¬ (k : Int) ≤ 10 := by omega
                simp only [RB, pickV, eqbV, notV, negV, convV, faddrV, fldV, idxV, eqaggV, iaddrV, isnilV, nilckV, cloV, extrV, slenV, minV, sidxV, abin, cmpInt, params, growLists, fillCells, newAt, rdPtr, wrPtr, AV.cells, asVal, lenOf, boundOf, rowsOf, argIds, freshIn, scalar1, setAll, AV.isData, AV.isYld, Nat.reduceAdd, Nat.reduceMul, Nat.reduceSub, Nat.reduceEqDiff, Nat.reduceLeDiff, Nat.reduceLT, Int.reduceNeg, ↓reduceIte, reduceCtorEq, Int.reduceEq, Int.reduceLT, Int.reduceLE, Int.reduceBEq, Int.reduceBNe, Int.reduceToNat, IntKind.bits, Int.reduceAdd, Int.reduceSub, Int.reduceMul, Int.reduceTDiv, Int.reduceTMod, R7B, take_add, List.append_assoc, List.length_append, Nat.add_assoc, shrink_lit, ball_app, RG, LPB, uv_len, uv_data, uv_p, uv_0, uv_1, uv_2, uv_3, uv_oo, uv_snap, w_0, w_1, w_2, w_o1, w_all, uv_on, uv_og, uv_oh, uv_os, uv_exp, uv_res, urows_len, nums_len, f1, f9, kz, h13, nums_all, bne_self_eq_false, beq_self_eq_true, Nat.le_refl, CW_some, scalar, scalar1, lockAll, lockAt, reduceCtorEq, extrV, List.all_cons, List.all_nil, pairOk, AV.ids, List.contains_cons, List.contains_nil, Nat.reduceBEq, List.all_cons, List.all_nil, Bool.or_self, Bool.not_false, Bool.and_self, Bool.or_false]
                done
  · rw [if_neg h2] at h22 h24 h28 h29
    simp only [RB, pickV, eqbV, notV, negV, convV, faddrV, fldV, idxV, eqaggV, iaddrV, isnilV, nilckV, cloV, extrV, slenV, minV, sidxV, abin, cmpInt, params, growLists, fillCells, newAt, rdPtr, wrPtr, AV.cells, asVal, lenOf, boundOf, rowsOf, argIds, freshIn, scalar1, setAll, AV.isData, AV.isYld, Nat.reduceAdd, Nat.reduceMul, Nat.reduceSub, Nat.reduceEqDiff, Nat.reduceLeDiff, Nat.reduceLT, Int.reduceNeg, ↓reduceIte, reduceCtorEq, Int.reduceEq, Int.reduceLT, Int.reduceLE, Int.reduceBEq, Int.reduceBNe, Int.reduceToNat, IntKind.bits, Int.reduceAdd, Int.reduceSub, Int.reduceMul, Int.reduceTDiv, Int.reduceTMod, R7B, take_add, List.append_assoc, List.length_append, Nat.add_assoc, shrink_lit, ball_app, RG, LPB, uv_len, uv_data, uv_p, uv_0, uv_1, uv_2, uv_3, uv_oo, uv_snap, w_0, w_1, w_2, w_o1, w_all, uv_on, uv_og, uv_oh, uv_os, uv_exp, uv_res, urows_len, nums_len, h1, h1', h2, h9, h12, h23, h23b, h17, h18, h22, h24, h28, h29, bne_self_eq_false, beq_self_eq_true, List.length_nil, CW_some, scalar, scalar1, lockAll, lockAt, reduceCtorEq, extrV, List.all_cons, List.all_nil, pairOk, AV.ids, List.contains_cons, List.contains_nil, Nat.reduceBEq, List.all_cons, List.all_nil, Bool.or_self, Bool.not_false, Bool.and_self, Bool.or_false]
    done
end Go.Proofs.Ytabadcnpmfafnaa.F
