/- Part 9 of the proofs of these statements. No condition. -/
import Derived.Test.YtihbammfchnjgaaDoorM8
set_option linter.unusedVariables false
set_option linter.unusedSimpArgs false
/- Where a prefix stands in a table: table.place. No condition. -/
set_option linter.unusedSimpArgs false
namespace Go.Proofs.YtihbammfchnjgaaDoor.D
open Go Go.Proofs.YtihbammfchnjgaaDoor.A
def RiseR (l : List Rw) : Prop := ∀ i j, i < j → j < l.length → cmpP (row l i).p (row l j).p < 0
theorem row_el {l : List Rw} {i : Nat} (h : i < l.length) : row l i = l[i] := by have := row_some l h; rw [List.getElem?_eq_getElem h] at this; exact (Option.some.inj this).symm
theorem Rise.rows {l : List Rw} (h : Rise l) : RiseR l := fun i j hij hj => by
  have := List.pairwise_iff_getElem.1 h i j (by omega) hj hij
  rw [row_el (by omega), row_el hj]; exact this
theorem RiseR.le {l : List Rw} (h : RiseR l) {p : Pfx} {i j : Nat} (hij : i ≤ j) (hj : j < l.length) (hp : cmpP (row l j).p p < 0) : cmpP (row l i).p p < 0 := by
  rcases Nat.lt_or_eq_of_le hij with h1 | rfl
  · exact cmp_trans (h i j h1 hj) hp
  · exact hp
theorem RiseR.ge {l : List Rw} (h : RiseR l) {p : Pfx} {i j : Nat} (hij : i ≤ j) (hj : j < l.length) (hp : 0 ≤ cmpP (row l i).p p) : 0 ≤ cmpP (row l j).p p := by
  by_cases h2 : 0 ≤ cmpP (row l j).p p
  · exact h2
  · have := h.le hij hj (show cmpP (row l j).p p < 0 by omega); omega
def Lo (l : List Rw) (p : Pfx) (i : Nat) : Prop := ∀ j, j < i → cmpP (row l j).p p < 0
def Hi (l : List Rw) (p : Pfx) (i : Nat) : Prop := ∀ j, i ≤ j → j < l.length → 0 ≤ cmpP (row l j).p p
/-- The rows ahead of a prefix, and behind it. -/
def ahead (l : List Rw) (p : Pfx) : List Rw := l.filter fun r => decide (cmpP r.p p < 0)
def past (l : List Rw) (p : Pfx) : List Rw := l.filter fun r => decide (0 < cmpP r.p p)
theorem mem_take_row {l : List Rw} {i : Nat} {r : Rw} (h : r ∈ l.take i) : ∃ j, j < i ∧ j < l.length ∧ r = row l j := by
  obtain ⟨j, hj, rfl⟩ := List.mem_iff_getElem.1 h
  rw [List.length_take] at hj
  exact ⟨j, by omega, by omega, by rw [List.getElem_take, row_el (by omega)]⟩
theorem mem_drop_row {l : List Rw} {i : Nat} {r : Rw} (h : r ∈ l.drop i) : ∃ j, i ≤ j ∧ j < l.length ∧ r = row l j := by
  obtain ⟨j, hj, rfl⟩ := List.mem_iff_getElem.1 h
  rw [List.length_drop] at hj
  exact ⟨i + j, by omega, by omega, by rw [List.getElem_drop, row_el (by omega)]⟩
theorem lo_ahead {l : List Rw} {p : Pfx} {i : Nat} (hlo : Lo l p i) (hhi : Hi l p i) : l.take i = ahead l p := by
  unfold ahead
  conv => rhs; rw [← List.take_append_drop i l]
  rw [List.filter_append, List.filter_eq_self.2 (fun r hr => by
    obtain ⟨j, h1, _, rfl⟩ := mem_take_row hr
    exact decide_eq_true (hlo j h1)), List.filter_eq_nil_iff.2 (fun r hr => by
    obtain ⟨j, h1, h2, rfl⟩ := mem_drop_row hr
    have := hhi j h1 h2
    simp; omega), List.append_nil]
theorem cmp_flip {p q : Pfx} (h : cmpP p q < 0) : 0 < cmpP q p := by have := cmp_anti p q; omega
theorem hi_past {l : List Rw} {p : Pfx} {i n : Nat} (hr : RiseR l) (hlo : Lo l p i) (hhi : Hi l p i) (hn : n = if i < l.length ∧ (row l i).p = p then i + 1 else i) : l.drop n = past l p := by
  unfold past
  conv => rhs; rw [← List.take_append_drop n l]
  rw [List.filter_append, List.filter_eq_nil_iff.2 (fun r hr' => by
    obtain ⟨j, h1, h2, rfl⟩ := mem_take_row hr'
    rcases Nat.lt_or_ge j i with h | h
    · have := hlo j h
      simp; omega
    · split at hn
      · rename_i hc
        obtain rfl : j = i := by omega
        simp [hc.2, cmp_self]
      · omega), List.filter_eq_self.2 (fun r hr' => by
    obtain ⟨j, h1, h2, rfl⟩ := mem_drop_row hr'
    refine decide_eq_true ?_
    split at hn
    · rename_i hc
      have := hr i j (by omega) h2
      rw [hc.2] at this
      exact cmp_flip this
    · rename_i hc
      have h3 := hhi j (by omega) h2
      rcases Nat.lt_or_eq_of_le (show i ≤ j by omega) with h4 | rfl
      · have h5 := hr i j h4 h2
        have h6 := hhi i (Nat.le_refl _) (by omega)
        rcases Int.lt_or_eq_of_le h3 with h7 | h7
        · exact h7
        · rw [cmp_zero h7.symm] at h5; omega
      · rcases Int.lt_or_eq_of_le h3 with h7 | h7
        · exact h7
        · exact absurd ⟨h2, cmp_zero h7.symm⟩ hc), List.nil_append]
end Go.Proofs.YtihbammfchnjgaaDoor.D
namespace Go.Proofs.YtihbammfchnjgaaDoor.F
open Go Go.Proofs.YtihbammfchnjgaaDoor.A Go.Proofs.YtihbammfchnjgaaDoor.D
theorem r90 {ys : List Hd} {pend : List (Option AExit)} (bs : List Blk) (r : Rw) (p : Pfx) : ∃ e, LR E ys 90 [.agg (rav r), .agg (pav p)] ⟨bs, pend⟩ = some (.int .i64 (cmpP r.p p), ⟨bs ++ e, pend⟩) := by
  refine ⟨[.box 0 59 (rav r), .box 0 32 (pav p)], ?_⟩
  rw [LR_R (fn := f90) rfl rfl rfl]
  simp only [f90, RB, pickV, eqbV, notV, negV, convV, faddrV, fldV, idxV, eqaggV, iaddrV, isnilV, nilckV, cloV, extrV, slenV, minV, sidxV, abin, cmpInt, params, growLists, fillCells, newAt, rdPtr, wrPtr, AV.cells, asVal, lenOf, boundOf, rowsOf, argIds, freshIn, scalar1, setAll, AV.isData, AV.isYld, Nat.reduceAdd, Nat.reduceMul, Nat.reduceSub, Nat.reduceEqDiff, Nat.reduceLeDiff, Nat.reduceLT, Int.reduceNeg, ↓reduceIte, reduceCtorEq, Int.reduceEq, Int.reduceLT, Int.reduceLE, Int.reduceBEq, Int.reduceBNe, Int.reduceToNat, IntKind.bits, Int.reduceAdd, Int.reduceSub, Int.reduceMul, Int.reduceTDiv, Int.reduceTMod, DB, DB2, R7B, take_add, List.append_assoc, List.length_append, Nat.add_assoc, shrink_lit, ball_app, RG, LPB, e86]
theorem r89 {ys : List Hd} {bs : List Blk} {pend : List (Option AExit)} {v : AV} {l : List Rw} (p : Pfx) (hn : l.length ≤ 1000000) (hv : SlV bs 19 v (rrows l)) (hr : RiseR l) (hlow : belowAll bs.length bs = true) :
    ∃ e i, i ≤ l.length ∧ Lo l p i ∧ Hi l p i ∧ LR E ys 89 [v, .agg (pav p), .clo 90 []] ⟨bs, pend⟩ = some (.tup [.int .i64 (i : Nat), .bool (decide (i < l.length ∧ (row l i).p = p))], ⟨bs ++ e, pend⟩) := by
  have huf := hv.uf
  have hlen := hv.len
  rw [rrows_len] at hlen
  have hlo : ∀ m, bs.length ≤ m → v.refsLt m = true := fun m h => by
    have := hv.low
    have h2 := belowL_mono h [v] (by simp [belowL, this])
    simpa [belowL] using h2
  have hlo1 := hlo (bs.length + 1) (by omega)
  have hb1 : belowAll (bs.length + 1) bs = true := belowAll_mono (by omega) hlow
  have hbb : belowAll (bs.length + 1) (bs ++ [.box 0 32 (pav p)]) = true := by rw [ball_app, belowAll_mono (by omega) hlow]; simp [LPB, pav_below]
  have hget : ∀ ext k, k < l.length → ∃ q, iaddrV (bs ++ ext) 19 none v (.int .i64 (k : Int)) = some q ∧ ∀ ext', rdPtr (bs ++ ext') q 19 = some (rav (row l k)) := fun ext k hk => by
    obtain ⟨q, h1, h2⟩ := hv.get ext k (by rw [rrows_len]; exact hk)
    exact ⟨q, h1, fun ext' => by rw [h2, rrows_get l hk]⟩
  have hld : rdPtr (bs ++ [.box 0 32 (pav p)]) (.ptr bs.length 0 0 0) 18 = some (pav p) := by
    simp only [rdPtr, A.get_at rfl, List.getElem?_cons_zero, and_self, if_true, pav_p]
  suffices H : ∃ e i, i ≤ l.length ∧ Lo l p i ∧ Hi l p i ∧ LR E ys 89 [v, .agg (pav p), .clo 90 []] ⟨bs, pend⟩ = some (.tup [.int .i64 (i : Nat), .bool (decide (i < l.length ∧ (row l i).p = p))], ⟨bs ++ e, pend⟩) from H
  rw [LR_R (fn := f89) rfl rfl rfl]
  simp only [f89, RB, pickV, eqbV, notV, negV, convV, faddrV, fldV, idxV, eqaggV, isnilV, nilckV, cloV, extrV, slenV, minV, sidxV, abin, cmpInt, params, growLists, fillCells, newAt, AV.cells, asVal, boundOf, argIds, freshIn, scalar1, setAll, AV.isData, AV.isYld, Nat.reduceAdd, Nat.reduceMul, Nat.reduceSub, Nat.reduceEqDiff, Nat.reduceLeDiff, Nat.reduceLT, Int.reduceNeg, ↓reduceIte, reduceCtorEq, Int.reduceEq, Int.reduceLT, Int.reduceLE, Int.reduceBEq, Int.reduceBNe, Int.reduceToNat, IntKind.bits, Int.reduceAdd, Int.reduceSub, Int.reduceMul, Int.reduceTDiv, Int.reduceTMod, DB, DB2, R7B, take_add, List.append_assoc, List.length_append, Nat.add_assoc, shrink_lit, ball_app, RG, LPB, huf, hlen]
  refine W_recP2 (ι := {s : Nat × Nat // s.1 ≤ s.2 ∧ s.2 ≤ l.length ∧ Lo l p s.1 ∧ Hi l p s.2}) (M := fun s => [(0, v), (2, .clo 90 []), (4, .ptr bs.length 0 0 0), (8, .int .i64 (l.length : Int)), (9, .int .i64 (s.1.1 : Int)), (10, .int .i64 (s.1.2 : Int))])
    (H := fun _ => ⟨bs ++ [.box 0 32 (pav p)], pend⟩)
    (Q := fun _ x => ∃ e i, i ≤ l.length ∧ Lo l p i ∧ Hi l p i ∧ x = some ((AV.tup [.int .i64 (i : Nat), .bool (decide (i < l.length ∧ (row l i).p = p))], ⟨bs ++ e, pend⟩) : AV × Hp)) (μ := fun s => s.1.2 - s.1.1) (fun s => ?_) (fun s ih => ?_) ⟨(0, l.length), Nat.zero_le _, Nat.le_refl _, fun j h => by omega, fun j h1 h2 => by omega⟩ rfl rfl
  · exact ⟨by simp only [List.map_cons, List.map_nil, LPB, hlo1, Bool.and_self]; simp, hbb⟩
  · obtain ⟨⟨lo, hi⟩, h1, h2, h3, h4⟩ := s
    simp only at h1 h2 h3 h4 ih ⊢
    by_cases hk : lo < hi
    · have f1 : (lo : Int) < (hi : Int) := by omega
      have w1 : IntKind.i64.wrap ((lo : Int) + (hi : Int)) = ((lo + hi : Nat) : Int) := by rw [IntWalk.i64_in _ (by omega)]; omega
      have w2 : IntKind.u64.wrap ((lo + hi : Nat) : Int) = ((lo + hi : Nat) : Int) := IntWalk.u64_in _ (by omega)
      have w3 : ((lo + hi : Nat) : Int).fdiv (2 ^ (Nat.min 1 64)) = (((lo + hi) / 2 : Nat) : Int) := by
        rw [show Nat.min 1 64 = 1 from rfl, Int.fdiv_eq_ediv_of_nonneg _ (by decide)]; omega
      have w4 : IntKind.i64.wrap (((lo + hi) / 2 : Nat) : Int) = (((lo + hi) / 2 : Nat) : Int) := IntWalk.i64_in _ (by omega)
      have w5 : IntKind.i64.wrap ((((lo + hi) / 2 : Nat) : Int) + 1) = (((lo + hi) / 2 + 1 : Nat) : Int) := by rw [IntWalk.i64_in _ (by omega)]; omega
      have hm1 : lo ≤ (lo + hi) / 2 := by omega
      have hm2 : (lo + hi) / 2 < hi := by omega
      generalize (lo + hi) / 2 = m at *
      obtain ⟨q, g1, g2⟩ := hget [.box 0 32 (pav p)] m (by omega)
      obtain ⟨e, h90⟩ := r90 (ys := ys) (pend := pend) (bs ++ [.box 0 32 (pav p)]) (row l m) p
      have hsh : shrink false (bs.length + 1) (.int .i64 (cmpP (row l m).p p)) ⟨(bs ++ [.box 0 32 (pav p)]) ++ e, pend⟩ = some ⟨bs ++ [.box 0 32 (pav p)], pend⟩ := shrink_app (by simp) rfl hbb
      simp only [List.append_assoc] at h90 hsh
      by_cases hc : cmpP (row l m).p p < 0
      · simp only [RB, pickV, eqbV, notV, negV, convV, faddrV, fldV, idxV, eqaggV, isnilV, nilckV, cloV, extrV, slenV, minV, sidxV, abin, cmpInt, params, growLists, fillCells, newAt, AV.cells, asVal, boundOf, argIds, freshIn, scalar1, setAll, AV.isData, AV.isYld, Nat.reduceAdd, Nat.reduceMul, Nat.reduceSub, Nat.reduceEqDiff, Nat.reduceLeDiff, Nat.reduceLT, Int.reduceNeg, ↓reduceIte, reduceCtorEq, Int.reduceEq, Int.reduceLT, Int.reduceLE, Int.reduceBEq, Int.reduceBNe, Int.reduceToNat, IntKind.bits, Int.reduceAdd, Int.reduceSub, Int.reduceMul, Int.reduceTDiv, Int.reduceTMod, DB, DB2, R7B, take_add, List.append_assoc, List.length_append, Nat.add_assoc, shrink_lit, ball_app, RG, LPB, f1, w1, w2, w3, w4, w5, huf, g1, g2, hld, hb1, h90, hsh, hc]
        exact ih ⟨(m + 1, hi), by omega, h2, fun j hj => hr.le (show j ≤ m by omega) (by omega) hc, h4⟩ (by simp only; omega)
      · simp only [RB, pickV, eqbV, notV, negV, convV, faddrV, fldV, idxV, eqaggV, isnilV, nilckV, cloV, extrV, slenV, minV, sidxV, abin, cmpInt, params, growLists, fillCells, newAt, AV.cells, asVal, boundOf, argIds, freshIn, scalar1, setAll, AV.isData, AV.isYld, Nat.reduceAdd, Nat.reduceMul, Nat.reduceSub, Nat.reduceEqDiff, Nat.reduceLeDiff, Nat.reduceLT, Int.reduceNeg, ↓reduceIte, reduceCtorEq, Int.reduceEq, Int.reduceLT, Int.reduceLE, Int.reduceBEq, Int.reduceBNe, Int.reduceToNat, IntKind.bits, Int.reduceAdd, Int.reduceSub, Int.reduceMul, Int.reduceTDiv, Int.reduceTMod, DB, DB2, R7B, take_add, List.append_assoc, List.length_append, Nat.add_assoc, shrink_lit, ball_app, RG, LPB, f1, w1, w2, w3, w4, w5, huf, g1, g2, hld, hb1, h90, hsh, hc]
        exact ih ⟨(lo, m), by omega, by omega, h3, fun j hj hj2 => hr.ge hj hj2 (Int.not_lt.1 hc)⟩ (by simp only; omega)
    · have e : lo = hi := by omega
      subst e
      simp only [RB, pickV, eqbV, notV, negV, convV, faddrV, fldV, idxV, eqaggV, isnilV, nilckV, cloV, extrV, slenV, minV, sidxV, abin, cmpInt, params, growLists, fillCells, newAt, AV.cells, asVal, boundOf, argIds, freshIn, scalar1, setAll, AV.isData, AV.isYld, Nat.reduceAdd, Nat.reduceMul, Nat.reduceSub, Nat.reduceEqDiff, Nat.reduceLeDiff, Nat.reduceLT, Int.reduceNeg, ↓reduceIte, reduceCtorEq, Int.reduceEq, Int.reduceLT, Int.reduceLE, Int.reduceBEq, Int.reduceBNe, Int.reduceToNat, IntKind.bits, Int.reduceAdd, Int.reduceSub, Int.reduceMul, Int.reduceTDiv, Int.reduceTMod, DB, DB2, R7B, take_add, List.append_assoc, List.length_append, Nat.add_assoc, shrink_lit, ball_app, RG, LPB, hk, show ¬ (lo : Int) < (lo : Int) by omega]
      by_cases hl : lo < l.length
      · have f1 : (lo : Int) < (l.length : Int) := by omega
        obtain ⟨q, g1, g2⟩ := hget [.box 0 32 (pav p)] lo hl
        obtain ⟨e, h90⟩ := r90 (ys := ys) (pend := pend) (bs ++ [.box 0 32 (pav p)]) (row l lo) p
        have hsh : shrink false (bs.length + 1) (.int .i64 (cmpP (row l lo).p p)) ⟨(bs ++ [.box 0 32 (pav p)]) ++ e, pend⟩ = some ⟨bs ++ [.box 0 32 (pav p)], pend⟩ := shrink_app (by simp) rfl hbb
        simp only [List.append_assoc] at h90 hsh
        have hz : (cmpP (row l lo).p p == 0) = decide ((row l lo).p = p) := by
          by_cases hh : (row l lo).p = p
          · rw [decide_eq_true hh, hh, cmp_self]; rfl
          · rw [decide_eq_false hh, beq_eq_false_iff_ne]; exact fun h => hh (cmp_zero h)
        refine ⟨[.box 0 32 (pav p)], lo, h2, h3, h4, ?_⟩
        simp only [RB, pickV, eqbV, notV, negV, convV, faddrV, fldV, idxV, eqaggV, isnilV, nilckV, cloV, extrV, slenV, minV, sidxV, abin, cmpInt, params, growLists, fillCells, newAt, AV.cells, asVal, boundOf, argIds, freshIn, scalar1, setAll, AV.isData, AV.isYld, Nat.reduceAdd, Nat.reduceMul, Nat.reduceSub, Nat.reduceEqDiff, Nat.reduceLeDiff, Nat.reduceLT, Int.reduceNeg, ↓reduceIte, reduceCtorEq, Int.reduceEq, Int.reduceLT, Int.reduceLE, Int.reduceBEq, Int.reduceBNe, Int.reduceToNat, IntKind.bits, Int.reduceAdd, Int.reduceSub, Int.reduceMul, Int.reduceTDiv, Int.reduceTMod, DB, DB2, R7B, take_add, List.append_assoc, List.length_append, Nat.add_assoc, shrink_lit, ball_app, RG, LPB, f1, huf, g1, g2, hld, hb1, h90, hsh, hz, hl]
      · refine ⟨[.box 0 32 (pav p)], lo, h2, h3, h4, ?_⟩
        simp only [RB, pickV, eqbV, notV, negV, convV, faddrV, fldV, idxV, eqaggV, isnilV, nilckV, cloV, extrV, slenV, minV, sidxV, abin, cmpInt, params, growLists, fillCells, newAt, AV.cells, asVal, boundOf, argIds, freshIn, scalar1, setAll, AV.isData, AV.isYld, Nat.reduceAdd, Nat.reduceMul, Nat.reduceSub, Nat.reduceEqDiff, Nat.reduceLeDiff, Nat.reduceLT, Int.reduceNeg, ↓reduceIte, reduceCtorEq, Int.reduceEq, Int.reduceLT, Int.reduceLE, Int.reduceBEq, Int.reduceBNe, Int.reduceToNat, IntKind.bits, Int.reduceAdd, Int.reduceSub, Int.reduceMul, Int.reduceTDiv, Int.reduceTMod, DB, DB2, R7B, take_add, List.append_assoc, List.length_append, Nat.add_assoc, shrink_lit, ball_app, RG, LPB, show ¬ (lo : Int) < (l.length : Int) by omega, hl]
theorem e69 (x : List Rw) (p : Pfx) (hn : x.length ≤ 1000000) (hr : RiseR x) : ∃ i, i ≤ x.length ∧ Lo x p i ∧ Hi x p i ∧ LV E 69 [.agg [.ro (rrows x)], .agg (pav p)] = some (.tup [.int .i64 (i : Nat), .bool (decide (i < x.length ∧ (row x i).p = p))]) := by
  obtain ⟨e, i, k1, k2, k3, k4⟩ := r89 (ys := []) (pend := []) (bs := [.box 0 24 [.ro (rrows x)], .box 0 32 (pav p)]) (v := .ro (rrows x)) (l := x) p hn (SlV.ro (fun r hr => by
      simp only [rrows, List.mem_map] at hr; obtain ⟨y, _, rfl⟩ := hr; exact rav_len y)) hr (by simp [LPB, pav_below])
  refine ⟨i, k1, k2, k3, ?_⟩
  rw [LV_R (fn := f69) rfl rfl rfl]
  simp only [f69, RB, pickV, eqbV, notV, negV, convV, faddrV, fldV, idxV, eqaggV, iaddrV, isnilV, nilckV, cloV, extrV, slenV, minV, sidxV, abin, cmpInt, params, growLists, fillCells, newAt, rdPtr, wrPtr, AV.cells, asVal, lenOf, boundOf, rowsOf, argIds, freshIn, scalar1, setAll, AV.isData, AV.isYld, Nat.reduceAdd, Nat.reduceMul, Nat.reduceSub, Nat.reduceEqDiff, Nat.reduceLeDiff, Nat.reduceLT, Int.reduceNeg, ↓reduceIte, reduceCtorEq, Int.reduceEq, Int.reduceLT, Int.reduceLE, Int.reduceBEq, Int.reduceBNe, Int.reduceToNat, IntKind.bits, Int.reduceAdd, Int.reduceSub, Int.reduceMul, Int.reduceTDiv, Int.reduceTMod, DB, DB2, R7B, take_add, List.append_assoc, List.length_append, Nat.add_assoc, shrink_lit, ball_app, RG, LPB, k4]
  done
end Go.Proofs.YtihbammfchnjgaaDoor.F

/- table.Set and table.Drop. No condition. -/
set_option linter.unusedSimpArgs false
namespace Go.Proofs.YtihbammfchnjgaaDoor.D
open Go Go.Proofs.YtihbammfchnjgaaDoor.A
def There (x : List Rw) (p : Pfx) : Prop := ∃ r ∈ x, r.p = p
instance {x : List Rw} {p : Pfx} : Decidable (There x p) := by unfold There; infer_instance
def putR (x : List Rw) (r : Rw) : List Rw := ahead x r.p ++ [r] ++ past x r.p
def setS (x : List Rw) (p : Pfx) (h : Int) : List Rw × Int :=
  if TabOk x then if PfxOk p ∧ hopOk h then if There x p then (putR x ⟨p, h⟩, 0) else if x.length = 40 then ([], 6) else (putR x ⟨p, h⟩, 0) else ([], 2) else ([], 190)
def dropS (x : List Rw) (p : Pfx) : List Rw × Int :=
  if TabOk x then if There x p then (ahead x p ++ past x p, 0) else ([], 4) else ([], 190)
def tupT (s : List Rw × Int) : AV := .tup [.agg [.ro (rrows s.1)], .int .i64 s.2]
theorem there_iff {x : List Rw} {p : Pfx} {i : Nat} (hlo : Lo x p i) (hhi : Hi x p i) (hr : RiseR x) : There x p ↔ i < x.length ∧ (row x i).p = p := by
  constructor
  · rintro ⟨r, hr1, rfl⟩
    obtain ⟨j, hj, rfl⟩ := List.mem_iff_getElem.1 hr1
    have e : row x j = x[j] := row_el hj
    rw [← e] at hlo hhi ⊢
    have h1 : ¬ j < i := fun h => by have := hlo j h; rw [cmp_self] at this; omega
    rcases Nat.lt_or_eq_of_le (Nat.not_lt.1 h1) with h2 | rfl
    · have h3 := hr i j h2 hj
      have := hhi i (Nat.le_refl _) (by omega)
      omega
    · exact ⟨hj, rfl⟩
  · rintro ⟨h1, h2⟩
    exact ⟨row x i, by rw [row_el h1]; exact List.getElem_mem h1, h2⟩
theorem LR_prim {E : Env} {ys : List Hd} {hp : Hp} {f : FuncId} {args : List AV} {p : List AV → List Blk → Option (AV × List Blk)} (h1 : E.prim f = some p) (ha : args.any AV.isYld = false) : LR E ys f args hp = (p args hp.bs).map fun r => (r.1, { hp with bs := r.2 }) := by
  rw [LR_eq, h1]; simp [ha]
theorem expIn_tab (bs : List Blk) (a b c d : Nat) : expIn false bs (.agg [.lis a b c d]) = (expCell false bs (.lis a b c d)).map fun x => .agg [x] := by
  show ([AV.lis a b c d].mapM (expCell false bs)).map AV.agg = _
  rw [List.mapM_cons]
  cases expCell false bs (.lis a b c d) <;> rfl
theorem rrows_set (l : List Rw) {i : Nat} (h : Int) (hi : i < l.length) : (rrows l).set i (rav ⟨(row l i).p, h⟩) = rrows (l.take i ++ [⟨(row l i).p, h⟩] ++ l.drop (i + 1)) := by
  unfold rrows
  rw [← List.map_set, List.set_eq_take_append_cons_drop, if_pos hi]; simp
theorem rrows_ins (l : List Rw) (i : Nat) (r : Rw) : (rrows l).take i ++ [rav r] ++ (rrows l).drop i = rrows (l.take i ++ [r] ++ l.drop i) := by
  unfold rrows; simp [List.map_take, List.map_drop]
end Go.Proofs.YtihbammfchnjgaaDoor.D
namespace Go.Proofs.YtihbammfchnjgaaDoor.F
open Go Go.Proofs.YtihbammfchnjgaaDoor.A Go.Proofs.YtihbammfchnjgaaDoor.D
theorem e70 (l : List Rw) (hl : l.length ≤ 1000000) : LV E 70 [.ro (rrows l)] = some (.fresh 59 19 (rrows l)) := by
  rw [LV_prim (p := pClone 59 19 40) rfl]
  have h : ((rrows l).all fun r => r.length == 19) = true := by
    rw [List.all_eq_true]; intro r hr
    obtain ⟨p, _, rfl⟩ := List.mem_map.1 hr
    simp [rav_len]
  have h2 : (rrows l).length * 40 ≤ 140737488355328 := by rw [rrows_len]; omega
  simp only [pClone, rowsOf, h, h2, true_and, show 0 < 19 by omega, and_self, if_true, Option.bind_some, expRes_lis, expCell, List.getElem?_cons_zero, Nat.zero_add, Nat.le_refl, List.drop_zero, List.take_length]
theorem r71 {ys : List Hd} {bs : List Blk} {pend : List (Option AExit)} {id g id2 g2 lk2 : Nat} {l : List Rw} {n i : Nat} (r : Rw) (hb : bs[id]? = some (.lst 0 g 59 19 (rrows l))) (hb2 : bs[id2]? = some (.lst lk2 g2 59 19 [rav r])) (hn : l.length = n) (hi : i ≤ n) (hne : id ≠ id2) (hl : n ≤ 1000000) :
    LR E ys 71 [.lis id g 0 n, .int .i64 (i : Nat), .lis id2 g2 0 1] ⟨bs, pend⟩ = some (.lis id (g + 1) 0 (n + 1), ⟨bs.set id (.lst 0 (g + 1) 59 19 (rrows (l.take i ++ [r] ++ l.drop i))), pend⟩) := by
  rw [LR_prim (p := pInsert 59 19 40) rfl rfl]
  subst hn
  unfold pInsert
  simp only [hb, hb2, rrows_len, true_and, and_true, and_self, List.length_singleton, hne, ne_eq, not_false_eq_true, show (0 : Int) ≤ (i : Nat) by omega, show ((i : Nat) : Int) ≤ (l.length : Nat) by omega, show (l.length + 1) * 40 ≤ 140737488355328 by omega, show l.length + 1 ≤ 4611686018427387904 by omega, if_true, Int.toNat_natCast, rrows_ins, Option.map_some]
theorem e38 (x : List Rw) (p : Pfx) (h : Int) (hx : x.length ≤ 1000000) : LV E 38 [.agg [.ro (rrows x)], .agg (pav p), .int .i64 h] = some (tupT (setS x p h)) := by
  rw [LV_R (fn := f38) rfl rfl rfl]
  have h60 := e60 x (by omega)
  unfold setS tupT
  by_cases k1 : TabOk x
  · by_cases k2 : PfxOk p
    · by_cases k3 : hopOk h
      · obtain ⟨i, i1, i2, i3, h69⟩ := e69 x p hx k1.rise.rows
        have ht := there_iff i2 i3 k1.rise.rows
        by_cases k4 : There x p
        · have k5 := ht.1 k4
          have g2 : (i : Int) < (x.length : Int) := by omega
          have g3 : (0 : Int) ≤ (i : Int) := by omega
          have hq : putR x ⟨p, h⟩ = x.take i ++ [⟨(row x i).p, h⟩] ++ x.drop (i + 1) := by
            unfold putR; rw [k5.2, lo_ahead i2 i3, hi_past k1.rise.rows i2 i3 (if_pos k5).symm]
          have hR : (rrows x).set i (rav ⟨p, h⟩) = rrows (putR x ⟨p, h⟩) := by
            have := rrows_set x h k5.1
            rw [hq, ← this, k5.2]
          have hl : (putR x ⟨p, h⟩).length = x.length := by rw [hq]; simp; omega
          have hT : (rrows (putR x ⟨p, h⟩)).take x.length = rrows (putR x ⟨p, h⟩) := List.take_of_length_le (by rw [rrows_len, hl]; exact Nat.le_refl _)
          have k7 : (row x i).p = p := k5.2
          simp only [f38, ← rav_zer, RB, pickV, eqbV, notV, negV, convV, faddrV, fldV, idxV, eqaggV, iaddrV, isnilV, nilckV, cloV, extrV, slenV, minV, sidxV, abin, cmpInt, params, growLists, fillCells, newAt, rdPtr, wrPtr, AV.cells, asVal, lenOf, boundOf, rowsOf, argIds, freshIn, scalar1, setAll, AV.isData, AV.isYld, Nat.reduceAdd, Nat.reduceMul, Nat.reduceSub, Nat.reduceEqDiff, Nat.reduceLeDiff, Nat.reduceLT, Int.reduceNeg, ↓reduceIte, reduceCtorEq, Int.reduceEq, Int.reduceLT, Int.reduceLE, Int.reduceBEq, Int.reduceBNe, Int.reduceToNat, IntKind.bits, Int.reduceAdd, Int.reduceSub, Int.reduceMul, Int.reduceTDiv, Int.reduceTMod, DB, DB2, R7B, take_add, List.append_assoc, List.length_append, Nat.add_assoc, shrink_lit, ball_app, RG, LPB, h60, k1, e67, k2, e68, k3, h69, e70 x hx, k4, k5.1, k7, g2, g3, rrows_get x k5.1, D.rav_oh, hR, hl, hT, expIn_tab, expCell, List.nodup_cons, List.nodup_nil, List.not_mem_nil, not_false_eq_true, not_true_eq_false, and_true, and_false, if_false, List.mem_cons, mutIds, lisFits, rrows_len, Nat.le_refl]
        · have k5 : decide (i < x.length ∧ (row x i).p = p) = false := decide_eq_false fun h => k4 (ht.2 h)
          have hq : putR x ⟨p, h⟩ = x.take i ++ [⟨p, h⟩] ++ x.drop i := by
            unfold putR; rw [lo_ahead i2 i3, hi_past k1.rise.rows i2 i3 (if_neg fun h => k4 (ht.2 h)).symm]
          have hl : (putR x ⟨p, h⟩).length = x.length + 1 := by rw [hq]; simp; omega
          have hT : (rrows (putR x ⟨p, h⟩)).take (x.length + 1) = rrows (putR x ⟨p, h⟩) := List.take_of_length_le (by rw [rrows_len, hl]; exact Nat.le_refl _)
          by_cases k6 : x.length = 40
          · have k7 : ((x.length : Int) == 40) = true := by rw [beq_iff_eq]; omega
            simp only [f38, ← rav_zer, RB, pickV, eqbV, notV, negV, convV, faddrV, fldV, idxV, eqaggV, iaddrV, isnilV, nilckV, cloV, extrV, slenV, minV, sidxV, abin, cmpInt, params, growLists, fillCells, newAt, rdPtr, wrPtr, AV.cells, asVal, lenOf, boundOf, rowsOf, argIds, freshIn, scalar1, setAll, AV.isData, AV.isYld, Nat.reduceAdd, Nat.reduceMul, Nat.reduceSub, Nat.reduceEqDiff, Nat.reduceLeDiff, Nat.reduceLT, Int.reduceNeg, ↓reduceIte, reduceCtorEq, Int.reduceEq, Int.reduceLT, Int.reduceLE, Int.reduceBEq, Int.reduceBNe, Int.reduceToNat, IntKind.bits, Int.reduceAdd, Int.reduceSub, Int.reduceMul, Int.reduceTDiv, Int.reduceTMod, DB, DB2, R7B, take_add, List.append_assoc, List.length_append, Nat.add_assoc, shrink_lit, ball_app, RG, LPB, h60, k1, e67, k2, e68, k3, h69, e70 x hx, k4, k5, k7, expIn_tab, expCell, List.nodup_cons, List.nodup_nil, List.not_mem_nil, not_false_eq_true, not_true_eq_false, and_true, and_false, if_false, List.mem_cons, mutIds, rrows_nil, if_pos k6]
          · have k7 : ((x.length : Int) == 40) = false := by rw [beq_eq_false_iff_ne]; omega
            have h71 := r71 (ys := []) (pend := []) (bs := [.box 0 24 [.ro (rrows x)], .dead, .box 0 32 (pav p), .box 0 24 [.lis 4 0 0 0], .lst 0 0 59 19 [], .lst 0 0 59 19 (rrows x), .box 0 24 [.lis 5 0 0 x.length], .lst 0 0 59 19 [], .lst 0 0 59 19 [rav ⟨p, h⟩]]) (id := 5) (g := 0) (id2 := 8) (g2 := 0) (lk2 := 0) (l := x) (n := x.length) (i := i) ⟨p, h⟩ rfl rfl rfl i1 (by decide) hx
            rw [← hq] at h71
            simp only [List.set_cons_succ, List.set_cons_zero] at h71
            simp only [f38, ← rav_zer, RB, pickV, eqbV, notV, negV, convV, faddrV, fldV, idxV, eqaggV, iaddrV, isnilV, nilckV, cloV, extrV, slenV, minV, sidxV, abin, cmpInt, params, growLists, fillCells, newAt, rdPtr, wrPtr, AV.cells, asVal, lenOf, boundOf, rowsOf, argIds, freshIn, scalar1, setAll, AV.isData, AV.isYld, Nat.reduceAdd, Nat.reduceMul, Nat.reduceSub, Nat.reduceEqDiff, Nat.reduceLeDiff, Nat.reduceLT, Int.reduceNeg, ↓reduceIte, reduceCtorEq, Int.reduceEq, Int.reduceLT, Int.reduceLE, Int.reduceBEq, Int.reduceBNe, Int.reduceToNat, IntKind.bits, Int.reduceAdd, Int.reduceSub, Int.reduceMul, Int.reduceTDiv, Int.reduceTMod, DB, DB2, R7B, take_add, List.append_assoc, List.length_append, Nat.add_assoc, shrink_lit, ball_app, RG, LPB, h60, k1, e67, k2, e68, k3, h69, e70 x hx, k4, k5, k7, expIn_tab, expCell, List.nodup_cons, List.nodup_nil, List.not_mem_nil, not_false_eq_true, not_true_eq_false, and_true, and_false, if_false, List.mem_cons, mutIds, if_neg k6, D.rav_op, D.rav_oh, O_buildSlq, quietOk, aop_buildSl, fillRows, asData, aappend, h71, hl, hT, rrows_len, Nat.le_refl]
            done
      · simp only [f38, RB, pickV, eqbV, notV, negV, convV, faddrV, fldV, idxV, eqaggV, iaddrV, isnilV, nilckV, cloV, extrV, slenV, minV, sidxV, abin, cmpInt, params, growLists, fillCells, newAt, rdPtr, wrPtr, AV.cells, asVal, lenOf, boundOf, rowsOf, argIds, freshIn, scalar1, setAll, AV.isData, AV.isYld, Nat.reduceAdd, Nat.reduceMul, Nat.reduceSub, Nat.reduceEqDiff, Nat.reduceLeDiff, Nat.reduceLT, Int.reduceNeg, ↓reduceIte, reduceCtorEq, Int.reduceEq, Int.reduceLT, Int.reduceLE, Int.reduceBEq, Int.reduceBNe, Int.reduceToNat, IntKind.bits, Int.reduceAdd, Int.reduceSub, Int.reduceMul, Int.reduceTDiv, Int.reduceTMod, DB, DB2, R7B, take_add, List.append_assoc, List.length_append, Nat.add_assoc, shrink_lit, ball_app, RG, LPB, h60, k1, e67, k2, e68, k3, expIn_tab, expCell, List.nodup_cons, List.nodup_nil, List.not_mem_nil, not_false_eq_true, not_true_eq_false, and_true, and_false, if_false, List.mem_cons, mutIds, rrows_nil]
        done
    · simp only [f38, RB, pickV, eqbV, notV, negV, convV, faddrV, fldV, idxV, eqaggV, iaddrV, isnilV, nilckV, cloV, extrV, slenV, minV, sidxV, abin, cmpInt, params, growLists, fillCells, newAt, rdPtr, wrPtr, AV.cells, asVal, lenOf, boundOf, rowsOf, argIds, freshIn, scalar1, setAll, AV.isData, AV.isYld, Nat.reduceAdd, Nat.reduceMul, Nat.reduceSub, Nat.reduceEqDiff, Nat.reduceLeDiff, Nat.reduceLT, Int.reduceNeg, ↓reduceIte, reduceCtorEq, Int.reduceEq, Int.reduceLT, Int.reduceLE, Int.reduceBEq, Int.reduceBNe, Int.reduceToNat, IntKind.bits, Int.reduceAdd, Int.reduceSub, Int.reduceMul, Int.reduceTDiv, Int.reduceTMod, DB, DB2, R7B, take_add, List.append_assoc, List.length_append, Nat.add_assoc, shrink_lit, ball_app, RG, LPB, h60, k1, e67, k2, expIn_tab, expCell, List.nodup_cons, List.nodup_nil, List.not_mem_nil, not_false_eq_true, not_true_eq_false, and_true, and_false, if_false, List.mem_cons, mutIds, rrows_nil]
      done
  · simp only [f38, RB, pickV, eqbV, notV, negV, convV, faddrV, fldV, idxV, eqaggV, iaddrV, isnilV, nilckV, cloV, extrV, slenV, minV, sidxV, abin, cmpInt, params, growLists, fillCells, newAt, rdPtr, wrPtr, AV.cells, asVal, lenOf, boundOf, rowsOf, argIds, freshIn, scalar1, setAll, AV.isData, AV.isYld, Nat.reduceAdd, Nat.reduceMul, Nat.reduceSub, Nat.reduceEqDiff, Nat.reduceLeDiff, Nat.reduceLT, Int.reduceNeg, ↓reduceIte, reduceCtorEq, Int.reduceEq, Int.reduceLT, Int.reduceLE, Int.reduceBEq, Int.reduceBNe, Int.reduceToNat, IntKind.bits, Int.reduceAdd, Int.reduceSub, Int.reduceMul, Int.reduceTDiv, Int.reduceTMod, DB, DB2, R7B, take_add, List.append_assoc, List.length_append, Nat.add_assoc, shrink_lit, ball_app, RG, LPB, h60, k1, expIn_tab, expCell, List.nodup_cons, List.nodup_nil, List.not_mem_nil, not_false_eq_true, not_true_eq_false, and_true, and_false, if_false, List.mem_cons, mutIds, rrows_nil]
    done
theorem r75 {ys : List Hd} {bs : List Blk} {pend : List (Option AExit)} {id g : Nat} {l : List Rw} {n i : Nat} (hb : bs[id]? = some (.lst 0 g 59 19 (rrows l))) (hn : l.length = n) (hi : i < n) (hl : n ≤ 1000000) (hlow : belowAll bs.length bs = true) :
    ∃ z e, LR E ys 75 [.lis id g 0 n, .int .i64 (i : Nat), .int .i64 ((i + 1 : Nat) : Int)] ⟨bs, pend⟩ = some (.lis id g 0 (n - 1), ⟨bs.set id (.lst 0 g 59 19 (rrows (l.take i ++ l.drop (i + 1)) ++ z)) ++ e, pend⟩) := by
  subst hn
  have hA : ∀ r, (bs ++ r)[id]? = some (.lst 0 g 59 19 (rrows l)) := fun r => get_lt hb
  have ia := (List.getElem?_eq_some_iff.1 hb).1
  have sA : ∀ r x, (bs ++ r).set id x = bs.set id x ++ r := fun r x => by rw [List.set_append_left _ _ ia]
  have f1 : (i : Int) < (l.length : Int) := by omega
  have f2 : (0 : Int) ≤ (i : Int) := by omega
  have f3 : ((i : Int) == ((i + 1 : Nat) : Int)) = false := by rw [beq_eq_false_iff_ne]; omega
  have g1 : i ≤ i + 1 := by omega
  have g2 : i + 1 ≤ l.length := by omega
  have g3 : l.length ≤ l.length := Nat.le_refl _
  have g4 : i ≤ l.length := by omega
  have g5 : ¬ (l.length < i) := by omega
  have h1 : (l.drop (i + 1)).take (l.length - (i + 1)) = l.drop (i + 1) := List.take_of_length_le (by simp)
  have h2 : headFits 19 (rrows (l.drop (i + 1))) = true := by
    cases l.drop (i + 1) with
    | nil => rfl
    | cons r t => simp [rrows, headFits, rav_len]
  have h3 : i + (1 + (l.length - (i + 1))) ≤ l.length := by omega
  have h4 : i + (l.length - (i + 1)) = l.length - 1 := by omega
  have h5 : l.length - 1 ≤ l.length := by omega
  have h6 : (rrows (l.drop (l.length - 1))).length = 1 := by rw [rrows_len, List.length_drop]; omega
  have hB : ∀ X r, (bs.set id X ++ r)[id]? = some X := fun X r => by rw [List.getElem?_append_left (by rw [List.length_set]; exact ia), List.getElem?_set_self ia]
  have sB : ∀ X r Y, (bs.set id X ++ r).set id Y = bs.set id Y ++ r := fun X r Y => by rw [List.set_append_left _ _ (by rw [List.length_set]; exact ia), List.set_set]
  have h7 : min i l.length + (l.length - (i + 1) + 1) = l.length := by omega
  have h8 : (0 : Int) ≤ ((l.length - 1 : Nat) : Int) := by omega
  have h9 : ((l.length - 1 : Nat) : Int).toNat = l.length - 1 := by omega
  have h10 : l.length - (l.length - 1) = 1 := by omega
  have h11 : l.length - 1 + 1 ≤ l.length := by omega
  have h12 : (l.take i ++ (l.drop (i + 1) ++ l.drop (l.length - 1))).take (l.length - 1) = l.take i ++ l.drop (i + 1) := by
    rw [← List.append_assoc]; exact List.take_left' (by simp only [List.length_append, List.length_take, List.length_drop]; omega)
  rw [LR_R (fn := f75) rfl rfl rfl]
  simp only [f75, ← rav_zer, RB, pickV, eqbV, notV, negV, convV, faddrV, fldV, idxV, eqaggV, iaddrV, isnilV, nilckV, cloV, extrV, slenV, minV, sidxV, abin, cmpInt, params, growLists, fillCells, newAt, rdPtr, wrPtr, AV.cells, asVal, lenOf, boundOf, rowsOf, argIds, freshIn, scalar1, setAll, AV.isData, AV.isYld, Nat.reduceAdd, Nat.reduceMul, Nat.reduceSub, Nat.reduceEqDiff, Nat.reduceLeDiff, Nat.reduceLT, Int.reduceNeg, ↓reduceIte, reduceCtorEq, Int.reduceEq, Int.reduceLT, Int.reduceLE, Int.reduceBEq, Int.reduceBNe, Int.reduceToNat, IntKind.bits, Int.reduceAdd, Int.reduceSub, Int.reduceMul, Int.reduceTDiv, Int.reduceTMod, DB, DB2, R7B, take_add, List.append_assoc, List.length_append, Nat.add_assoc, shrink_lit, ball_app, RG, LPB, hA, sA, f1, f2, f3, asliceL, boundOf, lisFits, rrows_len, Int.toNat_natCast, Option.isSome_some, Option.isSome_none, g1, g2, g3, aslice, g4, g5, aappIn, h1, h2, h3, h4, h5, List.length_drop, List.length_take, hB, sB, List.length_set, h7, h8, h9, List.length_append, h10, aop, h11, h12]
  refine ⟨rrows (zerR :: (l.take i ++ (l.drop (i + 1) ++ l.drop (l.length - 1))).drop (l.length - 1 + 1)), [.lst 0 0 59 19 []], ?_⟩
  simp only [rrows, List.map_append, List.append_assoc]
end Go.Proofs.YtihbammfchnjgaaDoor.F

/- table.Drop. No condition. -/
set_option linter.unusedSimpArgs false
namespace Go.Proofs.YtihbammfchnjgaaDoor.F
open Go Go.Proofs.YtihbammfchnjgaaDoor.A Go.Proofs.YtihbammfchnjgaaDoor.D
theorem e41 (x : List Rw) (p : Pfx) (hx : x.length ≤ 1000000) : LV E 41 [.agg [.ro (rrows x)], .agg (pav p)] = some (tupT (dropS x p)) := by
  rw [LV_R (fn := f41) rfl rfl rfl]
  have h60 := e60 x (by omega)
  unfold dropS tupT
  by_cases k1 : TabOk x
  · obtain ⟨i, i1, i2, i3, h69⟩ := e69 x p hx k1.rise.rows
    have ht := there_iff i2 i3 k1.rise.rows
    by_cases k4 : There x p
    · have k5 := ht.1 k4
      have k7 : (row x i).p = p := k5.2
      have f6 : IntKind.i64.wrap ((i : Int) + 1) = ((i + 1 : Nat) : Int) := by rw [IntWalk.i64_in _ (by omega)] <;> omega
      obtain ⟨z, e, h75⟩ := r75 (ys := []) (pend := []) (bs := [.box 0 24 [.ro (rrows x)], .box 0 32 (pav p), .box 0 24 [.lis 3 0 0 0], .lst 0 0 59 19 [], .lst 0 0 59 19 (rrows x)]) (id := 4) (g := 0) (l := x) rfl rfl k5.1 hx (by simp [LPB, pav_below])
      simp only [List.set_cons_succ, List.set_cons_zero, List.cons_append, List.nil_append] at h75
      have hq : D.ahead x p ++ past x p = x.take i ++ x.drop (i + 1) := by
        rw [lo_ahead i2 i3, hi_past k1.rise.rows i2 i3 (if_pos k5).symm]
      have hc : x.length - 1 ≤ (x.take i).length + ((x.drop (i + 1)).length + z.length) := by simp only [List.length_take, List.length_drop]; omega
      have hT : (rrows (x.take i ++ x.drop (i + 1)) ++ z).take (x.length - 1) = rrows (D.ahead x p ++ past x p) := by
        rw [hq]; exact List.take_left' (by simp only [rrows_len, List.length_append, List.length_take, List.length_drop]; omega)
      simp only [f41, ← rav_zer, RB, pickV, eqbV, notV, negV, convV, faddrV, fldV, idxV, eqaggV, iaddrV, isnilV, nilckV, cloV, extrV, slenV, minV, sidxV, abin, cmpInt, params, growLists, fillCells, newAt, rdPtr, wrPtr, AV.cells, asVal, lenOf, boundOf, rowsOf, argIds, freshIn, scalar1, setAll, AV.isData, AV.isYld, Nat.reduceAdd, Nat.reduceMul, Nat.reduceSub, Nat.reduceEqDiff, Nat.reduceLeDiff, Nat.reduceLT, Int.reduceNeg, ↓reduceIte, reduceCtorEq, Int.reduceEq, Int.reduceLT, Int.reduceLE, Int.reduceBEq, Int.reduceBNe, Int.reduceToNat, IntKind.bits, Int.reduceAdd, Int.reduceSub, Int.reduceMul, Int.reduceTDiv, Int.reduceTMod, DB, DB2, R7B, take_add, List.append_assoc, List.length_append, Nat.add_assoc, shrink_lit, ball_app, RG, LPB, h60, k1, h69, e70 x hx, k4, k5.1, k7, f6, h75, expIn_tab, expCell, List.nodup_cons, List.nodup_nil, List.not_mem_nil, not_false_eq_true, not_true_eq_false, and_true, and_false, if_false, List.mem_cons, mutIds, hc, hT]
    · have k5 : decide (i < x.length ∧ (row x i).p = p) = false := decide_eq_false fun h => k4 (ht.2 h)
      simp only [f41, ← rav_zer, RB, pickV, eqbV, notV, negV, convV, faddrV, fldV, idxV, eqaggV, iaddrV, isnilV, nilckV, cloV, extrV, slenV, minV, sidxV, abin, cmpInt, params, growLists, fillCells, newAt, rdPtr, wrPtr, AV.cells, asVal, lenOf, boundOf, rowsOf, argIds, freshIn, scalar1, setAll, AV.isData, AV.isYld, Nat.reduceAdd, Nat.reduceMul, Nat.reduceSub, Nat.reduceEqDiff, Nat.reduceLeDiff, Nat.reduceLT, Int.reduceNeg, ↓reduceIte, reduceCtorEq, Int.reduceEq, Int.reduceLT, Int.reduceLE, Int.reduceBEq, Int.reduceBNe, Int.reduceToNat, IntKind.bits, Int.reduceAdd, Int.reduceSub, Int.reduceMul, Int.reduceTDiv, Int.reduceTMod, DB, DB2, R7B, take_add, List.append_assoc, List.length_append, Nat.add_assoc, shrink_lit, ball_app, RG, LPB, h60, k1, h69, k4, k5, expIn_tab, expCell, List.nodup_cons, List.nodup_nil, List.not_mem_nil, not_false_eq_true, not_true_eq_false, and_true, and_false, if_false, List.mem_cons, mutIds, rrows_nil]
  · simp only [f41, RB, pickV, eqbV, notV, negV, convV, faddrV, fldV, idxV, eqaggV, iaddrV, isnilV, nilckV, cloV, extrV, slenV, minV, sidxV, abin, cmpInt, params, growLists, fillCells, newAt, rdPtr, wrPtr, AV.cells, asVal, lenOf, boundOf, rowsOf, argIds, freshIn, scalar1, setAll, AV.isData, AV.isYld, Nat.reduceAdd, Nat.reduceMul, Nat.reduceSub, Nat.reduceEqDiff, Nat.reduceLeDiff, Nat.reduceLT, Int.reduceNeg, ↓reduceIte, reduceCtorEq, Int.reduceEq, Int.reduceLT, Int.reduceLE, Int.reduceBEq, Int.reduceBNe, Int.reduceToNat, IntKind.bits, Int.reduceAdd, Int.reduceSub, Int.reduceMul, Int.reduceTDiv, Int.reduceTMod, DB, DB2, R7B, take_add, List.append_assoc, List.length_append, Nat.add_assoc, shrink_lit, ball_app, RG, LPB, h60, k1, expIn_tab, expCell, List.nodup_cons, List.nodup_nil, List.not_mem_nil, not_false_eq_true, not_true_eq_false, and_true, and_false, if_false, List.mem_cons, mutIds, rrows_nil]
end Go.Proofs.YtihbammfchnjgaaDoor.F

/- What may be set where it is free: the plain law. No condition. -/
set_option linter.unusedSimpArgs false
set_option linter.unusedSectionVars false
namespace Go.Proofs.YtihbammfchnjgaaDoor.F
open Go Go.Proofs.YtihbammfchnjgaaDoor.A Go.Proofs.YtihbammfchnjgaaDoor.D
theorem ofP_holds {q : Pfx} {bits : Int} (hq : PfxOk q) (h : q.bits ≤ bits) (hw : bits ≤ width q.adr.ver) : Holds q (ofP q.adr bits) ∧ (ofP q.adr bits).bits = bits := by
  have h0 := hq.2.1
  have e : ofP q.adr bits = ⟨⟨q.adr.ver, cut q.adr.b bits.toNat⟩, bits⟩ := if_pos ⟨hq.1, by omega, hw⟩
  rw [e]
  refine ⟨holds_of hq ⟨⟨hq.1.1, fun k h1 h2 => ?_⟩, by simp only; omega, hw, fun k h1 h2 => ?_⟩ h rfl ?_, rfl⟩
  · simp only at h1 ⊢
    rw [cut_bit _ _ h2, hq.1.2 k h1 h2, Bool.and_false]
  · simp only at h1 ⊢
    rw [cut_bit _ _ h2]
    simp; omega
  · simp only
    rw [cut_cut' _ (by omega)]
    exact cut_clr hq.2.2.2
theorem firstS_ok (l : List Rw) (p : Pfx) (bits : Int) : ∀ (n : Nat) (q f : Pfx), PfxOk q → q.bits + n = bits → bits ≤ width q.adr.ver → firstS l p bits n q = some f → Holds q f ∧ f.bits = bits ∧ ∀ x ∈ l, ¬ Holds f x.p := by
  intro n
  induction n with
  | zero =>
    intro q f hq hn hw h
    rw [firstS_eq] at h
    split at h
    · cases h
    · split at h
      · cases h
      · rename_i h2
        cases h
        obtain ⟨k1, k2⟩ := ofP_holds hq (show q.bits ≤ bits by omega) hw
        refine ⟨k1, k2, fun x hx hh => h2 (List.any_eq_true.2 ⟨x, hx, decide_eq_true (holds_trans k1 hh)⟩)⟩
  | succ n ih =>
    intro q f hq hn hw h
    rw [firstS_eq] at h
    split at h
    · cases h
    · split at h
      · have hz := zbit_ok hq (by omega)
        have ho := obit_ok hq (by omega)
        simp only at h
        split at h
        · rename_i f' hf
          cases h
          obtain ⟨k1, k2, k3⟩ := ih (zbit q) f hz.ok.2.1 (by show q.bits + 1 + (n : Int) = bits; omega) (by have := hz.ok.2.2.2.1; rw [← this]; exact hw) hf
          exact ⟨holds_trans hz k1, k2, k3⟩
        · obtain ⟨k1, k2, k3⟩ := ih (obit q) f ho.ok.2.1 (by show q.bits + 1 + (n : Int) = bits; omega) (by have := ho.ok.2.2.2.1; rw [← this]; exact hw) h
          exact ⟨holds_trans ho k1, k2, k3⟩
      · rename_i h2
        cases h
        obtain ⟨k1, k2⟩ := ofP_holds hq (show q.bits ≤ bits by omega) hw
        refine ⟨k1, k2, fun x hx hh => h2 (List.any_eq_true.2 ⟨x, hx, decide_eq_true (holds_trans k1 hh)⟩)⟩
/-- What is free holds nothing. -/
theorem freeR_ok {T : List Rw} {p : Pfx} {bits : Int} (he : (freeR T p bits).err = 0) (ho : (freeR T p bits).ok = true) :
    TabOk T ∧ Holds p (freeR T p bits).pfx ∧ (freeR T p bits).pfx.bits = bits ∧ ∀ x ∈ T, ¬ Holds (freeR T p bits).pfx x.p := by
  unfold freeR at *
  split at he
  · rename_i k1
    split at he
    · rename_i k2
      split at he
      · rename_i k3
        rw [if_pos k1, if_pos k2, if_pos k3] at *
        simp only at ho ⊢
        rw [free_same k2 k3.1 k3.2] at *
        obtain ⟨f, hf⟩ := Option.isSome_iff_exists.1 ho
        have := firstS_ok T p bits _ p f k2 (by omega) k3.2 hf
        rw [hf]
        exact ⟨k1, this⟩
      · cases he
    · cases he
  · cases he
section
variable {T : List Rw} {f : Pfx} (hT : TabOk T) (hf : PfxOk f) (hn : ∀ x ∈ T, ¬ Holds f x.p)
include hT hf hn
theorem may_not : ¬ There T f := by
  rintro ⟨r, hr, rfl⟩
  exact hn r hr (holds_refl hf)
theorem may_split : T = D.ahead T f ++ past T f := by
  obtain ⟨i, h1, h2, h3⟩ : ∃ i, i ≤ T.length ∧ Lo T f i ∧ Hi T f i := by
    obtain ⟨i, h1, h2, h3, _⟩ := F.e69 T f (by have := hT.len; omega) hT.rise.rows
    exact ⟨i, h1, h2, h3⟩
  have h4 := hi_past hT.rise.rows h2 h3 (n := i) (if_neg fun h => may_not hT hf hn ((there_iff h2 h3 hT.rise.rows).2 h)).symm
  rw [← lo_ahead h2 h3, ← h4, List.take_append_drop]
theorem may_rise (h : Int) : Rise (putR T ⟨f, h⟩) := by
  unfold putR Rise
  rw [List.append_assoc, List.pairwise_append]
  refine ⟨hT.rise.filter _, ?_, fun a ha b hb => ?_⟩
  · rw [List.singleton_append, List.pairwise_cons]
    refine ⟨fun b hb => ?_, hT.rise.filter _⟩
    have := (List.mem_filter.1 hb).2
    have h1 := cmp_anti b.p f
    simp at this; simp only; omega
  · have h1 : cmpP a.p f < 0 := by simpa using (List.mem_filter.1 ha).2
    rcases List.mem_cons.1 hb with rfl | hb
    · exact h1
    · have h2 : 0 < cmpP b.p f := by simpa using (List.mem_filter.1 hb).2
      exact cmp_trans h1 (by have := cmp_anti b.p f; omega)
theorem may_len (h : Int) : (putR T ⟨f, h⟩).length = T.length + 1 := by
  have e := may_split hT hf hn
  have e2 := congrArg List.length e
  unfold putR
  simp only [List.length_append, List.length_singleton] at e2 ⊢; omega
theorem may_tab {h : Int} (hh : hopOk h) (hl : T.length ≠ 40) : TabOk (putR T ⟨f, h⟩) := by
  refine tab_of (by rw [may_len hT hf hn]; have := hT.len; omega) (may_rise hT hf hn h) fun r hr => ?_
  unfold putR at hr
  simp only [List.mem_append, List.mem_singleton] at hr
  rcases hr with (hr | rfl) | hr
  · exact hT.mem (List.mem_filter.1 hr).1
  · exact ⟨hf, hh⟩
  · exact hT.mem (List.mem_filter.1 hr).1
theorem may_long (h : Int) (a : Adr) : longS a (putR T ⟨f, h⟩) none = if Has f a then some ⟨f, h⟩ else longS a T none := by
  rw [long_last _ _ (may_rise hT hf hn h) (fun b hb => by cases hb), long_last _ _ hT.rise (fun b hb => by cases hb)]
  have e := may_split hT hf hn
  by_cases k : Has f a
  · rw [if_pos k]
    have e1 : (past T f).filter (fun r => decide (Has r.p a)) = [] := List.filter_eq_nil_iff.2 fun r hr => by
      obtain ⟨m1, m2⟩ := List.mem_filter.1 hr
      have m2 : 0 < cmpP r.p f := by simpa using m2
      simp only [decide_eq_true_eq]
      exact fun hh => hn r m1 (has_lt k hh (by have := cmp_anti r.p f; omega)).2
    unfold putR
    simp only [List.filter_append, e1, List.append_nil]
    rw [show [(⟨f, h⟩ : Rw)].filter (fun r => decide (Has r.p a)) = [⟨f, h⟩] by simp [k]]
    rw [List.getLast?_append]; rfl
  · rw [if_neg k]
    conv => rhs; rw [e]
    unfold putR
    simp only [List.filter_append]
    rw [show [(⟨f, h⟩ : Rw)].filter (fun r => decide (Has r.p a)) = [] by simp [k], List.append_nil]
end
end Go.Proofs.YtihbammfchnjgaaDoor.F

/- QueryMay: the run. No condition. -/
set_option linter.unusedSimpArgs false
namespace Go.Proofs.YtihbammfchnjgaaDoor.F
open Go Go.Proofs.YtihbammfchnjgaaDoor.A Go.Proofs.YtihbammfchnjgaaDoor.D
theorem arows_fit (l : List Adr) : headFits 17 (arows l) = true := by
  cases l with
  | nil => rfl
  | cons a l => simp [arows, headFits, aav_len]
theorem arows_fits (l : List Adr) {n : Nat} (hn : n ≤ l.length) : rowFits 17 0 n (arows l) = true := by simp [rowFits]
theorem arows_take (l : List Adr) (n : Nat) : (arows l).take n = arows (l.take n) := by simp [arows, List.map_take]
theorem arows_append (l r : List Adr) : arows l ++ arows r = arows (l ++ r) := by simp [arows]
theorem arows_snoc (l : List Adr) (a : Adr) : arows l ++ [aav a] = arows (l ++ [a]) := by simp [arows]
theorem afit1 (a : Adr) : headFits 17 [aav a] = true := arows_fit [a]
set_option maxRecDepth 4000 in
theorem mayLaw (x : List Rw) (p : Pfx) (l : List Adr) (hl : l.length ≤ 9223372036854775807) : LV E 9 [.agg [.ro (rrows x)], .agg (pav p), .ro (arows l)] = some (.bool true) := by
  have hT : (x.take 41).length ≤ 1000000 := by simp; omega
  rw [LV_R (fn := f9) rfl rfl rfl]
  simp only [f9, ← pav_zer, ← rav_zer, ← aav_zer, RB, pickV, eqbV, notV, negV, convV, faddrV, fldV, idxV, eqaggV, iaddrV, isnilV, nilckV, cloV, extrV, slenV, minV, sidxV, abin, cmpInt, params, growLists, fillCells, newAt, rdPtr, wrPtr, AV.cells, asVal, lenOf, boundOf, rowsOf, argIds, freshIn, scalar1, setAll, AV.isData, AV.isYld, Nat.reduceAdd, Nat.reduceMul, Nat.reduceSub, Nat.reduceEqDiff, Nat.reduceLeDiff, Nat.reduceLT, Int.reduceNeg, ↓reduceIte, reduceCtorEq, Int.reduceEq, Int.reduceLT, Int.reduceLE, Int.reduceBEq, Int.reduceBNe, Int.reduceToNat, IntKind.bits, Int.reduceAdd, Int.reduceSub, Int.reduceMul, Int.reduceTDiv, Int.reduceTMod, DB, DB2, R7B, e11, e12, arows_len]
  generalize x.take 41 = T at *
  generalize hb : IntKind.i64.wrap (p.bits + (l.length : Int).tmod 9) = bits at *
  simp only [RB, pickV, eqbV, notV, negV, convV, faddrV, fldV, idxV, eqaggV, iaddrV, isnilV, nilckV, cloV, extrV, slenV, minV, sidxV, abin, cmpInt, params, growLists, fillCells, newAt, rdPtr, wrPtr, AV.cells, asVal, lenOf, boundOf, rowsOf, argIds, freshIn, scalar1, setAll, AV.isData, AV.isYld, Nat.reduceAdd, Nat.reduceMul, Nat.reduceSub, Nat.reduceEqDiff, Nat.reduceLeDiff, Nat.reduceLT, Int.reduceNeg, ↓reduceIte, reduceCtorEq, Int.reduceEq, Int.reduceLT, Int.reduceLE, Int.reduceBEq, Int.reduceBNe, Int.reduceToNat, IntKind.bits, Int.reduceAdd, Int.reduceSub, Int.reduceMul, Int.reduceTDiv, Int.reduceTMod, DB, DB2, R7B, e20 T hT, CW_some, scalar, scalar1, lockAll, lockAt, reduceCtorEq, extrV, List.all_cons, List.all_nil, expCell, List.nodup_cons, List.nodup_nil, List.not_mem_nil, not_false_eq_true, not_true_eq_false, and_true, and_false, if_false, List.mem_cons, mutIds]
  cases he : ((freeR T p bits).err != 0) with
  | true => simp only [RB, pickV, eqbV, notV, negV, convV, faddrV, fldV, idxV, eqaggV, iaddrV, isnilV, nilckV, cloV, extrV, slenV, minV, sidxV, abin, cmpInt, params, growLists, fillCells, newAt, rdPtr, wrPtr, AV.cells, asVal, lenOf, boundOf, rowsOf, argIds, freshIn, scalar1, setAll, AV.isData, AV.isYld, Nat.reduceAdd, Nat.reduceMul, Nat.reduceSub, Nat.reduceEqDiff, Nat.reduceLeDiff, Nat.reduceLT, Int.reduceNeg, ↓reduceIte, reduceCtorEq, Int.reduceEq, Int.reduceLT, Int.reduceLE, Int.reduceBEq, Int.reduceBNe, Int.reduceToNat, IntKind.bits, Int.reduceAdd, Int.reduceSub, Int.reduceMul, Int.reduceTDiv, Int.reduceTMod, DB, DB2, R7B, he]
  | false =>
  cases ho : (freeR T p bits).ok with
  | false => simp only [RB, pickV, eqbV, notV, negV, convV, faddrV, fldV, idxV, eqaggV, iaddrV, isnilV, nilckV, cloV, extrV, slenV, minV, sidxV, abin, cmpInt, params, growLists, fillCells, newAt, rdPtr, wrPtr, AV.cells, asVal, lenOf, boundOf, rowsOf, argIds, freshIn, scalar1, setAll, AV.isData, AV.isYld, Nat.reduceAdd, Nat.reduceMul, Nat.reduceSub, Nat.reduceEqDiff, Nat.reduceLeDiff, Nat.reduceLT, Int.reduceNeg, ↓reduceIte, reduceCtorEq, Int.reduceEq, Int.reduceLT, Int.reduceLE, Int.reduceBEq, Int.reduceBNe, Int.reduceToNat, IntKind.bits, Int.reduceAdd, Int.reduceSub, Int.reduceMul, Int.reduceTDiv, Int.reduceTMod, DB, DB2, R7B, he, ho]
  | true =>
  obtain ⟨k1, k2, k3, k4⟩ := freeR_ok (by simpa using he) ho
  have he' := he
  generalize hR : freeR T p bits = R at *
  obtain ⟨f, ok, err⟩ := R
  simp only at he he' ho k2 k3 k4
  have k5 : PfxOk f := k2.ok.2.1
  have hF : (T.filter fun r => decide (Holds f r.p)) = [] := List.filter_eq_nil_iff.2 fun r hr => by simpa using k4 r hr
  have h40 := k1.len
  have kn : ¬ There T f := may_not k1 k5 k4
  have kh : hopOk 7 := ⟨by decide, by decide⟩
  have hs : setS T f 7 = if T.length = 40 then ([], 6) else (putR T ⟨f, 7⟩, 0) := by
    unfold setS; rw [if_pos k1, if_pos ⟨k5, kh⟩, if_neg kn]
  have b1 : (bits != bits) = false := by simp
  by_cases k6 : T.length = 40
  · rw [if_pos k6] at hs
    simp only [RB, pickV, eqbV, notV, negV, convV, faddrV, fldV, idxV, eqaggV, iaddrV, isnilV, nilckV, cloV, extrV, slenV, minV, sidxV, abin, cmpInt, params, growLists, fillCells, newAt, rdPtr, wrPtr, AV.cells, asVal, lenOf, boundOf, rowsOf, argIds, freshIn, scalar1, setAll, AV.isData, AV.isYld, Nat.reduceAdd, Nat.reduceMul, Nat.reduceSub, Nat.reduceEqDiff, Nat.reduceLeDiff, Nat.reduceLT, Int.reduceNeg, ↓reduceIte, reduceCtorEq, Int.reduceEq, Int.reduceLT, Int.reduceLE, Int.reduceBEq, Int.reduceBNe, Int.reduceToNat, IntKind.bits, Int.reduceAdd, Int.reduceSub, Int.reduceMul, Int.reduceTDiv, Int.reduceTMod, DB, DB2, R7B, he, ho, e23 T hT, k1, k5, hF, k3, b1, e37, k2, e38 T f 7 hT, hs, tupT, rrows_nil, List.length_nil, CW_some, scalar, scalar1, lockAll, lockAt, reduceCtorEq, extrV, List.all_cons, List.all_nil, expCell, List.nodup_cons, List.nodup_nil, List.not_mem_nil, not_false_eq_true, not_true_eq_false, and_true, and_false, if_false, List.mem_cons, mutIds]
  · rw [if_neg k6] at hs
    have hN : (putR T ⟨f, 7⟩).length ≤ 1000000 := by rw [may_len k1 k5 k4]; omega
    have kN : TabOk (putR T ⟨f, 7⟩) := may_tab k1 k5 k4 kh k6
    obtain ⟨m, um, um1, um2⟩ : ∃ n : Nat, aminmax false .i64 (l.length : Int) [.int .i64 12] = some (.int .i64 (n : Int)) ∧ n ≤ l.length ∧ n ≤ 12 := by
      by_cases h : (12 : Int) < (l.length : Int)
      · exact ⟨12, by simp [aminmax, h], by omega, Nat.le_refl _⟩
      · exact ⟨l.length, by simp [aminmax, h], Nat.le_refl _, by omega⟩
    have f3 : (0 : Int) ≤ (m : Int) := by omega
    have l1 : (l.take m).length = m := by simp; omega
    have f7 : (m + 1) * 24 ≤ 140737488355328 := by omega
    have f8 : m + 1 ≤ 4611686018427387904 := by omega
    simp only [RB, pickV, eqbV, notV, negV, convV, faddrV, fldV, idxV, eqaggV, iaddrV, isnilV, nilckV, cloV, extrV, slenV, minV, sidxV, abin, cmpInt, params, growLists, fillCells, newAt, rdPtr, wrPtr, AV.cells, asVal, lenOf, boundOf, rowsOf, argIds, freshIn, scalar1, setAll, AV.isData, AV.isYld, Nat.reduceAdd, Nat.reduceMul, Nat.reduceSub, Nat.reduceEqDiff, Nat.reduceLeDiff, Nat.reduceLT, Int.reduceNeg, ↓reduceIte, reduceCtorEq, Int.reduceEq, Int.reduceLT, Int.reduceLE, Int.reduceBEq, Int.reduceBNe, Int.reduceToNat, IntKind.bits, Int.reduceAdd, Int.reduceSub, Int.reduceMul, Int.reduceTDiv, Int.reduceTMod, DB, DB2, R7B, take_add, List.append_assoc, List.length_append, Nat.add_assoc, shrink_lit, ball_app, RG, LPB, he, ho, e23 T hT, k1, k5, hF, k3, b1, e37, k2, e38 T f 7 hT, hs, tupT, rrows_nil, List.length_nil, CW_some, scalar, scalar1, lockAll, lockAt, reduceCtorEq, extrV, List.all_cons, List.all_nil, expCell, List.nodup_cons, List.nodup_nil, List.not_mem_nil, not_false_eq_true, not_true_eq_false, and_true, and_false, if_false, List.mem_cons, mutIds, arows_len, um, aslice, um1, f3, arows_fits l um1, arows_take, arows_fit, arows_snoc, afit1, O_buildSlq, quietOk, aop_buildSl, fillRows, asData, aappend, l1, f7, f8]
    generalize hL : l.take m ++ [f.adr] = L at *
    have hn : L.length = m + 1 := by rw [← hL]; simp [l1]
    rw [← hn]
    refine (W_rec2 (β := AV) (ι := {k : Nat // k ≤ L.length}) (M := fun s => [(7, .ptr 2 0 0 0), (9, .ptr 4 0 0 0), (13, .ptr 6 0 0 0), (93, .lis 9 0 0 L.length), (94, .int .i64 (L.length : Int)), (95, .int .i64 (s.1 : Int))])
      (H := fun _ => ⟨[.box 0 24 [.ro (rrows x)], .box 0 32 (pav p), .box 0 24 [.ro (rrows T)], .lst 0 0 59 19 [], .box 0 32 (pav f), .lst 0 0 59 19 [], .box 0 24 [.ro (rrows (putR T ⟨f, 7⟩))], .lst 0 0 59 19 [], .dead, .lst 0 0 30 17 (arows L)], []⟩)
      (r := fun _ => some (AV.bool true)) (μ := fun s => L.length - s.1) (fun s => ?_) (fun s ih => ?_) ⟨0, Nat.zero_le _⟩ rfl rfl)
    · simp [LPB, pav_below]
    · obtain ⟨k, hka⟩ := s
      simp only at ih ⊢
      by_cases hk : k < L.length
      · have g1 : (k : Int) < (L.length : Int) := by omega
        have g2 : (0 : Int) ≤ (k : Int) := by omega
        have g3 : ((k : Int) == 13) = false := by rw [beq_eq_false_iff_ne]; omega
        have g6 : IntKind.i64.wrap ((k : Int) + 1) = ((k + 1 : Nat) : Int) := by rw [IntWalk.i64_in _ (by omega)] <;> omega
        have g7 := arows_get L hk
        generalize L[k] = a at g7
        have ih := ih ⟨k + 1, hk⟩ (by simp only; omega)
        simp only at ih
        have hlo := may_long k1 k5 k4 7 a
        by_cases h2 : AddrOk a
        · by_cases h3 : Has f a
          · rw [if_pos h3] at hlo
            simp only [RB, pickV, eqbV, notV, negV, convV, faddrV, fldV, idxV, eqaggV, iaddrV, isnilV, nilckV, cloV, extrV, slenV, minV, sidxV, abin, cmpInt, params, growLists, fillCells, newAt, rdPtr, wrPtr, AV.cells, asVal, lenOf, boundOf, rowsOf, argIds, freshIn, scalar1, setAll, AV.isData, AV.isYld, Nat.reduceAdd, Nat.reduceMul, Nat.reduceSub, Nat.reduceEqDiff, Nat.reduceLeDiff, Nat.reduceLT, Int.reduceNeg, ↓reduceIte, reduceCtorEq, Int.reduceEq, Int.reduceLT, Int.reduceLE, Int.reduceBEq, Int.reduceBNe, Int.reduceToNat, IntKind.bits, Int.reduceAdd, Int.reduceSub, Int.reduceMul, Int.reduceTDiv, Int.reduceTMod, DB, DB2, R7B, take_add, List.append_assoc, List.length_append, Nat.add_assoc, shrink_lit, ball_app, RG, LPB, g1, g2, g3, g6, g7, lisFits, hk, e36 T hT, e36 _ hN, k1, kN, h2, hlo, e39, h3, bne_self_eq_false, CW_some, scalar, scalar1, lockAll, lockAt, reduceCtorEq, extrV, List.all_cons, List.all_nil, Option.isSome_some, Option.getD_some]
            exact ih
          · rw [if_neg h3] at hlo
            simp only [RB, pickV, eqbV, notV, negV, convV, faddrV, fldV, idxV, eqaggV, iaddrV, isnilV, nilckV, cloV, extrV, slenV, minV, sidxV, abin, cmpInt, params, growLists, fillCells, newAt, rdPtr, wrPtr, AV.cells, asVal, lenOf, boundOf, rowsOf, argIds, freshIn, scalar1, setAll, AV.isData, AV.isYld, Nat.reduceAdd, Nat.reduceMul, Nat.reduceSub, Nat.reduceEqDiff, Nat.reduceLeDiff, Nat.reduceLT, Int.reduceNeg, ↓reduceIte, reduceCtorEq, Int.reduceEq, Int.reduceLT, Int.reduceLE, Int.reduceBEq, Int.reduceBNe, Int.reduceToNat, IntKind.bits, Int.reduceAdd, Int.reduceSub, Int.reduceMul, Int.reduceTDiv, Int.reduceTMod, DB, DB2, R7B, take_add, List.append_assoc, List.length_append, Nat.add_assoc, shrink_lit, ball_app, RG, LPB, g1, g2, g3, g6, g7, lisFits, hk, e36 T hT, e36 _ hN, k1, kN, h2, hlo, e39, h3, bne_self_eq_false, CW_some, scalar, scalar1, lockAll, lockAt, reduceCtorEq, extrV, List.all_cons, List.all_nil]
            exact ih
        · simp only [RB, pickV, eqbV, notV, negV, convV, faddrV, fldV, idxV, eqaggV, iaddrV, isnilV, nilckV, cloV, extrV, slenV, minV, sidxV, abin, cmpInt, params, growLists, fillCells, newAt, rdPtr, wrPtr, AV.cells, asVal, lenOf, boundOf, rowsOf, argIds, freshIn, scalar1, setAll, AV.isData, AV.isYld, Nat.reduceAdd, Nat.reduceMul, Nat.reduceSub, Nat.reduceEqDiff, Nat.reduceLeDiff, Nat.reduceLT, Int.reduceNeg, ↓reduceIte, reduceCtorEq, Int.reduceEq, Int.reduceLT, Int.reduceLE, Int.reduceBEq, Int.reduceBNe, Int.reduceToNat, IntKind.bits, Int.reduceAdd, Int.reduceSub, Int.reduceMul, Int.reduceTDiv, Int.reduceTMod, DB, DB2, R7B, take_add, List.append_assoc, List.length_append, Nat.add_assoc, shrink_lit, ball_app, RG, LPB, g1, g2, g3, g6, g7, lisFits, hk, e36 T hT, e36 _ hN, k1, kN, h2, bne_self_eq_false, CW_some, scalar, scalar1, lockAll, lockAt, reduceCtorEq, extrV, List.all_cons, List.all_nil]
          exact ih
      · simp only [RB, pickV, eqbV, notV, negV, convV, faddrV, fldV, idxV, eqaggV, iaddrV, isnilV, nilckV, cloV, extrV, slenV, minV, sidxV, abin, cmpInt, params, growLists, fillCells, newAt, rdPtr, wrPtr, AV.cells, asVal, lenOf, boundOf, rowsOf, argIds, freshIn, scalar1, setAll, AV.isData, AV.isYld, Nat.reduceAdd, Nat.reduceMul, Nat.reduceSub, Nat.reduceEqDiff, Nat.reduceLeDiff, Nat.reduceLT, Int.reduceNeg, ↓reduceIte, reduceCtorEq, Int.reduceEq, Int.reduceLT, Int.reduceLE, Int.reduceBEq, Int.reduceBNe, Int.reduceToNat, IntKind.bits, Int.reduceAdd, Int.reduceSub, Int.reduceMul, Int.reduceTDiv, Int.reduceTMod, DB, DB2, R7B, take_add, List.append_assoc, List.length_append, Nat.add_assoc, shrink_lit, ball_app, RG, LPB, show ¬ (k : Int) < (L.length : Int) by omega]
end Go.Proofs.YtihbammfchnjgaaDoor.F
