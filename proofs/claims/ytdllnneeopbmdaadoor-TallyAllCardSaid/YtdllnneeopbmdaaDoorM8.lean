/- Part 8 of the proofs of these statements. No condition. -/
import Derived.Test.YtdllnneeopbmdaaDoorM7
set_option linter.unusedVariables false
set_option linter.unusedSimpArgs false
/- Tallies and packets that are read. No condition. -/
set_option linter.unusedSimpArgs false
set_option maxRecDepth 20000
namespace Go.Proofs.YtdllnneeopbmdaaDoor.D
open Go Go.RowKit Go.Proofs.YtdllnneeopbmdaaDoor.A Go.Proofs.YtdllnneeopbmdaaDoor.J
variable {w : World} {P : Program} {t : TypeId} {v : Value}
theorem fits_cd {cs : List Value} (h : Fits (.i .i64 :: (k8 ++ [.i .i64, .i .u64, .i .u64])) cs) : ∃ r : Cd, cs.map avOf = dav r ∧ True := by
  match cs, h with
  | c :: cs, ⟨⟨n, hc, hn⟩, h2⟩ =>
    subst hc
    obtain ⟨a, b, rfl, h3, h4⟩ := fits_split k8 [.i .i64, .i .u64, .i .u64] cs h2
    clear h2
    obtain ⟨b16, hb⟩ := fits_b16 h3
    obtain ⟨d, e, f, rfl⟩ : ∃ d e f, b = [d, e, f] := by
      have h5 := h4.length
      match b, h5 with
      | [d, e, f], _ => exact ⟨d, e, f, rfl⟩
    obtain ⟨⟨m, hd, hm⟩, ⟨o, he, ho⟩, ⟨q, hf, hq⟩, _⟩ := h4
    subst hd; subst he; subst hf
    exact ⟨⟨⟨⟨n, b16⟩, m⟩, ⟨o, q⟩⟩, by simp only [List.map_cons, List.map_append, hb, avOf, dav, nav, List.map_nil], trivial⟩
theorem fits_pkt {cs : List Value} (h : Fits (.i .i64 :: (k8 ++ [.i .u64])) cs) : ∃ (a : Adr) (b : Int), cs.map avOf = kav a b := by
  match cs, h with
  | c :: cs, ⟨⟨n, hc, hn⟩, h2⟩ =>
    subst hc
    obtain ⟨a, b, rfl, h3, h4⟩ := fits_split k8 [.i .u64] cs h2
    clear h2
    obtain ⟨b16, hb⟩ := fits_b16 h3
    obtain ⟨d, rfl⟩ := List.length_eq_one_iff.1 h4.length.symm
    obtain ⟨⟨m, hd, hm⟩, _⟩ := h4
    subst hd
    exact ⟨⟨n, b16⟩, m, by simp only [List.map_cons, List.map_append, hb, avOf, kav, aav, List.map_nil, List.cons_append]⟩
theorem reads_pkt {fs : Array Field} {n : Nat} (h : Reads P w t v) (ht : P.underlying t = some (.struct fs)) (hf : flat P n t = some (.i .i64 :: (k8 ++ [.i .u64]))) : ∃ (a : Adr) (b : Int), Rep w (Old w) [] [] [] (.agg (kav a b)) v := by
  obtain ⟨cs, h1, h2⟩ := reads_flat h ht hf
  obtain ⟨a, b, h3⟩ := fits_pkt h1
  exact ⟨a, b, h3 ▸ h2⟩
theorem reads_tal {e ts tn : TypeId} {f g : Field} {n m : Nat} (h : Reads P w t v) (ht : P.underlying t = some (.struct #[f, g])) (hf0 : f.offset = 0) (hft : f.type = ts) (hg1 : g.offset = 1) (hgt : g.type = tn) (hc : P.cellsOf t = 3) (hcs : P.cellsOf ts = 1) (hcn : P.cellsOf tn = 2)
    (hts : P.underlying ts = some (.slice e)) (hk : 20 = P.cellsOf e) (hfe : flat P n e = some (.i .i64 :: (k8 ++ [.i .i64, .i .u64, .i .u64]))) (hfn : flat P m tn = some [.i .u64, .i .u64]) :
    ∃ (l : List Cd) (c : Cnt), l.length ≤ 9223372036854775807 ∧ Rep w (Old w) [] [] [] (.agg (.ro (drows l) :: nav c)) v := by
  obtain ⟨cs, rfl, hr⟩ := h.agg ht
  obtain ⟨h1, h2⟩ := hr.struct ht
  rw [hc] at h1
  obtain ⟨c, d1, d2, rfl⟩ : ∃ c d1 d2, cs = [c, d1, d2] := by
    match cs, h1 with
    | [c, d1, d2], _ => exact ⟨c, d1, d2, rfl⟩
  have h3 := h2 f (by simp)
  rw [hf0, hft, hcs] at h3
  have h4 := (h2 g (by simp))
  rw [hg1, hgt, hcn] at h4
  have h5 := h4.flat hfn
  simp only [List.drop_succ_cons, List.drop_zero, List.take_succ_cons, List.take_zero] at h5 h3
  obtain ⟨⟨x, hx, _⟩, ⟨y, hy, _⟩, _⟩ := h5
  subst hx; subst hy
  obtain ⟨a, cap, css, k4, k5, k6, k7, k8'⟩ := h3.slice hts hk (by decide)
  simp at k4
  subst k4
  obtain ⟨l, h9, h10, h11⟩ := rdc_slice (by decide) k5 k7 k8' hfe (fun cs h => fits_cd h)
  refine ⟨l, ⟨x, y⟩, by have := maxLen_le; omega, .agg _ _ (by simp [nav]) (by simp [Value.oneCell']) fun i z u hz hu => ?_⟩
  match i with
  | 0 => simp at hz hu; subst hz; subst hu; exact h11
  | 1 => simp [nav] at hz hu; subst hz; subst hu; exact .int _ _
  | 2 => simp [nav] at hz hu; subst hz; subst hu; exact .int _ _
  | i + 3 => simp [nav] at hz
end Go.Proofs.YtdllnneeopbmdaaDoor.D

/- Two tables that are read. No condition. -/
set_option linter.unusedSimpArgs false
set_option maxRecDepth 20000
namespace Go.Proofs.YtdllnneeopbmdaaDoor.D
open Go Go.RowKit Go.Proofs.YtdllnneeopbmdaaDoor.A Go.Proofs.YtdllnneeopbmdaaDoor.J
variable {w : World} {P : Program} {t : TypeId} {v : Value}
/-- A table within a struct: one cell. -/
theorem rdc_tab {tt ts e : TypeId} {f : Field} {n : Nat} {c : Value} (h : RdC P w tt [c]) (ht : P.underlying tt = some (.struct #[f])) (h0 : f.offset = 0) (hft : f.type = ts) (hcs : P.cellsOf ts = 1) (hts : P.underlying ts = some (.slice e)) (hk : 19 = P.cellsOf e) (hfe : flat P n e = some (.i .i64 :: (k8 ++ [.i .i64, .i .i64]))) :
    ∃ (l : List Rw) (u : Value), c = u ∧ u.oneCell' = true ∧ Rep w (Old w) [] [] [] (.ro (rrows l)) u := by
  have h1 := (h.struct ht).2 f (by simp)
  rw [h0, hft, hcs] at h1
  simp only [List.drop_zero, List.take_succ_cons, List.take_zero] at h1
  obtain ⟨a, cap, css, k4, k5, k6, k7, k8'⟩ := h1.slice hts hk (by decide)
  simp at k4
  subst k4
  obtain ⟨l, h9, h10, h11⟩ := rdc_slice (by decide) k5 k7 k8' hfe (fun cs h => fits_rw h)
  exact ⟨l, _, rfl, rfl, h11⟩
theorem reads_tabs {e ts tt : TypeId} {f g i : Field} {n : Nat} (h : Reads P w t v) (ht : P.underlying t = some (.struct #[f, g])) (hf0 : f.offset = 0) (hft : f.type = tt) (hg1 : g.offset = 1) (hgt : g.type = tt) (hc : P.cellsOf t = 2) (hct : P.cellsOf tt = 1)
    (htt : P.underlying tt = some (.struct #[i])) (hi0 : i.offset = 0) (hit : i.type = ts) (hcs : P.cellsOf ts = 1) (hts : P.underlying ts = some (.slice e)) (hk : 19 = P.cellsOf e) (hfe : flat P n e = some (.i .i64 :: (k8 ++ [.i .i64, .i .i64]))) :
    ∃ x y : List Rw, Rep w (Old w) [] [] [] (.agg [.ro (rrows x), .ro (rrows y)]) v := by
  obtain ⟨cs, rfl, hr⟩ := h.agg ht
  obtain ⟨h1, h2⟩ := hr.struct ht
  rw [hc] at h1
  obtain ⟨c, d, rfl⟩ : ∃ c d, cs = [c, d] := by
    match cs, h1 with
    | [c, d], _ => exact ⟨c, d, rfl⟩
  have h3 := h2 f (by simp)
  rw [hf0, hft, hct] at h3
  have h4 := (h2 g (by simp))
  rw [hg1, hgt, hct] at h4
  simp only [List.drop_succ_cons, List.drop_zero, List.take_succ_cons, List.take_zero] at h3 h4
  obtain ⟨x, u, rfl, o1, r1⟩ := rdc_tab h3 htt hi0 hit hcs hts hk hfe
  obtain ⟨y, u', rfl, o2, r2⟩ := rdc_tab h4 htt hi0 hit hcs hts hk hfe
  refine ⟨x, y, .agg _ _ rfl (by simp [o1, o2]) fun i z u hz hu => ?_⟩
  match i with
  | 0 => simp at hz hu; subst hz; subst hu; exact r1
  | 1 => simp at hz hu; subst hz; subst hu; exact r2
  | i + 2 => simp at hz
end Go.Proofs.YtdllnneeopbmdaaDoor.D

/- A tally that may be; what passes. No condition. -/
set_option linter.unusedSimpArgs false
namespace Go.Proofs.YtdllnneeopbmdaaDoor.D
open Go Go.Proofs.YtdllnneeopbmdaaDoor.A
theorem sumN_small {a b : Int} (ha : 0 ≤ a) (hb : 0 ≤ b) (h : a + b ≤ 4611686018427387904) : sumN a b = a + b := by
  unfold sumN
  rw [IntWalk.u64_in _ (by omega), if_neg (by omega)]
/-- A count of at most so many packets. -/
theorem tal_of {l : List Cd} {n : Cnt} {x : List Rw} (hx : TabOk x) (h : l.map Cd.p = x.map Rw.p) (hn : NOk n) (hc : ∀ i < x.length, NOk (dow l i).c) : TalOk l n := by
  have e1 : l.length = x.length := by simpa using congrArg List.length h
  refine ⟨⟨by have := hx.len; omega, hn⟩, fun i _ hi => ?_⟩
  refine ⟨?_, hc i (by omega), fun h0 => riseD_of h hx (i - 1) i (by omega) hi⟩
  rw [(of_dow h (by omega)).2]
  exact (hx i (Nat.zero_le _) (by omega)).2.1
/-- A packet is counted. -/
def give1 (x : List Rw) (a : Adr) (b : Int) (s : List Cd × Cnt) : List Cd × Cnt :=
  (giveS s.1 (bestI (hasB a) x x.length) ⟨1, b⟩, if bestI (hasB a) x x.length < 0 then plusN s.2 ⟨1, b⟩ else s.2)
theorem passS_ok {x : List Rw} {l : List Cd} {n : Cnt} {a : Adr} {b : Int} (ht : TalOk l n) (hx : TabOk x) (hm : l.map Cd.p = x.map Rw.p) (hb : b ≤ 4611686018427387904) : passS l n x a b = if AddrOk a then (give1 x a b (l, n), 0) else (([], zerN), 150) := by
  have e : errS l n x x = 0 := by unfold errS; rw [if_pos ht, if_pos hx, if_pos hx, if_pos hm]
  unfold passS
  rw [if_pos e, if_neg (show ¬ 4611686018427387904 < b by omega)]
  rfl
end Go.Proofs.YtdllnneeopbmdaaDoor.D

/- Where a prefix stands in a table: table.place. No condition. -/
set_option linter.unusedSimpArgs false
namespace Go.Proofs.YtdllnneeopbmdaaDoor.D
open Go Go.Proofs.YtdllnneeopbmdaaDoor.A
def RiseR (l : List Rw) : Prop := ∀ i j, i < j → j < l.length → cmpP (row l i).p (row l j).p < 0
theorem row_el {l : List Rw} {i : Nat} (h : i < l.length) : row l i = l[i] := by have := row_some l h; rw [List.getElem?_eq_getElem h] at this; exact (Option.some.inj this).symm
theorem Rise.rows {l : List Rw} (h : Rise l) : RiseR l := fun i j hij hj => by
  have := List.pairwise_iff_getElem.1 h i j (by omega) hj hij
  rw [row_el (by omega), row_el hj]; exact this
theorem RiseR.le {l : List Rw} (h : RiseR l) {p : Pfx} {i j : Nat} (hij : i ≤ j) (hj : j < l.length) (hp : cmpP (row l j).p p < 0) : cmpP (row l i).p p < 0 := by
  rcases Nat.lt_or_eq_of_le hij with h1 | rfl
  · exact cmp_trans (h i j h1 hj) hp
  · exact hp
theorem RiseR.ge {l : List Rw} (h : RiseR l) {p : Pfx} {i j : Nat} (hij : i ≤ j) (hj : j < l.length) (hp : 0 ≤ cmpP (row l i).p p) : 0 ≤ cmpP (row l j).p p := by
  by_cases h2 : 0 ≤ cmpP (row l j).p p
  · exact h2
  · have := h.le hij hj (show cmpP (row l j).p p < 0 by omega); omega
def LoR (l : List Rw) (p : Pfx) (i : Nat) : Prop := ∀ j, j < i → cmpP (row l j).p p < 0
def HiR (l : List Rw) (p : Pfx) (i : Nat) : Prop := ∀ j, i ≤ j → j < l.length → 0 ≤ cmpP (row l j).p p
/-- The rows ahead of a prefix, and behind it. -/
def ahead (l : List Rw) (p : Pfx) : List Rw := l.filter fun r => decide (cmpP r.p p < 0)
def past (l : List Rw) (p : Pfx) : List Rw := l.filter fun r => decide (0 < cmpP r.p p)
theorem mem_take_row {l : List Rw} {i : Nat} {r : Rw} (h : r ∈ l.take i) : ∃ j, j < i ∧ j < l.length ∧ r = row l j := by
  obtain ⟨j, hj, rfl⟩ := List.mem_iff_getElem.1 h
  rw [List.length_take] at hj
  exact ⟨j, by omega, by omega, by rw [List.getElem_take, row_el (by omega)]⟩
theorem mem_drop_row {l : List Rw} {i : Nat} {r : Rw} (h : r ∈ l.drop i) : ∃ j, i ≤ j ∧ j < l.length ∧ r = row l j := by
  obtain ⟨j, hj, rfl⟩ := List.mem_iff_getElem.1 h
  rw [List.length_drop] at hj
  exact ⟨i + j, by omega, by omega, by rw [List.getElem_drop, row_el (by omega)]⟩
theorem lo_ahead {l : List Rw} {p : Pfx} {i : Nat} (hlo : LoR l p i) (hhi : HiR l p i) : l.take i = ahead l p := by
  unfold ahead
  conv => rhs; rw [← List.take_append_drop i l]
  rw [List.filter_append, List.filter_eq_self.2 (fun r hr => by
    obtain ⟨j, h1, _, rfl⟩ := mem_take_row hr
    exact decide_eq_true (hlo j h1)), List.filter_eq_nil_iff.2 (fun r hr => by
    obtain ⟨j, h1, h2, rfl⟩ := mem_drop_row hr
    have := hhi j h1 h2
    simp; omega), List.append_nil]
theorem cmp_flip {p q : Pfx} (h : cmpP p q < 0) : 0 < cmpP q p := by have := cmp_anti p q; omega
theorem hi_past {l : List Rw} {p : Pfx} {i n : Nat} (hr : RiseR l) (hlo : LoR l p i) (hhi : HiR l p i) (hn : n = if i < l.length ∧ (row l i).p = p then i + 1 else i) : l.drop n = past l p := by
  unfold past
  conv => rhs; rw [← List.take_append_drop n l]
  rw [List.filter_append, List.filter_eq_nil_iff.2 (fun r hr' => by
    obtain ⟨j, h1, h2, rfl⟩ := mem_take_row hr'
    rcases Nat.lt_or_ge j i with h | h
    · have := hlo j h
      simp; omega
    · split at hn
      · rename_i hc
        obtain rfl : j = i := by omega
        simp [hc.2, cmp_self]
      · omega), List.filter_eq_self.2 (fun r hr' => by
    obtain ⟨j, h1, h2, rfl⟩ := mem_drop_row hr'
    refine decide_eq_true ?_
    split at hn
    · rename_i hc
      have := hr i j (by omega) h2
      rw [hc.2] at this
      exact cmp_flip this
    · rename_i hc
      have h3 := hhi j (by omega) h2
      rcases Nat.lt_or_eq_of_le (show i ≤ j by omega) with h4 | rfl
      · have h5 := hr i j h4 h2
        have h6 := hhi i (Nat.le_refl _) (by omega)
        rcases Int.lt_or_eq_of_le h3 with h7 | h7
        · exact h7
        · rw [cmp_zero h7.symm] at h5; omega
      · rcases Int.lt_or_eq_of_le h3 with h7 | h7
        · exact h7
        · exact absurd ⟨h2, cmp_zero h7.symm⟩ hc), List.nil_append]
end Go.Proofs.YtdllnneeopbmdaaDoor.D
namespace Go.Proofs.YtdllnneeopbmdaaDoor.F
open Go Go.Proofs.YtdllnneeopbmdaaDoor.A Go.Proofs.YtdllnneeopbmdaaDoor.D
theorem r90 {ys : List Hd} {pend : List (Option AExit)} (bs : List Blk) (r : Rw) (p : Pfx) : ∃ e, LR E ys 88 [.agg (rav r), .agg (pav p)] ⟨bs, pend⟩ = some (.int .i64 (cmpP r.p p), ⟨bs ++ e, pend⟩) := by
  refine ⟨[.box 0 85 (rav r), .box 0 58 (pav p)], ?_⟩
  rw [LR_R (fn := f88) rfl rfl rfl]
  simp only [f88, RB, pickV, eqbV, notV, negV, convV, faddrV, fldV, idxV, eqaggV, iaddrV, isnilV, nilckV, cloV, extrV, slenV, minV, sidxV, abin, cmpInt, params, growLists, fillCells, newAt, rdPtr, wrPtr, AV.cells, asVal, lenOf, boundOf, rowsOf, argIds, freshIn, scalar1, setAll, AV.isData, AV.isYld, Nat.reduceAdd, Nat.reduceMul, Nat.reduceSub, Nat.reduceEqDiff, Nat.reduceLeDiff, Nat.reduceLT, Int.reduceNeg, ↓reduceIte, reduceCtorEq, Int.reduceEq, Int.reduceLT, Int.reduceLE, Int.reduceBEq, Int.reduceBNe, Int.reduceToNat, IntKind.bits, Int.reduceAdd, Int.reduceSub, Int.reduceMul, Int.reduceTDiv, Int.reduceTMod, DB, DB2, R7B, take_add, List.append_assoc, List.length_append, Nat.add_assoc, shrink_lit, ball_app, RG, LPB, e_table_row_against]
theorem r89 {ys : List Hd} {bs : List Blk} {pend : List (Option AExit)} {v : AV} {l : List Rw} (p : Pfx) (hn : l.length ≤ 1000000) (hv : SlV bs 19 v (rrows l)) (hr : RiseR l) (hlow : belowAll bs.length bs = true) :
    ∃ e i, i ≤ l.length ∧ LoR l p i ∧ HiR l p i ∧ LR E ys 87 [v, .agg (pav p), .clo 88 []] ⟨bs, pend⟩ = some (.tup [.int .i64 (i : Nat), .bool (decide (i < l.length ∧ (row l i).p = p))], ⟨bs ++ e, pend⟩) := by
  have huf := hv.uf
  have hlen := hv.len
  rw [rrows_len] at hlen
  have hlo : ∀ m, bs.length ≤ m → v.refsLt m = true := fun m h => by
    have := hv.low
    have h2 := belowL_mono h [v] (by simp [belowL, this])
    simpa [belowL] using h2
  have hlo1 := hlo (bs.length + 1) (by omega)
  have hb1 : belowAll (bs.length + 1) bs = true := belowAll_mono (by omega) hlow
  have hbb : belowAll (bs.length + 1) (bs ++ [.box 0 58 (pav p)]) = true := by rw [ball_app, belowAll_mono (by omega) hlow]; simp [LPB, pav_below]
  have hget : ∀ ext k, k < l.length → ∃ q, iaddrV (bs ++ ext) 19 none v (.int .i64 (k : Int)) = some q ∧ ∀ ext', rdPtr (bs ++ ext') q 19 = some (rav (row l k)) := fun ext k hk => by
    obtain ⟨q, h1, h2⟩ := hv.get ext k (by rw [rrows_len]; exact hk)
    exact ⟨q, h1, fun ext' => by rw [h2, rrows_get l hk]⟩
  have hld : rdPtr (bs ++ [.box 0 58 (pav p)]) (.ptr bs.length 0 0 0) 18 = some (pav p) := by
    simp only [rdPtr, A.get_at rfl, List.getElem?_cons_zero, and_self, if_true, pav_p]
  suffices H : ∃ e i, i ≤ l.length ∧ LoR l p i ∧ HiR l p i ∧ LR E ys 87 [v, .agg (pav p), .clo 88 []] ⟨bs, pend⟩ = some (.tup [.int .i64 (i : Nat), .bool (decide (i < l.length ∧ (row l i).p = p))], ⟨bs ++ e, pend⟩) from H
  rw [LR_R (fn := f87) rfl rfl rfl]
  simp only [f87, RB, pickV, eqbV, notV, negV, convV, faddrV, fldV, idxV, eqaggV, isnilV, nilckV, cloV, extrV, slenV, minV, sidxV, abin, cmpInt, params, growLists, fillCells, newAt, AV.cells, asVal, boundOf, argIds, freshIn, scalar1, setAll, AV.isData, AV.isYld, Nat.reduceAdd, Nat.reduceMul, Nat.reduceSub, Nat.reduceEqDiff, Nat.reduceLeDiff, Nat.reduceLT, Int.reduceNeg, ↓reduceIte, reduceCtorEq, Int.reduceEq, Int.reduceLT, Int.reduceLE, Int.reduceBEq, Int.reduceBNe, Int.reduceToNat, IntKind.bits, Int.reduceAdd, Int.reduceSub, Int.reduceMul, Int.reduceTDiv, Int.reduceTMod, DB, DB2, R7B, take_add, List.append_assoc, List.length_append, Nat.add_assoc, shrink_lit, ball_app, RG, LPB, huf, hlen]
  refine W_recP2 (ι := {s : Nat × Nat // s.1 ≤ s.2 ∧ s.2 ≤ l.length ∧ LoR l p s.1 ∧ HiR l p s.2}) (M := fun s => [(0, v), (2, .clo 88 []), (4, .ptr bs.length 0 0 0), (8, .int .i64 (l.length : Int)), (9, .int .i64 (s.1.1 : Int)), (10, .int .i64 (s.1.2 : Int))])
    (H := fun _ => ⟨bs ++ [.box 0 58 (pav p)], pend⟩)
    (Q := fun _ x => ∃ e i, i ≤ l.length ∧ LoR l p i ∧ HiR l p i ∧ x = some ((AV.tup [.int .i64 (i : Nat), .bool (decide (i < l.length ∧ (row l i).p = p))], ⟨bs ++ e, pend⟩) : AV × Hp)) (μ := fun s => s.1.2 - s.1.1) (fun s => ?_) (fun s ih => ?_) ⟨(0, l.length), Nat.zero_le _, Nat.le_refl _, fun j h => by omega, fun j h1 h2 => by omega⟩ rfl rfl
  · exact ⟨by simp only [List.map_cons, List.map_nil, LPB, hlo1, Bool.and_self]; simp, hbb⟩
  · obtain ⟨⟨lo, hi⟩, h1, h2, h3, h4⟩ := s
    simp only at h1 h2 h3 h4 ih ⊢
    by_cases hk : lo < hi
    · have f1 : (lo : Int) < (hi : Int) := by omega
      have w1 : IntKind.i64.wrap ((lo : Int) + (hi : Int)) = ((lo + hi : Nat) : Int) := by rw [IntWalk.i64_in _ (by omega)]; omega
      have w2 : IntKind.u64.wrap ((lo + hi : Nat) : Int) = ((lo + hi : Nat) : Int) := IntWalk.u64_in _ (by omega)
      have w3 : ((lo + hi : Nat) : Int).fdiv (2 ^ (Nat.min 1 64)) = (((lo + hi) / 2 : Nat) : Int) := by
        rw [show Nat.min 1 64 = 1 from rfl, Int.fdiv_eq_ediv_of_nonneg _ (by decide)]; omega
      have w4 : IntKind.i64.wrap (((lo + hi) / 2 : Nat) : Int) = (((lo + hi) / 2 : Nat) : Int) := IntWalk.i64_in _ (by omega)
      have w5 : IntKind.i64.wrap ((((lo + hi) / 2 : Nat) : Int) + 1) = (((lo + hi) / 2 + 1 : Nat) : Int) := by rw [IntWalk.i64_in _ (by omega)]; omega
      have hm1 : lo ≤ (lo + hi) / 2 := by omega
      have hm2 : (lo + hi) / 2 < hi := by omega
      generalize (lo + hi) / 2 = m at *
      obtain ⟨q, g1, g2⟩ := hget [.box 0 58 (pav p)] m (by omega)
      obtain ⟨e, h90⟩ := r90 (ys := ys) (pend := pend) (bs ++ [.box 0 58 (pav p)]) (row l m) p
      have hsh : shrink false (bs.length + 1) (.int .i64 (cmpP (row l m).p p)) ⟨(bs ++ [.box 0 58 (pav p)]) ++ e, pend⟩ = some ⟨bs ++ [.box 0 58 (pav p)], pend⟩ := shrink_app (by simp) rfl hbb
      simp only [List.append_assoc] at h90 hsh
      by_cases hc : cmpP (row l m).p p < 0
      · simp only [RB, pickV, eqbV, notV, negV, convV, faddrV, fldV, idxV, eqaggV, isnilV, nilckV, cloV, extrV, slenV, minV, sidxV, abin, cmpInt, params, growLists, fillCells, newAt, AV.cells, asVal, boundOf, argIds, freshIn, scalar1, setAll, AV.isData, AV.isYld, Nat.reduceAdd, Nat.reduceMul, Nat.reduceSub, Nat.reduceEqDiff, Nat.reduceLeDiff, Nat.reduceLT, Int.reduceNeg, ↓reduceIte, reduceCtorEq, Int.reduceEq, Int.reduceLT, Int.reduceLE, Int.reduceBEq, Int.reduceBNe, Int.reduceToNat, IntKind.bits, Int.reduceAdd, Int.reduceSub, Int.reduceMul, Int.reduceTDiv, Int.reduceTMod, DB, DB2, R7B, take_add, List.append_assoc, List.length_append, Nat.add_assoc, shrink_lit, ball_app, RG, LPB, f1, w1, w2, w3, w4, w5, huf, g1, g2, hld, hb1, h90, hsh, hc]
        exact ih ⟨(m + 1, hi), by omega, h2, fun j hj => hr.le (show j ≤ m by omega) (by omega) hc, h4⟩ (by simp only; omega)
      · simp only [RB, pickV, eqbV, notV, negV, convV, faddrV, fldV, idxV, eqaggV, isnilV, nilckV, cloV, extrV, slenV, minV, sidxV, abin, cmpInt, params, growLists, fillCells, newAt, AV.cells, asVal, boundOf, argIds, freshIn, scalar1, setAll, AV.isData, AV.isYld, Nat.reduceAdd, Nat.reduceMul, Nat.reduceSub, Nat.reduceEqDiff, Nat.reduceLeDiff, Nat.reduceLT, Int.reduceNeg, ↓reduceIte, reduceCtorEq, Int.reduceEq, Int.reduceLT, Int.reduceLE, Int.reduceBEq, Int.reduceBNe, Int.reduceToNat, IntKind.bits, Int.reduceAdd, Int.reduceSub, Int.reduceMul, Int.reduceTDiv, Int.reduceTMod, DB, DB2, R7B, take_add, List.append_assoc, List.length_append, Nat.add_assoc, shrink_lit, ball_app, RG, LPB, f1, w1, w2, w3, w4, w5, huf, g1, g2, hld, hb1, h90, hsh, hc]
        exact ih ⟨(lo, m), by omega, by omega, h3, fun j hj hj2 => hr.ge hj hj2 (Int.not_lt.1 hc)⟩ (by simp only; omega)
    · have e : lo = hi := by omega
      subst e
      simp only [RB, pickV, eqbV, notV, negV, convV, faddrV, fldV, idxV, eqaggV, isnilV, nilckV, cloV, extrV, slenV, minV, sidxV, abin, cmpInt, params, growLists, fillCells, newAt, AV.cells, asVal, boundOf, argIds, freshIn, scalar1, setAll, AV.isData, AV.isYld, Nat.reduceAdd, Nat.reduceMul, Nat.reduceSub, Nat.reduceEqDiff, Nat.reduceLeDiff, Nat.reduceLT, Int.reduceNeg, ↓reduceIte, reduceCtorEq, Int.reduceEq, Int.reduceLT, Int.reduceLE, Int.reduceBEq, Int.reduceBNe, Int.reduceToNat, IntKind.bits, Int.reduceAdd, Int.reduceSub, Int.reduceMul, Int.reduceTDiv, Int.reduceTMod, DB, DB2, R7B, take_add, List.append_assoc, List.length_append, Nat.add_assoc, shrink_lit, ball_app, RG, LPB, hk, show ¬ (lo : Int) < (lo : Int) by omega]
      by_cases hl : lo < l.length
      · have f1 : (lo : Int) < (l.length : Int) := by omega
        obtain ⟨q, g1, g2⟩ := hget [.box 0 58 (pav p)] lo hl
        obtain ⟨e, h90⟩ := r90 (ys := ys) (pend := pend) (bs ++ [.box 0 58 (pav p)]) (row l lo) p
        have hsh : shrink false (bs.length + 1) (.int .i64 (cmpP (row l lo).p p)) ⟨(bs ++ [.box 0 58 (pav p)]) ++ e, pend⟩ = some ⟨bs ++ [.box 0 58 (pav p)], pend⟩ := shrink_app (by simp) rfl hbb
        simp only [List.append_assoc] at h90 hsh
        have hz : (cmpP (row l lo).p p == 0) = decide ((row l lo).p = p) := by
          by_cases hh : (row l lo).p = p
          · rw [decide_eq_true hh, hh, cmp_self]; rfl
          · rw [decide_eq_false hh, beq_eq_false_iff_ne]; exact fun h => hh (cmp_zero h)
        refine ⟨[.box 0 58 (pav p)], lo, h2, h3, h4, ?_⟩
        simp only [RB, pickV, eqbV, notV, negV, convV, faddrV, fldV, idxV, eqaggV, isnilV, nilckV, cloV, extrV, slenV, minV, sidxV, abin, cmpInt, params, growLists, fillCells, newAt, AV.cells, asVal, boundOf, argIds, freshIn, scalar1, setAll, AV.isData, AV.isYld, Nat.reduceAdd, Nat.reduceMul, Nat.reduceSub, Nat.reduceEqDiff, Nat.reduceLeDiff, Nat.reduceLT, Int.reduceNeg, ↓reduceIte, reduceCtorEq, Int.reduceEq, Int.reduceLT, Int.reduceLE, Int.reduceBEq, Int.reduceBNe, Int.reduceToNat, IntKind.bits, Int.reduceAdd, Int.reduceSub, Int.reduceMul, Int.reduceTDiv, Int.reduceTMod, DB, DB2, R7B, take_add, List.append_assoc, List.length_append, Nat.add_assoc, shrink_lit, ball_app, RG, LPB, f1, huf, g1, g2, hld, hb1, h90, hsh, hz, hl]
      · refine ⟨[.box 0 58 (pav p)], lo, h2, h3, h4, ?_⟩
        simp only [RB, pickV, eqbV, notV, negV, convV, faddrV, fldV, idxV, eqaggV, isnilV, nilckV, cloV, extrV, slenV, minV, sidxV, abin, cmpInt, params, growLists, fillCells, newAt, AV.cells, asVal, boundOf, argIds, freshIn, scalar1, setAll, AV.isData, AV.isYld, Nat.reduceAdd, Nat.reduceMul, Nat.reduceSub, Nat.reduceEqDiff, Nat.reduceLeDiff, Nat.reduceLT, Int.reduceNeg, ↓reduceIte, reduceCtorEq, Int.reduceEq, Int.reduceLT, Int.reduceLE, Int.reduceBEq, Int.reduceBNe, Int.reduceToNat, IntKind.bits, Int.reduceAdd, Int.reduceSub, Int.reduceMul, Int.reduceTDiv, Int.reduceTMod, DB, DB2, R7B, take_add, List.append_assoc, List.length_append, Nat.add_assoc, shrink_lit, ball_app, RG, LPB, show ¬ (lo : Int) < (l.length : Int) by omega, hl]
theorem e_table_place (x : List Rw) (p : Pfx) (hn : x.length ≤ 1000000) (hr : RiseR x) : ∃ i, i ≤ x.length ∧ LoR x p i ∧ HiR x p i ∧ LV E 61 [.agg [.ro (rrows x)], .agg (pav p)] = some (.tup [.int .i64 (i : Nat), .bool (decide (i < x.length ∧ (row x i).p = p))]) := by
  obtain ⟨e, i, k1, k2, k3, k4⟩ := r89 (ys := []) (pend := []) (bs := [.box 0 30 [.ro (rrows x)], .box 0 58 (pav p)]) (v := .ro (rrows x)) (l := x) p hn (SlV.ro (fun r hr => by
      simp only [rrows, List.mem_map] at hr; obtain ⟨y, _, rfl⟩ := hr; exact rav_len y)) hr (by simp [LPB, pav_below])
  refine ⟨i, k1, k2, k3, ?_⟩
  rw [LV_R (fn := f61) rfl rfl rfl]
  simp only [f61, RB, pickV, eqbV, notV, negV, convV, faddrV, fldV, idxV, eqaggV, iaddrV, isnilV, nilckV, cloV, extrV, slenV, minV, sidxV, abin, cmpInt, params, growLists, fillCells, newAt, rdPtr, wrPtr, AV.cells, asVal, lenOf, boundOf, rowsOf, argIds, freshIn, scalar1, setAll, AV.isData, AV.isYld, Nat.reduceAdd, Nat.reduceMul, Nat.reduceSub, Nat.reduceEqDiff, Nat.reduceLeDiff, Nat.reduceLT, Int.reduceNeg, ↓reduceIte, reduceCtorEq, Int.reduceEq, Int.reduceLT, Int.reduceLE, Int.reduceBEq, Int.reduceBNe, Int.reduceToNat, IntKind.bits, Int.reduceAdd, Int.reduceSub, Int.reduceMul, Int.reduceTDiv, Int.reduceTMod, DB, DB2, R7B, take_add, List.append_assoc, List.length_append, Nat.add_assoc, shrink_lit, ball_app, RG, LPB, k4]
  done
end Go.Proofs.YtdllnneeopbmdaaDoor.F

/- table.Set and table.Drop. No condition. -/
set_option linter.unusedSimpArgs false
namespace Go.Proofs.YtdllnneeopbmdaaDoor.D
open Go Go.Proofs.YtdllnneeopbmdaaDoor.A
def There (x : List Rw) (p : Pfx) : Prop := ∃ r ∈ x, r.p = p
instance {x : List Rw} {p : Pfx} : Decidable (There x p) := by unfold There; infer_instance
def putR (x : List Rw) (r : Rw) : List Rw := ahead x r.p ++ [r] ++ past x r.p
def setS (x : List Rw) (p : Pfx) (h : Int) : List Rw × Int :=
  if TabOk x then if PfxOk p ∧ hopOk h then if There x p then (putR x ⟨p, h⟩, 0) else if x.length = 40 then ([], 6) else (putR x ⟨p, h⟩, 0) else ([], 2) else ([], 190)
def dropT (x : List Rw) (p : Pfx) : List Rw × Int :=
  if TabOk x then if There x p then (ahead x p ++ past x p, 0) else ([], 4) else ([], 190)
def tupT (s : List Rw × Int) : AV := .tup [.agg [.ro (rrows s.1)], .int .i64 s.2]
theorem there_iff {x : List Rw} {p : Pfx} {i : Nat} (hlo : LoR x p i) (hhi : HiR x p i) (hr : RiseR x) : There x p ↔ i < x.length ∧ (row x i).p = p := by
  constructor
  · rintro ⟨r, hr1, rfl⟩
    obtain ⟨j, hj, rfl⟩ := List.mem_iff_getElem.1 hr1
    have e : row x j = x[j] := row_el hj
    rw [← e] at hlo hhi ⊢
    have h1 : ¬ j < i := fun h => by have := hlo j h; rw [cmp_self] at this; omega
    rcases Nat.lt_or_eq_of_le (Nat.not_lt.1 h1) with h2 | rfl
    · have h3 := hr i j h2 hj
      have := hhi i (Nat.le_refl _) (by omega)
      omega
    · exact ⟨hj, rfl⟩
  · rintro ⟨h1, h2⟩
    exact ⟨row x i, by rw [row_el h1]; exact List.getElem_mem h1, h2⟩
theorem LR_prim {E : Env} {ys : List Hd} {hp : Hp} {f : FuncId} {args : List AV} {p : List AV → List Blk → Option (AV × List Blk)} (h1 : E.prim f = some p) (ha : args.any AV.isYld = false) : LR E ys f args hp = (p args hp.bs).map fun r => (r.1, { hp with bs := r.2 }) := by
  rw [LR_eq, h1]; simp [ha]
theorem expIn_tab (bs : List Blk) (a b c d : Nat) : expIn false bs (.agg [.lis a b c d]) = (expCell false bs (.lis a b c d)).map fun x => .agg [x] := by
  show ([AV.lis a b c d].mapM (expCell false bs)).map AV.agg = _
  rw [List.mapM_cons]
  cases expCell false bs (.lis a b c d) <;> rfl
theorem rrows_set (l : List Rw) {i : Nat} (h : Int) (hi : i < l.length) : (rrows l).set i (rav ⟨(row l i).p, h⟩) = rrows (l.take i ++ [⟨(row l i).p, h⟩] ++ l.drop (i + 1)) := by
  unfold rrows
  rw [← List.map_set, List.set_eq_take_append_cons_drop, if_pos hi]; simp
theorem rrows_ins (l : List Rw) (i : Nat) (r : Rw) : (rrows l).take i ++ [rav r] ++ (rrows l).drop i = rrows (l.take i ++ [r] ++ l.drop i) := by
  unfold rrows; simp [List.map_take, List.map_drop]
end Go.Proofs.YtdllnneeopbmdaaDoor.D
namespace Go.Proofs.YtdllnneeopbmdaaDoor.F
open Go Go.Proofs.YtdllnneeopbmdaaDoor.A Go.Proofs.YtdllnneeopbmdaaDoor.D
theorem e_slices_Clone_Row (l : List Rw) (hl : l.length ≤ 1000000) : LV E 62 [.ro (rrows l)] = some (.fresh 85 19 (rrows l)) := by
  rw [LV_prim (p := pClone 85 19 40) rfl]
  have h : ((rrows l).all fun r => r.length == 19) = true := by
    rw [List.all_eq_true]; intro r hr
    obtain ⟨p, _, rfl⟩ := List.mem_map.1 hr
    simp [rav_len]
  have h2 : (rrows l).length * 40 ≤ 140737488355328 := by rw [rrows_len]; omega
  simp only [pClone, rowsOf, h, h2, true_and, show 0 < 19 by omega, and_self, if_true, Option.bind_some, expRes_lis, expCell, List.getElem?_cons_zero, Nat.zero_add, Nat.le_refl, List.drop_zero, List.take_length]
theorem r71 {ys : List Hd} {bs : List Blk} {pend : List (Option AExit)} {id g id2 g2 lk2 : Nat} {l : List Rw} {n i : Nat} (r : Rw) (hb : bs[id]? = some (.lst 0 g 85 19 (rrows l))) (hb2 : bs[id2]? = some (.lst lk2 g2 85 19 [rav r])) (hn : l.length = n) (hi : i ≤ n) (hne : id ≠ id2) (hl : n ≤ 1000000) :
    LR E ys 63 [.lis id g 0 n, .int .i64 (i : Nat), .lis id2 g2 0 1] ⟨bs, pend⟩ = some (.lis id (g + 1) 0 (n + 1), ⟨bs.set id (.lst 0 (g + 1) 85 19 (rrows (l.take i ++ [r] ++ l.drop i))), pend⟩) := by
  rw [LR_prim (p := pInsert 85 19 40) rfl rfl]
  subst hn
  unfold pInsert
  simp only [hb, hb2, rrows_len, true_and, and_true, and_self, List.length_singleton, hne, ne_eq, not_false_eq_true, show (0 : Int) ≤ (i : Nat) by omega, show ((i : Nat) : Int) ≤ (l.length : Nat) by omega, show (l.length + 1) * 40 ≤ 140737488355328 by omega, show l.length + 1 ≤ 4611686018427387904 by omega, if_true, Int.toNat_natCast, rrows_ins, Option.map_some]
theorem e_table_Set (x : List Rw) (p : Pfx) (h : Int) (hx : x.length ≤ 1000000) : LV E 28 [.agg [.ro (rrows x)], .agg (pav p), .int .i64 h] = some (tupT (setS x p h)) := by
  rw [LV_R (fn := f28) rfl rfl rfl]
  have h60 := e_table_Check x (by omega)
  unfold setS tupT
  by_cases k1 : TabOk x
  · by_cases k2 : PfxOk p
    · by_cases k3 : hopOk h
      · obtain ⟨i, i1, i2, i3, h69⟩ := e_table_place x p hx k1.rise.rows
        have ht := there_iff i2 i3 k1.rise.rows
        by_cases k4 : There x p
        · have k5 := ht.1 k4
          have g2 : (i : Int) < (x.length : Int) := by omega
          have g3 : (0 : Int) ≤ (i : Int) := by omega
          have hq : putR x ⟨p, h⟩ = x.take i ++ [⟨(row x i).p, h⟩] ++ x.drop (i + 1) := by
            unfold putR; rw [k5.2, lo_ahead i2 i3, hi_past k1.rise.rows i2 i3 (if_pos k5).symm]
          have hR : (rrows x).set i (rav ⟨p, h⟩) = rrows (putR x ⟨p, h⟩) := by
            have := rrows_set x h k5.1
            rw [hq, ← this, k5.2]
          have hl : (putR x ⟨p, h⟩).length = x.length := by rw [hq]; simp; omega
          have hT : (rrows (putR x ⟨p, h⟩)).take x.length = rrows (putR x ⟨p, h⟩) := List.take_of_length_le (by rw [rrows_len, hl]; exact Nat.le_refl _)
          have k7 : (row x i).p = p := k5.2
          simp only [f28, ← rav_zer, RB, pickV, eqbV, notV, negV, convV, faddrV, fldV, idxV, eqaggV, iaddrV, isnilV, nilckV, cloV, extrV, slenV, minV, sidxV, abin, cmpInt, params, growLists, fillCells, newAt, rdPtr, wrPtr, AV.cells, asVal, lenOf, boundOf, rowsOf, argIds, freshIn, scalar1, setAll, AV.isData, AV.isYld, Nat.reduceAdd, Nat.reduceMul, Nat.reduceSub, Nat.reduceEqDiff, Nat.reduceLeDiff, Nat.reduceLT, Int.reduceNeg, ↓reduceIte, reduceCtorEq, Int.reduceEq, Int.reduceLT, Int.reduceLE, Int.reduceBEq, Int.reduceBNe, Int.reduceToNat, IntKind.bits, Int.reduceAdd, Int.reduceSub, Int.reduceMul, Int.reduceTDiv, Int.reduceTMod, DB, DB2, R7B, take_add, List.append_assoc, List.length_append, Nat.add_assoc, shrink_lit, ball_app, RG, LPB, h60, k1, e_prefix_Check, k2, e_table_hop, k3, h69, e_slices_Clone_Row x hx, k4, k5.1, k7, g2, g3, rrows_get x k5.1, D.rav_oh, hR, hl, hT, expIn_tab, expCell, List.nodup_cons, List.nodup_nil, List.not_mem_nil, not_false_eq_true, not_true_eq_false, and_true, and_false, if_false, List.mem_cons, mutIds, lisFits, rrows_len, Nat.le_refl]
        · have k5 : decide (i < x.length ∧ (row x i).p = p) = false := decide_eq_false fun h => k4 (ht.2 h)
          have hq : putR x ⟨p, h⟩ = x.take i ++ [⟨p, h⟩] ++ x.drop i := by
            unfold putR; rw [lo_ahead i2 i3, hi_past k1.rise.rows i2 i3 (if_neg fun h => k4 (ht.2 h)).symm]
          have hl : (putR x ⟨p, h⟩).length = x.length + 1 := by rw [hq]; simp; omega
          have hT : (rrows (putR x ⟨p, h⟩)).take (x.length + 1) = rrows (putR x ⟨p, h⟩) := List.take_of_length_le (by rw [rrows_len, hl]; exact Nat.le_refl _)
          by_cases k6 : x.length = 40
          · have k7 : ((x.length : Int) == 40) = true := by rw [beq_iff_eq]; omega
            simp only [f28, ← rav_zer, RB, pickV, eqbV, notV, negV, convV, faddrV, fldV, idxV, eqaggV, iaddrV, isnilV, nilckV, cloV, extrV, slenV, minV, sidxV, abin, cmpInt, params, growLists, fillCells, newAt, rdPtr, wrPtr, AV.cells, asVal, lenOf, boundOf, rowsOf, argIds, freshIn, scalar1, setAll, AV.isData, AV.isYld, Nat.reduceAdd, Nat.reduceMul, Nat.reduceSub, Nat.reduceEqDiff, Nat.reduceLeDiff, Nat.reduceLT, Int.reduceNeg, ↓reduceIte, reduceCtorEq, Int.reduceEq, Int.reduceLT, Int.reduceLE, Int.reduceBEq, Int.reduceBNe, Int.reduceToNat, IntKind.bits, Int.reduceAdd, Int.reduceSub, Int.reduceMul, Int.reduceTDiv, Int.reduceTMod, DB, DB2, R7B, take_add, List.append_assoc, List.length_append, Nat.add_assoc, shrink_lit, ball_app, RG, LPB, h60, k1, e_prefix_Check, k2, e_table_hop, k3, h69, e_slices_Clone_Row x hx, k4, k5, k7, expIn_tab, expCell, List.nodup_cons, List.nodup_nil, List.not_mem_nil, not_false_eq_true, not_true_eq_false, and_true, and_false, if_false, List.mem_cons, mutIds, rrows_nil, if_pos k6]
          · have k7 : ((x.length : Int) == 40) = false := by rw [beq_eq_false_iff_ne]; omega
            have h71 := r71 (ys := []) (pend := []) (bs := [.box 0 30 [.ro (rrows x)], .dead, .box 0 58 (pav p), .box 0 30 [.lis 4 0 0 0], .lst 0 0 85 19 [], .lst 0 0 85 19 (rrows x), .box 0 30 [.lis 5 0 0 x.length], .lst 0 0 85 19 [], .lst 0 0 85 19 [rav ⟨p, h⟩]]) (id := 5) (g := 0) (id2 := 8) (g2 := 0) (lk2 := 0) (l := x) (n := x.length) (i := i) ⟨p, h⟩ rfl rfl rfl i1 (by decide) hx
            rw [← hq] at h71
            simp only [List.set_cons_succ, List.set_cons_zero] at h71
            simp only [f28, ← rav_zer, RB, pickV, eqbV, notV, negV, convV, faddrV, fldV, idxV, eqaggV, iaddrV, isnilV, nilckV, cloV, extrV, slenV, minV, sidxV, abin, cmpInt, params, growLists, fillCells, newAt, rdPtr, wrPtr, AV.cells, asVal, lenOf, boundOf, rowsOf, argIds, freshIn, scalar1, setAll, AV.isData, AV.isYld, Nat.reduceAdd, Nat.reduceMul, Nat.reduceSub, Nat.reduceEqDiff, Nat.reduceLeDiff, Nat.reduceLT, Int.reduceNeg, ↓reduceIte, reduceCtorEq, Int.reduceEq, Int.reduceLT, Int.reduceLE, Int.reduceBEq, Int.reduceBNe, Int.reduceToNat, IntKind.bits, Int.reduceAdd, Int.reduceSub, Int.reduceMul, Int.reduceTDiv, Int.reduceTMod, DB, DB2, R7B, take_add, List.append_assoc, List.length_append, Nat.add_assoc, shrink_lit, ball_app, RG, LPB, h60, k1, e_prefix_Check, k2, e_table_hop, k3, h69, e_slices_Clone_Row x hx, k4, k5, k7, expIn_tab, expCell, List.nodup_cons, List.nodup_nil, List.not_mem_nil, not_false_eq_true, not_true_eq_false, and_true, and_false, if_false, List.mem_cons, mutIds, if_neg k6, D.rav_op, D.rav_oh, O_buildSlq, quietOk, aop_buildSl, fillRows, asData, aappend, h71, hl, hT, rrows_len, Nat.le_refl]
            done
      · simp only [f28, RB, pickV, eqbV, notV, negV, convV, faddrV, fldV, idxV, eqaggV, iaddrV, isnilV, nilckV, cloV, extrV, slenV, minV, sidxV, abin, cmpInt, params, growLists, fillCells, newAt, rdPtr, wrPtr, AV.cells, asVal, lenOf, boundOf, rowsOf, argIds, freshIn, scalar1, setAll, AV.isData, AV.isYld, Nat.reduceAdd, Nat.reduceMul, Nat.reduceSub, Nat.reduceEqDiff, Nat.reduceLeDiff, Nat.reduceLT, Int.reduceNeg, ↓reduceIte, reduceCtorEq, Int.reduceEq, Int.reduceLT, Int.reduceLE, Int.reduceBEq, Int.reduceBNe, Int.reduceToNat, IntKind.bits, Int.reduceAdd, Int.reduceSub, Int.reduceMul, Int.reduceTDiv, Int.reduceTMod, DB, DB2, R7B, take_add, List.append_assoc, List.length_append, Nat.add_assoc, shrink_lit, ball_app, RG, LPB, h60, k1, e_prefix_Check, k2, e_table_hop, k3, expIn_tab, expCell, List.nodup_cons, List.nodup_nil, List.not_mem_nil, not_false_eq_true, not_true_eq_false, and_true, and_false, if_false, List.mem_cons, mutIds, rrows_nil]
        done
    · simp only [f28, RB, pickV, eqbV, notV, negV, convV, faddrV, fldV, idxV, eqaggV, iaddrV, isnilV, nilckV, cloV, extrV, slenV, minV, sidxV, abin, cmpInt, params, growLists, fillCells, newAt, rdPtr, wrPtr, AV.cells, asVal, lenOf, boundOf, rowsOf, argIds, freshIn, scalar1, setAll, AV.isData, AV.isYld, Nat.reduceAdd, Nat.reduceMul, Nat.reduceSub, Nat.reduceEqDiff, Nat.reduceLeDiff, Nat.reduceLT, Int.reduceNeg, ↓reduceIte, reduceCtorEq, Int.reduceEq, Int.reduceLT, Int.reduceLE, Int.reduceBEq, Int.reduceBNe, Int.reduceToNat, IntKind.bits, Int.reduceAdd, Int.reduceSub, Int.reduceMul, Int.reduceTDiv, Int.reduceTMod, DB, DB2, R7B, take_add, List.append_assoc, List.length_append, Nat.add_assoc, shrink_lit, ball_app, RG, LPB, h60, k1, e_prefix_Check, k2, expIn_tab, expCell, List.nodup_cons, List.nodup_nil, List.not_mem_nil, not_false_eq_true, not_true_eq_false, and_true, and_false, if_false, List.mem_cons, mutIds, rrows_nil]
      done
  · simp only [f28, RB, pickV, eqbV, notV, negV, convV, faddrV, fldV, idxV, eqaggV, iaddrV, isnilV, nilckV, cloV, extrV, slenV, minV, sidxV, abin, cmpInt, params, growLists, fillCells, newAt, rdPtr, wrPtr, AV.cells, asVal, lenOf, boundOf, rowsOf, argIds, freshIn, scalar1, setAll, AV.isData, AV.isYld, Nat.reduceAdd, Nat.reduceMul, Nat.reduceSub, Nat.reduceEqDiff, Nat.reduceLeDiff, Nat.reduceLT, Int.reduceNeg, ↓reduceIte, reduceCtorEq, Int.reduceEq, Int.reduceLT, Int.reduceLE, Int.reduceBEq, Int.reduceBNe, Int.reduceToNat, IntKind.bits, Int.reduceAdd, Int.reduceSub, Int.reduceMul, Int.reduceTDiv, Int.reduceTMod, DB, DB2, R7B, take_add, List.append_assoc, List.length_append, Nat.add_assoc, shrink_lit, ball_app, RG, LPB, h60, k1, expIn_tab, expCell, List.nodup_cons, List.nodup_nil, List.not_mem_nil, not_false_eq_true, not_true_eq_false, and_true, and_false, if_false, List.mem_cons, mutIds, rrows_nil]
    done
theorem r75 {ys : List Hd} {bs : List Blk} {pend : List (Option AExit)} {id g : Nat} {l : List Rw} {n i : Nat} (hb : bs[id]? = some (.lst 0 g 85 19 (rrows l))) (hn : l.length = n) (hi : i < n) (hl : n ≤ 1000000) (hlow : belowAll bs.length bs = true) :
    ∃ z e, LR E ys 64 [.lis id g 0 n, .int .i64 (i : Nat), .int .i64 ((i + 1 : Nat) : Int)] ⟨bs, pend⟩ = some (.lis id g 0 (n - 1), ⟨bs.set id (.lst 0 g 85 19 (rrows (l.take i ++ l.drop (i + 1)) ++ z)) ++ e, pend⟩) := by
  subst hn
  have hA : ∀ r, (bs ++ r)[id]? = some (.lst 0 g 85 19 (rrows l)) := fun r => get_lt hb
  have ia := (List.getElem?_eq_some_iff.1 hb).1
  have sA : ∀ r x, (bs ++ r).set id x = bs.set id x ++ r := fun r x => by rw [List.set_append_left _ _ ia]
  have f1 : (i : Int) < (l.length : Int) := by omega
  have f2 : (0 : Int) ≤ (i : Int) := by omega
  have f3 : ((i : Int) == ((i + 1 : Nat) : Int)) = false := by rw [beq_eq_false_iff_ne]; omega
  have g1 : i ≤ i + 1 := by omega
  have g2 : i + 1 ≤ l.length := by omega
  have g3 : l.length ≤ l.length := Nat.le_refl _
  have g4 : i ≤ l.length := by omega
  have g5 : ¬ (l.length < i) := by omega
  have h1 : (l.drop (i + 1)).take (l.length - (i + 1)) = l.drop (i + 1) := List.take_of_length_le (by simp)
  have h2 : headFits 19 (rrows (l.drop (i + 1))) = true := by
    cases l.drop (i + 1) with
    | nil => rfl
    | cons r t => simp [rrows, headFits, rav_len]
  have h3 : i + (1 + (l.length - (i + 1))) ≤ l.length := by omega
  have h4 : i + (l.length - (i + 1)) = l.length - 1 := by omega
  have h5 : l.length - 1 ≤ l.length := by omega
  have h6 : (rrows (l.drop (l.length - 1))).length = 1 := by rw [rrows_len, List.length_drop]; omega
  have hB : ∀ X r, (bs.set id X ++ r)[id]? = some X := fun X r => by rw [List.getElem?_append_left (by rw [List.length_set]; exact ia), List.getElem?_set_self ia]
  have sB : ∀ X r Y, (bs.set id X ++ r).set id Y = bs.set id Y ++ r := fun X r Y => by rw [List.set_append_left _ _ (by rw [List.length_set]; exact ia), List.set_set]
  have h7 : min i l.length + (l.length - (i + 1) + 1) = l.length := by omega
  have h8 : (0 : Int) ≤ ((l.length - 1 : Nat) : Int) := by omega
  have h9 : ((l.length - 1 : Nat) : Int).toNat = l.length - 1 := by omega
  have h10 : l.length - (l.length - 1) = 1 := by omega
  have h11 : l.length - 1 + 1 ≤ l.length := by omega
  have h12 : (l.take i ++ (l.drop (i + 1) ++ l.drop (l.length - 1))).take (l.length - 1) = l.take i ++ l.drop (i + 1) := by
    rw [← List.append_assoc]; exact List.take_left' (by simp only [List.length_append, List.length_take, List.length_drop]; omega)
  rw [LR_R (fn := f64) rfl rfl rfl]
  simp only [f64, ← rav_zer, RB, pickV, eqbV, notV, negV, convV, faddrV, fldV, idxV, eqaggV, iaddrV, isnilV, nilckV, cloV, extrV, slenV, minV, sidxV, abin, cmpInt, params, growLists, fillCells, newAt, rdPtr, wrPtr, AV.cells, asVal, lenOf, boundOf, rowsOf, argIds, freshIn, scalar1, setAll, AV.isData, AV.isYld, Nat.reduceAdd, Nat.reduceMul, Nat.reduceSub, Nat.reduceEqDiff, Nat.reduceLeDiff, Nat.reduceLT, Int.reduceNeg, ↓reduceIte, reduceCtorEq, Int.reduceEq, Int.reduceLT, Int.reduceLE, Int.reduceBEq, Int.reduceBNe, Int.reduceToNat, IntKind.bits, Int.reduceAdd, Int.reduceSub, Int.reduceMul, Int.reduceTDiv, Int.reduceTMod, DB, DB2, R7B, take_add, List.append_assoc, List.length_append, Nat.add_assoc, shrink_lit, ball_app, RG, LPB, hA, sA, f1, f2, f3, asliceL, boundOf, lisFits, rrows_len, Int.toNat_natCast, Option.isSome_some, Option.isSome_none, g1, g2, g3, aslice, g4, g5, aappIn, h1, h2, h3, h4, h5, List.length_drop, List.length_take, hB, sB, List.length_set, h7, h8, h9, List.length_append, h10, aop, h11, h12]
  refine ⟨rrows (zerR :: (l.take i ++ (l.drop (i + 1) ++ l.drop (l.length - 1))).drop (l.length - 1 + 1)), [.lst 0 0 85 19 []], ?_⟩
  simp only [rrows, List.map_append, List.append_assoc]
end Go.Proofs.YtdllnneeopbmdaaDoor.F

/- table.Drop. No condition. -/
set_option linter.unusedSimpArgs false
namespace Go.Proofs.YtdllnneeopbmdaaDoor.F
open Go Go.Proofs.YtdllnneeopbmdaaDoor.A Go.Proofs.YtdllnneeopbmdaaDoor.D
theorem e_table_Drop (x : List Rw) (p : Pfx) (hx : x.length ≤ 1000000) : LV E 29 [.agg [.ro (rrows x)], .agg (pav p)] = some (tupT (dropT x p)) := by
  rw [LV_R (fn := f29) rfl rfl rfl]
  have h60 := e_table_Check x (by omega)
  unfold dropT tupT
  by_cases k1 : TabOk x
  · obtain ⟨i, i1, i2, i3, h69⟩ := e_table_place x p hx k1.rise.rows
    have ht := there_iff i2 i3 k1.rise.rows
    by_cases k4 : There x p
    · have k5 := ht.1 k4
      have k7 : (row x i).p = p := k5.2
      have f6 : IntKind.i64.wrap ((i : Int) + 1) = ((i + 1 : Nat) : Int) := by rw [IntWalk.i64_in _ (by omega)] <;> omega
      obtain ⟨z, e, h75⟩ := r75 (ys := []) (pend := []) (bs := [.box 0 30 [.ro (rrows x)], .box 0 58 (pav p), .box 0 30 [.lis 3 0 0 0], .lst 0 0 85 19 [], .lst 0 0 85 19 (rrows x)]) (id := 4) (g := 0) (l := x) rfl rfl k5.1 hx (by simp [LPB, pav_below])
      simp only [List.set_cons_succ, List.set_cons_zero, List.cons_append, List.nil_append] at h75
      have hq : D.ahead x p ++ past x p = x.take i ++ x.drop (i + 1) := by
        rw [lo_ahead i2 i3, hi_past k1.rise.rows i2 i3 (if_pos k5).symm]
      have hc : x.length - 1 ≤ (x.take i).length + ((x.drop (i + 1)).length + z.length) := by simp only [List.length_take, List.length_drop]; omega
      have hT : (rrows (x.take i ++ x.drop (i + 1)) ++ z).take (x.length - 1) = rrows (D.ahead x p ++ past x p) := by
        rw [hq]; exact List.take_left' (by simp only [rrows_len, List.length_append, List.length_take, List.length_drop]; omega)
      simp only [f29, ← rav_zer, RB, pickV, eqbV, notV, negV, convV, faddrV, fldV, idxV, eqaggV, iaddrV, isnilV, nilckV, cloV, extrV, slenV, minV, sidxV, abin, cmpInt, params, growLists, fillCells, newAt, rdPtr, wrPtr, AV.cells, asVal, lenOf, boundOf, rowsOf, argIds, freshIn, scalar1, setAll, AV.isData, AV.isYld, Nat.reduceAdd, Nat.reduceMul, Nat.reduceSub, Nat.reduceEqDiff, Nat.reduceLeDiff, Nat.reduceLT, Int.reduceNeg, ↓reduceIte, reduceCtorEq, Int.reduceEq, Int.reduceLT, Int.reduceLE, Int.reduceBEq, Int.reduceBNe, Int.reduceToNat, IntKind.bits, Int.reduceAdd, Int.reduceSub, Int.reduceMul, Int.reduceTDiv, Int.reduceTMod, DB, DB2, R7B, take_add, List.append_assoc, List.length_append, Nat.add_assoc, shrink_lit, ball_app, RG, LPB, h60, k1, h69, e_slices_Clone_Row x hx, k4, k5.1, k7, f6, h75, expIn_tab, expCell, List.nodup_cons, List.nodup_nil, List.not_mem_nil, not_false_eq_true, not_true_eq_false, and_true, and_false, if_false, List.mem_cons, mutIds, hc, hT]
    · have k5 : decide (i < x.length ∧ (row x i).p = p) = false := decide_eq_false fun h => k4 (ht.2 h)
      simp only [f29, ← rav_zer, RB, pickV, eqbV, notV, negV, convV, faddrV, fldV, idxV, eqaggV, iaddrV, isnilV, nilckV, cloV, extrV, slenV, minV, sidxV, abin, cmpInt, params, growLists, fillCells, newAt, rdPtr, wrPtr, AV.cells, asVal, lenOf, boundOf, rowsOf, argIds, freshIn, scalar1, setAll, AV.isData, AV.isYld, Nat.reduceAdd, Nat.reduceMul, Nat.reduceSub, Nat.reduceEqDiff, Nat.reduceLeDiff, Nat.reduceLT, Int.reduceNeg, ↓reduceIte, reduceCtorEq, Int.reduceEq, Int.reduceLT, Int.reduceLE, Int.reduceBEq, Int.reduceBNe, Int.reduceToNat, IntKind.bits, Int.reduceAdd, Int.reduceSub, Int.reduceMul, Int.reduceTDiv, Int.reduceTMod, DB, DB2, R7B, take_add, List.append_assoc, List.length_append, Nat.add_assoc, shrink_lit, ball_app, RG, LPB, h60, k1, h69, k4, k5, expIn_tab, expCell, List.nodup_cons, List.nodup_nil, List.not_mem_nil, not_false_eq_true, not_true_eq_false, and_true, and_false, if_false, List.mem_cons, mutIds, rrows_nil]
  · simp only [f29, RB, pickV, eqbV, notV, negV, convV, faddrV, fldV, idxV, eqaggV, iaddrV, isnilV, nilckV, cloV, extrV, slenV, minV, sidxV, abin, cmpInt, params, growLists, fillCells, newAt, rdPtr, wrPtr, AV.cells, asVal, lenOf, boundOf, rowsOf, argIds, freshIn, scalar1, setAll, AV.isData, AV.isYld, Nat.reduceAdd, Nat.reduceMul, Nat.reduceSub, Nat.reduceEqDiff, Nat.reduceLeDiff, Nat.reduceLT, Int.reduceNeg, ↓reduceIte, reduceCtorEq, Int.reduceEq, Int.reduceLT, Int.reduceLE, Int.reduceBEq, Int.reduceBNe, Int.reduceToNat, IntKind.bits, Int.reduceAdd, Int.reduceSub, Int.reduceMul, Int.reduceTDiv, Int.reduceTMod, DB, DB2, R7B, take_add, List.append_assoc, List.length_append, Nat.add_assoc, shrink_lit, ball_app, RG, LPB, h60, k1, expIn_tab, expCell, List.nodup_cons, List.nodup_nil, List.not_mem_nil, not_false_eq_true, not_true_eq_false, and_true, and_false, if_false, List.mem_cons, mutIds, rrows_nil]
end Go.Proofs.YtdllnneeopbmdaaDoor.F

/- Tables that are set: these may be. No condition. -/
set_option linter.unusedSimpArgs false
namespace Go.Proofs.YtdllnneeopbmdaaDoor.F
open Go Go.Proofs.YtdllnneeopbmdaaDoor.A Go.Proofs.YtdllnneeopbmdaaDoor.D
theorem ap_len (p : Pfx) : ∀ x : List Rw, (D.ahead x p).length + (past x p).length ≤ x.length ∧ (There x p → (D.ahead x p).length + (past x p).length + 1 ≤ x.length)
  | [] => ⟨by simp [D.ahead, past], fun ⟨r, hr, _⟩ => by cases hr⟩
  | r :: x => by
    obtain ⟨h1, h2⟩ := ap_len p x
    unfold D.ahead past There at *
    simp only [List.filter_cons, List.length_cons]
    rcases cmp_range r.p p with h | h | h
    · simp only [h, show ((-1 : Int) < 0) from by decide, show ¬ ((0 : Int) < -1) from by decide, decide_true, decide_false, if_true, Bool.false_eq_true, if_false, List.length_cons]
      refine ⟨by omega, fun ⟨y, hy, e⟩ => ?_⟩
      rcases List.mem_cons.1 hy with rfl | hy
      · rw [e, cmp_self] at h; omega
      · have := h2 ⟨y, hy, e⟩; omega
    · simp only [h, show ¬ ((0 : Int) < 0) from by decide, decide_false, Bool.false_eq_true, if_false]
      exact ⟨by omega, fun _ => by omega⟩
    · simp only [h, show ¬ ((1 : Int) < 0) from by decide, show ((0 : Int) < 1) from by decide, decide_true, decide_false, if_true, Bool.false_eq_true, if_false, List.length_cons]
      refine ⟨by omega, fun ⟨y, hy, e⟩ => ?_⟩
      rcases List.mem_cons.1 hy with rfl | hy
      · rw [e, cmp_self] at h; omega
      · have := h2 ⟨y, hy, e⟩; omega
theorem put_rise {x : List Rw} (hr : Rise x) (r : Rw) : Rise (putR x r) := by
  unfold putR Rise
  rw [List.append_assoc, List.pairwise_append]
  refine ⟨hr.filter _, ?_, fun a ha b hb => ?_⟩
  · rw [List.singleton_append, List.pairwise_cons]
    refine ⟨fun b hb => ?_, hr.filter _⟩
    have := (List.mem_filter.1 hb).2
    have h1 := cmp_anti b.p r.p
    simp at this; omega
  · have h1 : cmpP a.p r.p < 0 := by simpa using (List.mem_filter.1 ha).2
    rcases List.mem_cons.1 hb with rfl | hb
    · exact h1
    · have h2 : 0 < cmpP b.p r.p := by simpa using (List.mem_filter.1 hb).2
      exact cmp_trans h1 (by have := cmp_anti b.p r.p; omega)
theorem drop_rise {x : List Rw} (hr : Rise x) (p : Pfx) : Rise (D.ahead x p ++ past x p) := by
  unfold Rise
  rw [List.pairwise_append]
  refine ⟨hr.filter _, hr.filter _, fun a ha b hb => ?_⟩
  have h1 : cmpP a.p p < 0 := by simpa using (List.mem_filter.1 ha).2
  have h2 : 0 < cmpP b.p p := by simpa using (List.mem_filter.1 hb).2
  exact cmp_trans h1 (by have := cmp_anti b.p p; omega)
theorem set_tab {x : List Rw} {p : Pfx} {h : Int} (he : (setS x p h).2 = 0) : TabOk x ∧ PfxOk p ∧ hopOk h ∧ (setS x p h).1 = putR x ⟨p, h⟩ ∧ TabOk (putR x ⟨p, h⟩) := by
  have key : TabOk x → PfxOk p → hopOk h → (There x p ∨ x.length ≠ 40) → TabOk (putR x ⟨p, h⟩) := fun k1 k2 k3 k4 => by
    obtain ⟨l1, l2⟩ := ap_len p x
    have hl := k1.len
    refine tab_of ?_ (put_rise k1.rise _) fun r hr => ?_
    · unfold putR
      simp only [List.length_append, List.length_singleton]
      rcases k4 with k4 | k4
      · have := l2 k4; omega
      · omega
    · unfold putR at hr
      simp only [List.mem_append, List.mem_singleton] at hr
      rcases hr with (hr | rfl) | hr
      · exact k1.mem (List.mem_filter.1 hr).1
      · exact ⟨k2, k3⟩
      · exact k1.mem (List.mem_filter.1 hr).1
  unfold setS at *
  split at he
  · rename_i k1
    split at he
    · rename_i k2
      split at he
      · rename_i k3
        rw [if_pos k1, if_pos k2, if_pos k3]
        exact ⟨k1, k2.1, k2.2, rfl, key k1 k2.1 k2.2 (.inl k3)⟩
      · rename_i k3
        split at he
        · cases he
        · rename_i k4
          rw [if_pos k1, if_pos k2, if_neg k3, if_neg k4]
          exact ⟨k1, k2.1, k2.2, rfl, key k1 k2.1 k2.2 (.inr k4)⟩
    · cases he
  · cases he
theorem drop_tab {x : List Rw} {p : Pfx} (he : (dropT x p).2 = 0) : TabOk x ∧ (dropT x p).1 = D.ahead x p ++ past x p ∧ TabOk (D.ahead x p ++ past x p) := by
  unfold dropT at *
  split at he
  · rename_i k1
    split at he
    · rename_i k2
      rw [if_pos k1, if_pos k2]
      refine ⟨k1, rfl, tab_of ?_ (drop_rise k1.rise _) fun r hr => ?_⟩
      · have := (ap_len p x).1; have := k1.len
        rw [List.length_append]; omega
      · rcases List.mem_append.1 hr with hr | hr
        · exact k1.mem (List.mem_filter.1 hr).1
        · exact k1.mem (List.mem_filter.1 hr).1
    · cases he
  · cases he
end Go.Proofs.YtdllnneeopbmdaaDoor.F

/- What a tally holds, whatever is done: the plain law. No condition. -/
set_option linter.unusedSimpArgs false
namespace Go.Proofs.YtdllnneeopbmdaaDoor.D
open Go Go.Proofs.YtdllnneeopbmdaaDoor.A
def Und (c d : Cnt) : Prop := c.pk ≤ d.pk ∧ c.by' ≤ d.by'
def N0 (c : Cnt) : Prop := 0 ≤ c.pk ∧ 0 ≤ c.by'
def addN (c d : Cnt) : Cnt := ⟨c.pk + d.pk, c.by' + d.by'⟩
def sumS (l : List Cd) (n : Cnt) : Cnt := l.foldl (fun s r => addN s r.c) n
structure Good (s : List Cd × Cnt) (C : Cnt) : Prop where
  n0 : N0 s.2
  c0 : ∀ r ∈ s.1, N0 r.c
  tot : sumS s.1 s.2 = C
theorem N0.add {c d : Cnt} (h : N0 c) (k : N0 d) : N0 (addN c d) := by
  have := h.1; have := h.2; have := k.1; have := k.2
  exact ⟨by simp only [addN]; omega, by simp only [addN]; omega⟩
theorem addN_right (a b c : Cnt) : addN (addN a b) c = addN (addN a c) b := by simp only [addN, Cnt.mk.injEq]; omega
theorem sumS_add (c : Cnt) : ∀ (l : List Cd) (n : Cnt), sumS l (addN n c) = addN (sumS l n) c
  | [], _ => rfl
  | r :: l, n => by
    show sumS l (addN (addN n c) r.c) = addN (sumS l (addN n r.c)) c
    rw [addN_right, sumS_add c l]
theorem sumS_le : ∀ (l : List Cd) (n : Cnt), (∀ r ∈ l, N0 r.c) → N0 n → Und n (sumS l n) ∧ ∀ r ∈ l, Und r.c (sumS l n)
  | [], n, _, _ => ⟨⟨Int.le_refl _, Int.le_refl _⟩, fun r hr => by cases hr⟩
  | r :: l, n, h, hn => by
    have hr := h r (by simp)
    obtain ⟨h1, h2⟩ := sumS_le l (addN n r.c) (fun x hx => h x (by simp [hx])) (hn.add hr)
    have e : sumS (r :: l) n = sumS l (addN n r.c) := rfl
    rw [e]
    have a1 := hn.1; have a2 := hn.2; have a3 := hr.1; have a4 := hr.2
    have b1 : n.pk + r.c.pk ≤ _ := h1.1
    have b2 : n.by' + r.c.by' ≤ _ := h1.2
    refine ⟨⟨by omega, by omega⟩, fun x hx => ?_⟩
    rcases List.mem_cons.1 hx with rfl | hx
    · exact ⟨by omega, by omega⟩
    · exact h2 x hx
theorem plus_add {c d : Cnt} (hc : N0 c) (hd : N0 d) (h : NOk (addN c d)) : plusN c d = addN c d := by
  unfold plusN addN
  rw [sumN_small hc.1 hd.1 h.1, sumN_small hc.2 hd.2 h.2]
theorem NOk.le {c d : Cnt} (h : NOk d) (k : Und c d) : NOk c := ⟨Int.le_trans k.1 h.1, Int.le_trans k.2 h.2⟩
theorem tot_sum : ∀ (l : List Cd) (n : Cnt), (∀ r ∈ l, N0 r.c) → N0 n → NOk (sumS l n) → totS l n = sumS l n
  | [], _, _, _, _ => rfl
  | r :: l, n, h, hn, hk => by
    have hr := h r (by simp)
    have hl : ∀ x ∈ l, N0 x.c := fun x hx => h x (by simp [hx])
    have h1 := (sumS_le l (addN n r.c) hl (hn.add hr)).1
    show totS l (plusN n r.c) = sumS l (addN n r.c)
    rw [plus_add hn hr (NOk.le hk h1)]
    exact tot_sum l _ hl (hn.add hr) hk
theorem give_sum (c : Cnt) : ∀ (l : List Cd) (i : Nat) (n : Cnt), i < l.length → (∀ r ∈ l, plusN r.c c = addN r.c c) → sumS (giveAt l i c) n = addN (sumS l n) c
  | [], _, _, h, _ => by simp at h
  | r :: l, 0, n, _, hp => by
    show sumS l (addN n (plusN r.c c)) = addN (sumS l (addN n r.c)) c
    rw [hp r (by simp), ← sumS_add]
    congr 1
    simp only [addN, Cnt.mk.injEq]; omega
  | r :: l, i + 1, n, h, hp => by
    show sumS (giveAt l i c) (addN n r.c) = addN (sumS l (addN n r.c)) c
    exact give_sum c l i _ (by simpa using h) (fun x hx => hp x (by simp [hx]))
theorem give_mem {c : Cnt} : ∀ {l : List Cd} {i : Nat} {r : Cd}, r ∈ giveAt l i c → r ∈ l ∨ ∃ x ∈ l, r.c = plusN x.c c
  | [], i, r, h => by simp [giveAt] at h
  | x :: l, 0, r, h => by
    have h : r = ⟨x.p, plusN x.c c⟩ ∨ r ∈ l := by simpa [giveAt] using h
    rcases h with rfl | h
    · exact .inr ⟨x, by simp, rfl⟩
    · exact .inl (by simp [h])
  | x :: l, i + 1, r, h => by
    have h : r = x ∨ r ∈ giveAt l i c := by simpa [giveAt] using h
    rcases h with rfl | h
    · exact .inl (by simp)
    · rcases give_mem h with h | ⟨y, h1, h2⟩
      · exact .inl (by simp [h])
      · exact .inr ⟨y, by simp [h1], h2⟩
theorem Good.give {s : List Cd × Cnt} {C c : Cnt} {i : Int} (h : Good s C) (hc : N0 c) (hb : NOk (addN C c)) (hi : i = -1 ∨ 0 ≤ i ∧ i < s.1.length) : Good (giveS s.1 i c, if i < 0 then plusN s.2 c else s.2) (addN C c) := by
  obtain ⟨h1, h2⟩ := sumS_le s.1 s.2 h.c0 h.n0
  rw [h.tot] at h1 h2
  have up : ∀ d, N0 d → Und d C → plusN d c = addN d c := fun d hd hl => plus_add hd hc (NOk.le hb ⟨by have := hl.1; simp only [addN]; omega, by have := hl.2; simp only [addN]; omega⟩)
  rcases hi with rfl | ⟨i1, i2⟩
  · have e : giveS s.1 (-1) c = s.1 := if_pos (by decide)
    rw [e, if_pos (by decide), up _ h.n0 h1]
    exact ⟨h.n0.add hc, h.c0, by rw [sumS_add, h.tot]⟩
  · have e : giveS s.1 i c = giveAt s.1 i.toNat c := if_neg (by omega)
    rw [e, if_neg (by omega)]
    refine ⟨h.n0, fun r hr => ?_, ?_⟩
    · rcases give_mem hr with hr | ⟨y, hy, e⟩
      · exact h.c0 r hr
      · rw [e, up _ (h.c0 y hy) (h2 y hy)]; exact (h.c0 y hy).add hc
    · show sumS (giveAt s.1 i.toNat c) s.2 = _
      rw [give_sum c _ _ _ (by omega) (fun r hr => up _ (h.c0 r hr) (h2 r hr)), h.tot]
theorem Good.fold {y : List Rw} : ∀ (l : List Cd) (s : List Cd × Cnt) (C : Cnt), Good s C → s.1.length = y.length → (∀ r ∈ l, N0 r.c) → NOk (sumS l C) → Good (l.foldl (moveF y) s) (sumS l C)
  | [], _, _, h, _, _, _ => h
  | r :: l, s, C, h, hl, h0, hk => by
    have hr := h0 r (by simp)
    have hl0 : ∀ x ∈ l, N0 x.c := fun x hx => h0 x (by simp [hx])
    have hC : N0 C := by
      obtain ⟨h1, _⟩ := sumS_le s.1 s.2 h.c0 h.n0
      rw [h.tot] at h1
      exact ⟨Int.le_trans h.n0.1 h1.1, Int.le_trans h.n0.2 h1.2⟩
    have h1 := (sumS_le l (addN C r.c) hl0 (hC.add hr)).1
    have hg := h.give (i := bestI (holdsB r.p) y y.length) hr (NOk.le hk h1) (by rw [hl]; exact bestI_lt _ _ _)
    exact Good.fold l (moveF y s r) (addN C r.c) hg (by show (giveS s.1 _ r.c).length = _; rw [giveS_len]; exact hl) hl0 hk
theorem zero_good (y : List Rw) {n : Cnt} (hn : N0 n) : Good (zeroS y, n) n := by
  refine ⟨hn, fun r hr => ?_, ?_⟩
  · obtain ⟨x, _, rfl⟩ := List.mem_map.1 hr
    exact ⟨Int.le_refl _, Int.le_refl _⟩
  · show sumS (zeroS y) n = n
    induction y generalizing n with
    | nil => rfl
    | cons x y ih =>
      show sumS (zeroS y) (addN n zerN) = n
      have e : addN n zerN = n := by simp [addN, zerN]
      rw [e]; exact ih hn
theorem move_map {y : List Rw} : ∀ (l : List Cd) (s : List Cd × Cnt), (l.foldl (moveF y) s).1.map Cd.p = s.1.map Cd.p
  | [], _ => rfl
  | r :: l, s => by rw [List.foldl_cons, move_map l]; exact giveS_map _ _ _
theorem Good.talOk {x : List Rw} {l : List Cd} {n C : Cnt} (h : Good (l, n) C) (hx : TabOk x) (hm : l.map Cd.p = x.map Rw.p) (hk : NOk C) : TalOk l n := by
  obtain ⟨h1, h2⟩ := sumS_le l n h.c0 h.n0
  have ht : sumS l n = C := h.tot
  rw [ht] at h1 h2
  have e1 : l.length = x.length := by simpa using congrArg List.length hm
  exact tal_of hx hm (NOk.le hk h1) fun i hi => NOk.le hk (h2 _ (List.mem_of_getElem? (dow_some l (by omega))))
theorem Good.move {x y : List Rw} {l : List Cd} {n C : Cnt} (h : Good (l, n) C) (hx : TabOk x) (hy : TabOk y) (hm : l.map Cd.p = x.map Rw.p) (hk : NOk C) :
    moveS l n x y = (l.foldl (moveF y) (zeroS y, n), 0) ∧ Good (l.foldl (moveF y) (zeroS y, n)) C ∧ (l.foldl (moveF y) (zeroS y, n)).1.map Cd.p = y.map Rw.p := by
  have ht : sumS l n = C := h.tot
  have ho := h.talOk hx hm hk
  refine ⟨?_, ?_, by rw [move_map]; exact zeroS_map y⟩
  · unfold moveS
    have e : errS l n x y = 0 := by unfold errS; rw [if_pos ho, if_pos hx, if_pos hy, if_pos hm]
    rw [if_pos e]
  · rw [← ht]
    exact Good.fold l _ _ (zero_good y h.n0) (zeroS_len y) h.c0 (by rw [ht]; exact hk)
theorem Good.pass {x : List Rw} {l : List Cd} {n C : Cnt} (h : Good (l, n) C) (hm : l.map Cd.p = x.map Rw.p) (a : Adr) {b : Int} (hb : 0 ≤ b) (hk : NOk (addN C ⟨1, b⟩)) : Good (give1 x a b (l, n)) (addN C ⟨1, b⟩) ∧ (give1 x a b (l, n)).1.map Cd.p = x.map Rw.p := by
  have e1 : l.length = x.length := by simpa using congrArg List.length hm
  unfold give1
  refine ⟨h.give (i := bestI (hasB a) x x.length) ⟨show (0 : Int) ≤ 1 by decide, hb⟩ hk ?_, by simp only [giveS_map]; exact hm⟩
  simp only [e1]
  exact bestI_lt _ _ _
end Go.Proofs.YtdllnneeopbmdaaDoor.D

/- TallyAll: what is done, as data. No condition. -/
set_option linter.unusedSimpArgs false
namespace Go.Proofs.YtdllnneeopbmdaaDoor.D
open Go Go.Proofs.YtdllnneeopbmdaaDoor.A
structure Dd where
  kind : Int
  adr : Adr
  b : Int
  p : Pfx
  hop : Int
def gv (d : Dd) : List AV := [.int .i64 d.kind] ++ (aav d.adr ++ ([.int .u64 d.b] ++ (pav d.p ++ [.int .i64 d.hop])))
def zerG : Dd := ⟨0, zerA, 0, zerP, 0⟩
theorem gv_zer : gv zerG = [.int .i64 0, .int .i64 0, .int .u8 0, .int .u8 0, .int .u8 0, .int .u8 0, .int .u8 0, .int .u8 0, .int .u8 0, .int .u8 0, .int .u8 0, .int .u8 0, .int .u8 0, .int .u8 0, .int .u8 0, .int .u8 0, .int .u8 0, .int .u8 0, .int .u64 0, .int .i64 0, .int .u8 0, .int .u8 0, .int .u8 0, .int .u8 0, .int .u8 0, .int .u8 0, .int .u8 0, .int .u8 0, .int .u8 0, .int .u8 0, .int .u8 0, .int .u8 0, .int .u8 0, .int .u8 0, .int .u8 0, .int .u8 0, .int .i64 0, .int .i64 0] := rfl
theorem pc_mid (a b c : List AV) {o n : Nat} (ho : a.length = o) (hn : b.length = n) : piece (a ++ (b ++ c)) o n = some b := by
  unfold piece
  rw [if_pos (by simp only [List.length_append]; omega), ← ho, List.drop_left, ← hn, List.take_left]
theorem gv_len (d : Dd) : (gv d).length = 38 := by simp [gv, aav_len, pav_len]
theorem gv_data (d : Dd) : dataL (gv d) = true := by
  unfold gv; rw [all_data, all_data, all_data, all_data, aav_data, pav_data]; rfl
theorem gv_below (m : Nat) (d : Dd) : belowL m (gv d) = true := below_data m (gv_data d)
theorem gv_p (d : Dd) : piece (gv d) 0 38 = some (gv d) := pc_all _ _ (gv_len d)
theorem gv_k (d : Dd) : piece (gv d) 0 1 = some [.int .i64 d.kind] := pc_mid [] [.int .i64 d.kind] _ rfl rfl
theorem gv_a (d : Dd) : piece (gv d) 1 17 = some (aav d.adr) := pc_mid [.int .i64 d.kind] (aav d.adr) _ rfl (aav_len _)
theorem gv_b (d : Dd) : piece (gv d) 18 1 = some [.int .u64 d.b] := by
  have := pc_mid ([.int .i64 d.kind] ++ aav d.adr) [.int .u64 d.b] (pav d.p ++ [.int .i64 d.hop]) (o := 18) (n := 1) (by simp [aav_len]) rfl
  unfold gv; simpa only [List.append_assoc] using this
theorem gv_f (d : Dd) : piece (gv d) 19 18 = some (pav d.p) := by
  have := pc_mid ([.int .i64 d.kind] ++ aav d.adr ++ [.int .u64 d.b]) (pav d.p) [.int .i64 d.hop] (o := 19) (n := 18) (by simp [aav_len]) (pav_len _)
  unfold gv; simpa only [List.append_assoc] using this
theorem gv_h (d : Dd) : piece (gv d) 37 1 = some [.int .i64 d.hop] := by
  have := pc_mid ([.int .i64 d.kind] ++ aav d.adr ++ [.int .u64 d.b] ++ pav d.p) [.int .i64 d.hop] [] (o := 37) (n := 1) (by simp [aav_len, pav_len]) rfl
  unfold gv; simpa only [List.append_assoc, List.append_nil] using this
theorem gv_o (l : List AV) (d : Dd) (h : l.length = 38) : ovr l 0 (gv d) = some (gv d) := ovr_all _ _ (by rw [h, gv_len])
def grows (l : List Dd) : List (List AV) := l.map gv
def gow (l : List Dd) (i : Nat) : Dd := l.getD i zerG
theorem grows_len (l : List Dd) : (grows l).length = l.length := by simp [grows]
theorem gow_some (l : List Dd) {i : Nat} (h : i < l.length) : l[i]? = some (gow l i) := by simp [gow, List.getD_eq_getElem?_getD, h]
theorem grows_get (l : List Dd) {i : Nat} (h : i < l.length) : (grows l)[i]? = some (gv (gow l i)) := by
  simp only [grows, List.getElem?_map, gow_some l h, Option.map_some]
end Go.Proofs.YtdllnneeopbmdaaDoor.D

/- TallyAll: the run. No condition. -/
set_option linter.unusedSimpArgs false
namespace Go.Proofs.YtdllnneeopbmdaaDoor.F
open Go Go.Proofs.YtdllnneeopbmdaaDoor.A Go.Proofs.YtdllnneeopbmdaaDoor.D
/-- Where a table lies: not yet set, or set. -/
def cellX (fl : Bool) (x : List Rw) : AV := if fl then .ro (rrows x) else .lis 1 0 0 0
theorem snap_tab (bs : List Blk) (a b c d : Nat) : snap bs (.agg [.lis a b c d]) = (rowsOf bs (.lis a b c d)).map fun x => .agg [.ro x] := by
  show ([AV.lis a b c d].mapM (snapCell bs)).map AV.agg = _
  rw [List.mapM_cons]
  show (((rowsOf bs (.lis a b c d)).map AV.ro).bind _).map _ = _
  cases rowsOf bs (.lis a b c d) <;> rfl
structure AllI (s : Nat × Bool × List Rw × (List Cd × Cnt) × Cnt) : Prop where
  k : s.1 ≤ 60
  fl : s.2.1 = false → s.2.2.1 = []
  x : TabOk s.2.2.1
  m : s.2.2.2.1.1.map Cd.p = s.2.2.1.map Rw.p
  g : D.Good s.2.2.2.1 s.2.2.2.2
  c0 : N0 s.2.2.2.2
  c1 : s.2.2.2.2.pk ≤ s.1
  c2 : s.2.2.2.2.by' ≤ s.1 * 1099511627776
set_option maxHeartbeats 4000000 in
set_option maxRecDepth 4000 in
theorem allLaw (l : List Dd) (hb : ∀ d ∈ l, 0 ≤ d.b) : LV E 7 [.ro (grows l)] = some (.bool true) := by
  rw [LV_R (fn := f7) rfl rfl rfl]
  have h14 := e14 [] (by decide)
  rw [if_pos (by decide)] at h14
  simp only [rrows_nil] at h14
  simp only [f7, ← gv_zer, ← nav_zer, RB, pickV, eqbV, notV, negV, convV, faddrV, fldV, idxV, eqaggV, iaddrV, isnilV, nilckV, cloV, extrV, slenV, minV, sidxV, abin, cmpInt, params, growLists, fillCells, newAt, rdPtr, wrPtr, AV.cells, asVal, lenOf, boundOf, rowsOf, argIds, freshIn, scalar1, setAll, AV.isData, AV.isYld, Nat.reduceAdd, Nat.reduceMul, Nat.reduceSub, Nat.reduceEqDiff, Nat.reduceLeDiff, Nat.reduceLT, Int.reduceNeg, ↓reduceIte, reduceCtorEq, Int.reduceEq, Int.reduceLT, Int.reduceLE, Int.reduceBEq, Int.reduceBNe, Int.reduceToNat, IntKind.bits, Int.reduceAdd, Int.reduceSub, Int.reduceMul, Int.reduceTDiv, Int.reduceTMod, DB, DB2, DB3, R7B, take_add, List.append_assoc, List.length_append, Nat.add_assoc, shrink_lit, ball_app, RG, LPB, e10, h14, CW_some, scalar, scalar1, lockAll, lockAt, reduceCtorEq, extrV, List.all_cons, List.all_nil, bne_self_eq_false, grows_len, snap_tab, pairOk, AV.ids, List.contains_cons, List.contains_nil, Nat.reduceBEq, List.all_cons, List.all_nil, Bool.or_self, Bool.not_false, Bool.and_self, Bool.or_false, mutIds]
  refine (W_rec2 (β := AV) (ι := {s : Nat × Bool × List Rw × (List Cd × Cnt) × Cnt // AllI s}) (M := fun s => [(3, .ptr 0 0 0 0), (4, .ptr 2 0 0 0), (6, .ptr 4 0 0 0), (25, .ro (grows l)), (26, .int .i64 (l.length : Int)), (27, .int .i64 (s.1.1 : Int))])
    (H := fun s => ⟨[.box 0 30 [cellX s.1.2.1 s.1.2.2.1], .lst 2 0 85 19 [], .box 0 27 (.ro (drows s.1.2.2.2.1.1) :: nav s.1.2.2.2.1.2), .lst 0 0 60 20 [], .box 0 25 (nav s.1.2.2.2.2)], []⟩)
    (r := fun _ => some (AV.bool true)) (μ := fun s => 61 - s.1.1) (fun s => ?_) (fun s ih => ?_) ⟨(0, false, [], (zeroS [], zerN), zerN), ⟨by decide, fun _ => rfl, by decide, rfl, zero_good [] ⟨by decide, by decide⟩, ⟨by decide, by decide⟩, by decide, by decide⟩⟩ rfl rfl)
  · obtain ⟨⟨k, fl, x, t, C⟩, hI⟩ := s
    cases fl <;> simp [LPB, nav_below, cellX]
  · obtain ⟨⟨k, fl, x, ⟨tl, tn⟩, C⟩, hI⟩ := s
    obtain ⟨hk60, hfl, hx, hm, hg, hC0, hC1, hC2⟩ := hI
    simp only at hk60 hfl hx hm hg hC0 hC1 hC2 ih ⊢
    have hx4 : x.length ≤ 1000000 := by have := hx.len; omega
    have htl : tl.length = x.length := by simpa using congrArg List.length hm
    have hKC : NOk C := ⟨by omega, by omega⟩
    have hT := hg.talOk hx hm hKC
    have h30 := e30 tl tn (by omega)
    have h31 := e31 tl tn (by omega)
    rw [if_pos hT, tot_sum tl tn hg.c0 hg.n0 (by rw [show sumS tl tn = C from hg.tot]; exact hKC), show sumS tl tn = C from hg.tot] at h30
    rw [if_pos hT] at h31
    by_cases hk : k < l.length
    · have g1 : (k : Int) < (l.length : Int) := by omega
      have g2 : (0 : Int) ≤ (k : Int) := by omega
      have g7 := grows_get l hk
      have hpos : 0 ≤ (gow l k).b := hb _ (List.mem_of_getElem? (gow_some l hk))
      generalize gow l k = d at g7 hpos
      by_cases h60 : k = 60
      · have g3 : ((k : Int) == 60) = true := by rw [beq_iff_eq]; omega
        simp only [RB, pickV, eqbV, notV, negV, convV, faddrV, fldV, idxV, eqaggV, iaddrV, isnilV, nilckV, cloV, extrV, slenV, minV, sidxV, abin, cmpInt, params, growLists, fillCells, newAt, rdPtr, wrPtr, AV.cells, asVal, lenOf, boundOf, rowsOf, argIds, freshIn, scalar1, setAll, AV.isData, AV.isYld, Nat.reduceAdd, Nat.reduceMul, Nat.reduceSub, Nat.reduceEqDiff, Nat.reduceLeDiff, Nat.reduceLT, Int.reduceNeg, ↓reduceIte, reduceCtorEq, Int.reduceEq, Int.reduceLT, Int.reduceLE, Int.reduceBEq, Int.reduceBNe, Int.reduceToNat, IntKind.bits, Int.reduceAdd, Int.reduceSub, Int.reduceMul, Int.reduceTDiv, Int.reduceTMod, DB, DB2, DB3, R7B, take_add, List.append_assoc, List.length_append, Nat.add_assoc, shrink_lit, ball_app, RG, LPB, g1, g2, g3, g7, gv_len, gv_p, gv_o, h30, h31, CW_some, scalar, scalar1, lockAll, lockAt, reduceCtorEq, extrV, List.all_cons, List.all_nil]
        done
      · have g3 : ((k : Int) == 60) = false := by rw [beq_eq_false_iff_ne]; omega
        have g6 : IntKind.i64.wrap ((k : Int) + 1) = ((k + 1 : Nat) : Int) := by rw [IntWalk.i64_in _ (by omega)] <;> omega
        have t1 : d.kind.tmod 3 < 3 := Int.tmod_lt_of_pos _ (by decide)
        have t2 : -3 < d.kind.tmod 3 := Int.lt_tmod_of_pos _ (by decide)
        have hw : IntKind.i64.wrap (d.kind.tmod 3 + 3) = d.kind.tmod 3 + 3 := IntWalk.i64_in _ (by omega)
        obtain ⟨q, hq, hq3⟩ : ∃ q : Nat, (d.kind.tmod 3 + 3).tmod 3 = (q : Int) ∧ (q = 0 ∨ q = 1 ∨ q = 2) := by
          rw [Int.tmod_eq_emod_of_nonneg (by omega)]
          exact ⟨((d.kind.tmod 3 + 3) % 3).toNat, by omega, by omega⟩
        have hb1 : 0 ≤ d.b.tmod 1099511627776 := Int.tmod_nonneg _ hpos
        have hb2 : d.b.tmod 1099511627776 < 1099511627776 := Int.tmod_lt_of_pos _ (by decide)
        obtain ⟨b, hb0⟩ : ∃ b, d.b.tmod 1099511627776 = b := ⟨_, rfl⟩
        rw [hb0] at hb1 hb2
        obtain ⟨rx, hrx⟩ : ∃ rx, rrows x = rx := ⟨_, rfl⟩
        have p12 := e12 tl tn x d.adr b (by omega) hx4
        rw [passS_ok hT hx hm (by omega)] at p12
        have p28 := e_table_Set x d.p d.hop hx4
        have p29 := e_table_Drop x d.p hx4
        have p18 := fun (y : List Rw) (hy : y.length ≤ 1000000) => e18 tl tn x y (by omega) hx4 hy
        have hmv := fun (y : List Rw) (hy : TabOk y) => hg.move hx hy hm hKC
        unfold tupT at p28 p29
        rw [hrx] at p12 p28 p29
        simp only [hrx] at p18
        have hcell : cellX fl x = if fl then .ro rx else .lis 1 0 0 0 := by unfold cellX; rw [hrx]
        have hrf : fl = false → rx = [] := fun h => by rw [← hrx, hfl h]; rfl
        have hxr : x.length = rx.length := by rw [← hrx, rrows_len]
        rw [hcell]
        have keepI : AllI (k + 1, fl, x, (tl, tn), C) := ⟨by simp only; omega, hfl, hx, hm, hg, hC0, by simp only; omega, by simp only; omega⟩
        have ihk := ih ⟨_, keepI⟩ (by simp only; omega)
        simp only [hcell] at ihk
        rcases hq3 with rfl | rfl | rfl
        · by_cases hd : AddrOk d.adr
          · rw [if_pos hd] at p12
            unfold tupS at p12
            have hNK : NOk (addN C ⟨1, b⟩) := ⟨by simp only [addN]; omega, by simp only [addN]; omega⟩
            obtain ⟨m1, m2⟩ := hg.pass hm d.adr hb1 hNK
            have w1 : IntKind.u64.wrap (C.pk + 1) = C.pk + 1 := IntWalk.u64_in _ (by have := hC0.1; omega)
            have w2 : IntKind.u64.wrap (C.by' + b) = C.by' + b := IntWalk.u64_in _ (by have := hC0.2; omega)
            have ih1 := ih ⟨(k + 1, fl, x, give1 x d.adr b (tl, tn), addN C ⟨1, b⟩), ⟨by simp only; omega, hfl, hx, m2, m1, hC0.add ⟨show (0 : Int) ≤ 1 by decide, hb1⟩, by simp only [addN]; omega, by simp only [addN]; omega⟩⟩ (by simp only; omega)
            simp only [hcell, addN] at ih1
            cases fl
            · obtain rfl := hrf rfl
              simp only [RB, pickV, eqbV, notV, negV, convV, faddrV, fldV, idxV, eqaggV, iaddrV, isnilV, nilckV, cloV, extrV, slenV, minV, sidxV, abin, cmpInt, params, growLists, fillCells, newAt, rdPtr, wrPtr, AV.cells, asVal, lenOf, boundOf, rowsOf, argIds, freshIn, scalar1, setAll, AV.isData, AV.isYld, Nat.reduceAdd, Nat.reduceMul, Nat.reduceSub, Nat.reduceEqDiff, Nat.reduceLeDiff, Nat.reduceLT, Int.reduceNeg, ↓reduceIte, reduceCtorEq, Int.reduceEq, Int.reduceLT, Int.reduceLE, Int.reduceBEq, Int.reduceBNe, Int.reduceToNat, IntKind.bits, Int.reduceAdd, Int.reduceSub, Int.reduceMul, Int.reduceTDiv, Int.reduceTMod, DB, DB2, DB3, R7B, take_add, List.append_assoc, List.length_append, Nat.add_assoc, shrink_lit, ball_app, RG, LPB, g1, g2, g3, g6, g7, gv_len, gv_p, gv_o, gv_k, gv_a, gv_b, gv_f, gv_h, hw, hq, hb0, snap_tab, CW_some, scalar, scalar1, lockAll, lockAt, reduceCtorEq, extrV, List.all_cons, List.all_nil, pairOk, AV.ids, List.contains_cons, List.contains_nil, Nat.reduceBEq, List.all_cons, List.all_nil, Bool.or_self, Bool.not_false, Bool.and_self, Bool.or_false, mutIds, p12, w1, w2, Bool.false_eq_true, if_false]
              exact ih1
            · simp only [RB, pickV, eqbV, notV, negV, convV, faddrV, fldV, idxV, eqaggV, iaddrV, isnilV, nilckV, cloV, extrV, slenV, minV, sidxV, abin, cmpInt, params, growLists, fillCells, newAt, rdPtr, wrPtr, AV.cells, asVal, lenOf, boundOf, rowsOf, argIds, freshIn, scalar1, setAll, AV.isData, AV.isYld, Nat.reduceAdd, Nat.reduceMul, Nat.reduceSub, Nat.reduceEqDiff, Nat.reduceLeDiff, Nat.reduceLT, Int.reduceNeg, ↓reduceIte, reduceCtorEq, Int.reduceEq, Int.reduceLT, Int.reduceLE, Int.reduceBEq, Int.reduceBNe, Int.reduceToNat, IntKind.bits, Int.reduceAdd, Int.reduceSub, Int.reduceMul, Int.reduceTDiv, Int.reduceTMod, DB, DB2, DB3, R7B, take_add, List.append_assoc, List.length_append, Nat.add_assoc, shrink_lit, ball_app, RG, LPB, g1, g2, g3, g6, g7, gv_len, gv_p, gv_o, gv_k, gv_a, gv_b, gv_f, gv_h, hw, hq, hb0, snap_tab, CW_some, scalar, scalar1, lockAll, lockAt, reduceCtorEq, extrV, List.all_cons, List.all_nil, pairOk, AV.ids, List.contains_cons, List.contains_nil, Nat.reduceBEq, List.all_cons, List.all_nil, Bool.or_self, Bool.not_false, Bool.and_self, Bool.or_false, mutIds, p12, w1, w2, if_true]
              exact ih1
          · rw [if_neg hd] at p12
            unfold tupS at p12
            cases fl
            · obtain rfl := hrf rfl
              simp only [RB, pickV, eqbV, notV, negV, convV, faddrV, fldV, idxV, eqaggV, iaddrV, isnilV, nilckV, cloV, extrV, slenV, minV, sidxV, abin, cmpInt, params, growLists, fillCells, newAt, rdPtr, wrPtr, AV.cells, asVal, lenOf, boundOf, rowsOf, argIds, freshIn, scalar1, setAll, AV.isData, AV.isYld, Nat.reduceAdd, Nat.reduceMul, Nat.reduceSub, Nat.reduceEqDiff, Nat.reduceLeDiff, Nat.reduceLT, Int.reduceNeg, ↓reduceIte, reduceCtorEq, Int.reduceEq, Int.reduceLT, Int.reduceLE, Int.reduceBEq, Int.reduceBNe, Int.reduceToNat, IntKind.bits, Int.reduceAdd, Int.reduceSub, Int.reduceMul, Int.reduceTDiv, Int.reduceTMod, DB, DB2, DB3, R7B, take_add, List.append_assoc, List.length_append, Nat.add_assoc, shrink_lit, ball_app, RG, LPB, g1, g2, g3, g6, g7, gv_len, gv_p, gv_o, gv_k, gv_a, gv_b, gv_f, gv_h, hw, hq, hb0, snap_tab, CW_some, scalar, scalar1, lockAll, lockAt, reduceCtorEq, extrV, List.all_cons, List.all_nil, pairOk, AV.ids, List.contains_cons, List.contains_nil, Nat.reduceBEq, List.all_cons, List.all_nil, Bool.or_self, Bool.not_false, Bool.and_self, Bool.or_false, mutIds, p12, Bool.false_eq_true, if_false]
              exact ihk
            · simp only [RB, pickV, eqbV, notV, negV, convV, faddrV, fldV, idxV, eqaggV, iaddrV, isnilV, nilckV, cloV, extrV, slenV, minV, sidxV, abin, cmpInt, params, growLists, fillCells, newAt, rdPtr, wrPtr, AV.cells, asVal, lenOf, boundOf, rowsOf, argIds, freshIn, scalar1, setAll, AV.isData, AV.isYld, Nat.reduceAdd, Nat.reduceMul, Nat.reduceSub, Nat.reduceEqDiff, Nat.reduceLeDiff, Nat.reduceLT, Int.reduceNeg, ↓reduceIte, reduceCtorEq, Int.reduceEq, Int.reduceLT, Int.reduceLE, Int.reduceBEq, Int.reduceBNe, Int.reduceToNat, IntKind.bits, Int.reduceAdd, Int.reduceSub, Int.reduceMul, Int.reduceTDiv, Int.reduceTMod, DB, DB2, DB3, R7B, take_add, List.append_assoc, List.length_append, Nat.add_assoc, shrink_lit, ball_app, RG, LPB, g1, g2, g3, g6, g7, gv_len, gv_p, gv_o, gv_k, gv_a, gv_b, gv_f, gv_h, hw, hq, hb0, snap_tab, CW_some, scalar, scalar1, lockAll, lockAt, reduceCtorEq, extrV, List.all_cons, List.all_nil, pairOk, AV.ids, List.contains_cons, List.contains_nil, Nat.reduceBEq, List.all_cons, List.all_nil, Bool.or_self, Bool.not_false, Bool.and_self, Bool.or_false, mutIds, p12, if_true]
              exact ihk
        · by_cases hs0 : (setS x d.p d.hop).2 = 0
          · obtain ⟨_, _, _, q1, q2⟩ := set_tab hs0
            rw [hs0, q1] at p28
            obtain ⟨v1, v2, v3⟩ := hmv _ q2
            have p18 := p18 (putR x ⟨d.p, d.hop⟩) (by have := q2.len; omega)
            rw [v1] at p18
            unfold tupS at p18
            generalize putR x ⟨d.p, d.hop⟩ = n at *
            generalize List.foldl (moveF n) (zeroS n, tn) tl = t' at *
            have e1 : t'.1.length = n.length := by simpa using congrArg List.length v3
            have ih1 := ih ⟨(k + 1, true, n, t', C), ⟨by simp only; omega, (fun h => Bool.noConfusion h), q2, v3, v2, hC0, by simp only; omega, by simp only; omega⟩⟩ (by simp only; omega)
            simp only [cellX, if_true] at ih1
            cases fl
            · obtain rfl := hrf rfl
              simp only [RB, pickV, eqbV, notV, negV, convV, faddrV, fldV, idxV, eqaggV, iaddrV, isnilV, nilckV, cloV, extrV, slenV, minV, sidxV, abin, cmpInt, params, growLists, fillCells, newAt, rdPtr, wrPtr, AV.cells, asVal, lenOf, boundOf, rowsOf, argIds, freshIn, scalar1, setAll, AV.isData, AV.isYld, Nat.reduceAdd, Nat.reduceMul, Nat.reduceSub, Nat.reduceEqDiff, Nat.reduceLeDiff, Nat.reduceLT, Int.reduceNeg, ↓reduceIte, reduceCtorEq, Int.reduceEq, Int.reduceLT, Int.reduceLE, Int.reduceBEq, Int.reduceBNe, Int.reduceToNat, IntKind.bits, Int.reduceAdd, Int.reduceSub, Int.reduceMul, Int.reduceTDiv, Int.reduceTMod, DB, DB2, DB3, R7B, take_add, List.append_assoc, List.length_append, Nat.add_assoc, shrink_lit, ball_app, RG, LPB, g1, g2, g3, g6, g7, gv_len, gv_p, gv_o, gv_k, gv_a, gv_b, gv_f, gv_h, hw, hq, hb0, snap_tab, CW_some, scalar, scalar1, lockAll, lockAt, reduceCtorEq, extrV, List.all_cons, List.all_nil, pairOk, AV.ids, List.contains_cons, List.contains_nil, Nat.reduceBEq, List.all_cons, List.all_nil, Bool.or_self, Bool.not_false, Bool.and_self, Bool.or_false, mutIds, p28, p18, e1, rrows_len, drows_len, bne_self_eq_false, Bool.false_eq_true, if_false]
              exact ih1
            · simp only [RB, pickV, eqbV, notV, negV, convV, faddrV, fldV, idxV, eqaggV, iaddrV, isnilV, nilckV, cloV, extrV, slenV, minV, sidxV, abin, cmpInt, params, growLists, fillCells, newAt, rdPtr, wrPtr, AV.cells, asVal, lenOf, boundOf, rowsOf, argIds, freshIn, scalar1, setAll, AV.isData, AV.isYld, Nat.reduceAdd, Nat.reduceMul, Nat.reduceSub, Nat.reduceEqDiff, Nat.reduceLeDiff, Nat.reduceLT, Int.reduceNeg, ↓reduceIte, reduceCtorEq, Int.reduceEq, Int.reduceLT, Int.reduceLE, Int.reduceBEq, Int.reduceBNe, Int.reduceToNat, IntKind.bits, Int.reduceAdd, Int.reduceSub, Int.reduceMul, Int.reduceTDiv, Int.reduceTMod, DB, DB2, DB3, R7B, take_add, List.append_assoc, List.length_append, Nat.add_assoc, shrink_lit, ball_app, RG, LPB, g1, g2, g3, g6, g7, gv_len, gv_p, gv_o, gv_k, gv_a, gv_b, gv_f, gv_h, hw, hq, hb0, snap_tab, CW_some, scalar, scalar1, lockAll, lockAt, reduceCtorEq, extrV, List.all_cons, List.all_nil, pairOk, AV.ids, List.contains_cons, List.contains_nil, Nat.reduceBEq, List.all_cons, List.all_nil, Bool.or_self, Bool.not_false, Bool.and_self, Bool.or_false, mutIds, p28, p18, e1, rrows_len, drows_len, bne_self_eq_false, if_true]
              exact ih1
          · have e1 : ((setS x d.p d.hop).2 != 0) = true := by rw [bne_iff_ne]; exact hs0
            cases fl
            · obtain rfl := hrf rfl
              simp only [RB, pickV, eqbV, notV, negV, convV, faddrV, fldV, idxV, eqaggV, iaddrV, isnilV, nilckV, cloV, extrV, slenV, minV, sidxV, abin, cmpInt, params, growLists, fillCells, newAt, rdPtr, wrPtr, AV.cells, asVal, lenOf, boundOf, rowsOf, argIds, freshIn, scalar1, setAll, AV.isData, AV.isYld, Nat.reduceAdd, Nat.reduceMul, Nat.reduceSub, Nat.reduceEqDiff, Nat.reduceLeDiff, Nat.reduceLT, Int.reduceNeg, ↓reduceIte, reduceCtorEq, Int.reduceEq, Int.reduceLT, Int.reduceLE, Int.reduceBEq, Int.reduceBNe, Int.reduceToNat, IntKind.bits, Int.reduceAdd, Int.reduceSub, Int.reduceMul, Int.reduceTDiv, Int.reduceTMod, DB, DB2, DB3, R7B, take_add, List.append_assoc, List.length_append, Nat.add_assoc, shrink_lit, ball_app, RG, LPB, g1, g2, g3, g6, g7, gv_len, gv_p, gv_o, gv_k, gv_a, gv_b, gv_f, gv_h, hw, hq, hb0, snap_tab, CW_some, scalar, scalar1, lockAll, lockAt, reduceCtorEq, extrV, List.all_cons, List.all_nil, pairOk, AV.ids, List.contains_cons, List.contains_nil, Nat.reduceBEq, List.all_cons, List.all_nil, Bool.or_self, Bool.not_false, Bool.and_self, Bool.or_false, mutIds, p28, e1, Bool.false_eq_true, if_false]
              exact ihk
            · simp only [RB, pickV, eqbV, notV, negV, convV, faddrV, fldV, idxV, eqaggV, iaddrV, isnilV, nilckV, cloV, extrV, slenV, minV, sidxV, abin, cmpInt, params, growLists, fillCells, newAt, rdPtr, wrPtr, AV.cells, asVal, lenOf, boundOf, rowsOf, argIds, freshIn, scalar1, setAll, AV.isData, AV.isYld, Nat.reduceAdd, Nat.reduceMul, Nat.reduceSub, Nat.reduceEqDiff, Nat.reduceLeDiff, Nat.reduceLT, Int.reduceNeg, ↓reduceIte, reduceCtorEq, Int.reduceEq, Int.reduceLT, Int.reduceLE, Int.reduceBEq, Int.reduceBNe, Int.reduceToNat, IntKind.bits, Int.reduceAdd, Int.reduceSub, Int.reduceMul, Int.reduceTDiv, Int.reduceTMod, DB, DB2, DB3, R7B, take_add, List.append_assoc, List.length_append, Nat.add_assoc, shrink_lit, ball_app, RG, LPB, g1, g2, g3, g6, g7, gv_len, gv_p, gv_o, gv_k, gv_a, gv_b, gv_f, gv_h, hw, hq, hb0, snap_tab, CW_some, scalar, scalar1, lockAll, lockAt, reduceCtorEq, extrV, List.all_cons, List.all_nil, pairOk, AV.ids, List.contains_cons, List.contains_nil, Nat.reduceBEq, List.all_cons, List.all_nil, Bool.or_self, Bool.not_false, Bool.and_self, Bool.or_false, mutIds, p28, e1, if_true]
              exact ihk
        · by_cases hs0 : (dropT x d.p).2 = 0
          · obtain ⟨_, q1, q2⟩ := drop_tab hs0
            rw [hs0, q1] at p29
            obtain ⟨v1, v2, v3⟩ := hmv _ q2
            have p18 := p18 (D.ahead x d.p ++ past x d.p) (by have := q2.len; omega)
            rw [v1] at p18
            unfold tupS at p18
            generalize D.ahead x d.p ++ past x d.p = n at *
            generalize List.foldl (moveF n) (zeroS n, tn) tl = t' at *
            have e1 : t'.1.length = n.length := by simpa using congrArg List.length v3
            have ih1 := ih ⟨(k + 1, true, n, t', C), ⟨by simp only; omega, (fun h => Bool.noConfusion h), q2, v3, v2, hC0, by simp only; omega, by simp only; omega⟩⟩ (by simp only; omega)
            simp only [cellX, if_true] at ih1
            cases fl
            · obtain rfl := hrf rfl
              simp only [RB, pickV, eqbV, notV, negV, convV, faddrV, fldV, idxV, eqaggV, iaddrV, isnilV, nilckV, cloV, extrV, slenV, minV, sidxV, abin, cmpInt, params, growLists, fillCells, newAt, rdPtr, wrPtr, AV.cells, asVal, lenOf, boundOf, rowsOf, argIds, freshIn, scalar1, setAll, AV.isData, AV.isYld, Nat.reduceAdd, Nat.reduceMul, Nat.reduceSub, Nat.reduceEqDiff, Nat.reduceLeDiff, Nat.reduceLT, Int.reduceNeg, ↓reduceIte, reduceCtorEq, Int.reduceEq, Int.reduceLT, Int.reduceLE, Int.reduceBEq, Int.reduceBNe, Int.reduceToNat, IntKind.bits, Int.reduceAdd, Int.reduceSub, Int.reduceMul, Int.reduceTDiv, Int.reduceTMod, DB, DB2, DB3, R7B, take_add, List.append_assoc, List.length_append, Nat.add_assoc, shrink_lit, ball_app, RG, LPB, g1, g2, g3, g6, g7, gv_len, gv_p, gv_o, gv_k, gv_a, gv_b, gv_f, gv_h, hw, hq, hb0, snap_tab, CW_some, scalar, scalar1, lockAll, lockAt, reduceCtorEq, extrV, List.all_cons, List.all_nil, pairOk, AV.ids, List.contains_cons, List.contains_nil, Nat.reduceBEq, List.all_cons, List.all_nil, Bool.or_self, Bool.not_false, Bool.and_self, Bool.or_false, mutIds, p29, p18, e1, rrows_len, drows_len, bne_self_eq_false, Bool.false_eq_true, if_false]
              exact ih1
            · simp only [RB, pickV, eqbV, notV, negV, convV, faddrV, fldV, idxV, eqaggV, iaddrV, isnilV, nilckV, cloV, extrV, slenV, minV, sidxV, abin, cmpInt, params, growLists, fillCells, newAt, rdPtr, wrPtr, AV.cells, asVal, lenOf, boundOf, rowsOf, argIds, freshIn, scalar1, setAll, AV.isData, AV.isYld, Nat.reduceAdd, Nat.reduceMul, Nat.reduceSub, Nat.reduceEqDiff, Nat.reduceLeDiff, Nat.reduceLT, Int.reduceNeg, ↓reduceIte, reduceCtorEq, Int.reduceEq, Int.reduceLT, Int.reduceLE, Int.reduceBEq, Int.reduceBNe, Int.reduceToNat, IntKind.bits, Int.reduceAdd, Int.reduceSub, Int.reduceMul, Int.reduceTDiv, Int.reduceTMod, DB, DB2, DB3, R7B, take_add, List.append_assoc, List.length_append, Nat.add_assoc, shrink_lit, ball_app, RG, LPB, g1, g2, g3, g6, g7, gv_len, gv_p, gv_o, gv_k, gv_a, gv_b, gv_f, gv_h, hw, hq, hb0, snap_tab, CW_some, scalar, scalar1, lockAll, lockAt, reduceCtorEq, extrV, List.all_cons, List.all_nil, pairOk, AV.ids, List.contains_cons, List.contains_nil, Nat.reduceBEq, List.all_cons, List.all_nil, Bool.or_self, Bool.not_false, Bool.and_self, Bool.or_false, mutIds, p29, p18, e1, rrows_len, drows_len, bne_self_eq_false, if_true]
              exact ih1
          · have e1 : ((dropT x d.p).2 != 0) = true := by rw [bne_iff_ne]; exact hs0
            cases fl
            · obtain rfl := hrf rfl
              simp only [RB, pickV, eqbV, notV, negV, convV, faddrV, fldV, idxV, eqaggV, iaddrV, isnilV, nilckV, cloV, extrV, slenV, minV, sidxV, abin, cmpInt, params, growLists, fillCells, newAt, rdPtr, wrPtr, AV.cells, asVal, lenOf, boundOf, rowsOf, argIds, freshIn, scalar1, setAll, AV.isData, AV.isYld, Nat.reduceAdd, Nat.reduceMul, Nat.reduceSub, Nat.reduceEqDiff, Nat.reduceLeDiff, Nat.reduceLT, Int.reduceNeg, ↓reduceIte, reduceCtorEq, Int.reduceEq, Int.reduceLT, Int.reduceLE, Int.reduceBEq, Int.reduceBNe, Int.reduceToNat, IntKind.bits, Int.reduceAdd, Int.reduceSub, Int.reduceMul, Int.reduceTDiv, Int.reduceTMod, DB, DB2, DB3, R7B, take_add, List.append_assoc, List.length_append, Nat.add_assoc, shrink_lit, ball_app, RG, LPB, g1, g2, g3, g6, g7, gv_len, gv_p, gv_o, gv_k, gv_a, gv_b, gv_f, gv_h, hw, hq, hb0, snap_tab, CW_some, scalar, scalar1, lockAll, lockAt, reduceCtorEq, extrV, List.all_cons, List.all_nil, pairOk, AV.ids, List.contains_cons, List.contains_nil, Nat.reduceBEq, List.all_cons, List.all_nil, Bool.or_self, Bool.not_false, Bool.and_self, Bool.or_false, mutIds, p29, e1, Bool.false_eq_true, if_false]
              exact ihk
            · simp only [RB, pickV, eqbV, notV, negV, convV, faddrV, fldV, idxV, eqaggV, iaddrV, isnilV, nilckV, cloV, extrV, slenV, minV, sidxV, abin, cmpInt, params, growLists, fillCells, newAt, rdPtr, wrPtr, AV.cells, asVal, lenOf, boundOf, rowsOf, argIds, freshIn, scalar1, setAll, AV.isData, AV.isYld, Nat.reduceAdd, Nat.reduceMul, Nat.reduceSub, Nat.reduceEqDiff, Nat.reduceLeDiff, Nat.reduceLT, Int.reduceNeg, ↓reduceIte, reduceCtorEq, Int.reduceEq, Int.reduceLT, Int.reduceLE, Int.reduceBEq, Int.reduceBNe, Int.reduceToNat, IntKind.bits, Int.reduceAdd, Int.reduceSub, Int.reduceMul, Int.reduceTDiv, Int.reduceTMod, DB, DB2, DB3, R7B, take_add, List.append_assoc, List.length_append, Nat.add_assoc, shrink_lit, ball_app, RG, LPB, g1, g2, g3, g6, g7, gv_len, gv_p, gv_o, gv_k, gv_a, gv_b, gv_f, gv_h, hw, hq, hb0, snap_tab, CW_some, scalar, scalar1, lockAll, lockAt, reduceCtorEq, extrV, List.all_cons, List.all_nil, pairOk, AV.ids, List.contains_cons, List.contains_nil, Nat.reduceBEq, List.all_cons, List.all_nil, Bool.or_self, Bool.not_false, Bool.and_self, Bool.or_false, mutIds, p29, e1, if_true]
              exact ihk
    · simp only [RB, pickV, eqbV, notV, negV, convV, faddrV, fldV, idxV, eqaggV, iaddrV, isnilV, nilckV, cloV, extrV, slenV, minV, sidxV, abin, cmpInt, params, growLists, fillCells, newAt, rdPtr, wrPtr, AV.cells, asVal, lenOf, boundOf, rowsOf, argIds, freshIn, scalar1, setAll, AV.isData, AV.isYld, Nat.reduceAdd, Nat.reduceMul, Nat.reduceSub, Nat.reduceEqDiff, Nat.reduceLeDiff, Nat.reduceLT, Int.reduceNeg, ↓reduceIte, reduceCtorEq, Int.reduceEq, Int.reduceLT, Int.reduceLE, Int.reduceBEq, Int.reduceBNe, Int.reduceToNat, IntKind.bits, Int.reduceAdd, Int.reduceSub, Int.reduceMul, Int.reduceTDiv, Int.reduceTMod, DB, DB2, DB3, R7B, take_add, List.append_assoc, List.length_append, Nat.add_assoc, shrink_lit, ball_app, RG, LPB, show ¬ (k : Int) < (l.length : Int) by omega, h30, h31, CW_some, scalar, scalar1, lockAll, lockAt, reduceCtorEq, extrV, List.all_cons, List.all_nil]
      done
end Go.Proofs.YtdllnneeopbmdaaDoor.F

/- Rows of deeds that are read. No condition. -/
set_option linter.unusedSimpArgs false
set_option maxRecDepth 20000
namespace Go.Proofs.YtdllnneeopbmdaaDoor.D
open Go Go.RowKit Go.Proofs.YtdllnneeopbmdaaDoor.A Go.Proofs.YtdllnneeopbmdaaDoor.J
theorem fits_one {q : IntKind} {ks : List CK} {cs : List Value} (h : Fits (.i q :: ks) cs) : ∃ n cs', cs = .int q n :: cs' ∧ (Lit.int q n).wf = true ∧ Fits ks cs' := by
  match cs, h with
  | c :: cs', ⟨⟨n, hc, hn⟩, h2⟩ => exact ⟨n, cs', by rw [hc], hn, h2⟩
theorem fits_dd {cs : List Value} (h : Fits (.i .i64 :: .i .i64 :: (k8 ++ (.i .u64 :: .i .i64 :: (k8 ++ [.i .i64, .i .i64])))) cs) : ∃ d : Dd, cs.map avOf = gv d ∧ 0 ≤ d.b := by
  obtain ⟨n0, cs, rfl, _, h⟩ := fits_one h
  obtain ⟨n1, cs, rfl, _, h⟩ := fits_one h
  obtain ⟨a, rest, rfl, h3, h⟩ := fits_split k8 _ cs h
  obtain ⟨b16, hb⟩ := fits_b16 h3
  obtain ⟨m0, cs, rfl, hm, h⟩ := fits_one h
  obtain ⟨m1, cs, rfl, _, h⟩ := fits_one h
  obtain ⟨a2, cs, rfl, h6, h⟩ := fits_split k8 _ cs h
  obtain ⟨b16', hb'⟩ := fits_b16 h6
  obtain ⟨x, cs, rfl, _, h⟩ := fits_one h
  obtain ⟨y, cs, rfl, _, h⟩ := fits_one h
  obtain rfl : cs = [] := by
    have := h.length
    exact List.eq_nil_of_length_eq_zero this.symm
  have hm' : 0 ≤ m0 ∧ m0 ≤ 18446744073709551615 := by simp [Lit.wf] at hm; exact hm
  exact ⟨⟨n0, ⟨n1, b16⟩, m0, ⟨⟨m1, b16'⟩, x⟩, y⟩, by simp only [List.map_cons, List.map_append, hb, hb', avOf, gv, aav, pav, List.map_nil, List.cons_append, List.nil_append, List.append_assoc], hm'.1⟩
end Go.Proofs.YtdllnneeopbmdaaDoor.D
