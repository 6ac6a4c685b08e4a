/- Part 8 of the proofs of these statements. No condition. -/
import Derived.Test.YtdllnneeopbmdaaDoorM7
set_option linter.unusedVariables false
set_option linter.unusedSimpArgs false
/- Tallies and packets that are read. No condition. -/
set_option linter.unusedSimpArgs false
set_option maxRecDepth 20000
namespace Go.Proofs.YtdllnneeopbmdaaDoor.D
open Go Go.RowKit Go.Proofs.YtdllnneeopbmdaaDoor.A Go.Proofs.YtdllnneeopbmdaaDoor.J
variable {w : World} {P : Program} {t : TypeId} {v : Value}
theorem fits_cd {cs : List Value} (h : Fits (.i .i64 :: (k8 ++ [.i .i64, .i .u64, .i .u64])) cs) : ∃ r : Cd, cs.map avOf = dav r ∧ True := by
  match cs, h with
  | c :: cs, ⟨⟨n, hc, hn⟩, h2⟩ =>
    subst hc
    obtain ⟨a, b, rfl, h3, h4⟩ := fits_split k8 [.i .i64, .i .u64, .i .u64] cs h2
    clear h2
    obtain ⟨b16, hb⟩ := fits_b16 h3
    obtain ⟨d, e, f, rfl⟩ : ∃ d e f, b = [d, e, f] := by
      have h5 := h4.length
      match b, h5 with
      | [d, e, f], _ => exact ⟨d, e, f, rfl⟩
    obtain ⟨⟨m, hd, hm⟩, ⟨o, he, ho⟩, ⟨q, hf, hq⟩, _⟩ := h4
    subst hd; subst he; subst hf
    exact ⟨⟨⟨⟨n, b16⟩, m⟩, ⟨o, q⟩⟩, by simp only [List.map_cons, List.map_append, hb, avOf, dav, nav, List.map_nil], trivial⟩
theorem fits_pkt {cs : List Value} (h : Fits (.i .i64 :: (k8 ++ [.i .u64])) cs) : ∃ (a : Adr) (b : Int), cs.map avOf = kav a b := by
  match cs, h with
  | c :: cs, ⟨⟨n, hc, hn⟩, h2⟩ =>
    subst hc
    obtain ⟨a, b, rfl, h3, h4⟩ := fits_split k8 [.i .u64] cs h2
    clear h2
    obtain ⟨b16, hb⟩ := fits_b16 h3
    obtain ⟨d, rfl⟩ := List.length_eq_one_iff.1 h4.length.symm
    obtain ⟨⟨m, hd, hm⟩, _⟩ := h4
    subst hd
    exact ⟨⟨n, b16⟩, m, by simp only [List.map_cons, List.map_append, hb, avOf, kav, aav, List.map_nil, List.cons_append]⟩
theorem reads_pkt {fs : Array Field} {n : Nat} (h : Reads P w t v) (ht : P.underlying t = some (.struct fs)) (hf : flat P n t = some (.i .i64 :: (k8 ++ [.i .u64]))) : ∃ (a : Adr) (b : Int), Rep w (Old w) [] [] [] (.agg (kav a b)) v := by
  obtain ⟨cs, h1, h2⟩ := reads_flat h ht hf
  obtain ⟨a, b, h3⟩ := fits_pkt h1
  exact ⟨a, b, h3 ▸ h2⟩
theorem reads_tal {e ts tn : TypeId} {f g : Field} {n m : Nat} (h : Reads P w t v) (ht : P.underlying t = some (.struct #[f, g])) (hf0 : f.offset = 0) (hft : f.type = ts) (hg1 : g.offset = 1) (hgt : g.type = tn) (hc : P.cellsOf t = 3) (hcs : P.cellsOf ts = 1) (hcn : P.cellsOf tn = 2)
    (hts : P.underlying ts = some (.slice e)) (hk : 20 = P.cellsOf e) (hfe : flat P n e = some (.i .i64 :: (k8 ++ [.i .i64, .i .u64, .i .u64]))) (hfn : flat P m tn = some [.i .u64, .i .u64]) :
    ∃ (l : List Cd) (c : Cnt), l.length ≤ 9223372036854775807 ∧ Rep w (Old w) [] [] [] (.agg (.ro (drows l) :: nav c)) v := by
  obtain ⟨cs, rfl, hr⟩ := h.agg ht
  obtain ⟨h1, h2⟩ := hr.struct ht
  rw [hc] at h1
  obtain ⟨c, d1, d2, rfl⟩ : ∃ c d1 d2, cs = [c, d1, d2] := by
    match cs, h1 with
    | [c, d1, d2], _ => exact ⟨c, d1, d2, rfl⟩
  have h3 := h2 f (by simp)
  rw [hf0, hft, hcs] at h3
  have h4 := (h2 g (by simp))
  rw [hg1, hgt, hcn] at h4
  have h5 := h4.flat hfn
  simp only [List.drop_succ_cons, List.drop_zero, List.take_succ_cons, List.take_zero] at h5 h3
  obtain ⟨⟨x, hx, _⟩, ⟨y, hy, _⟩, _⟩ := h5
  subst hx; subst hy
  obtain ⟨a, cap, css, k4, k5, k6, k7, k8'⟩ := h3.slice hts hk (by decide)
  simp at k4
  subst k4
  obtain ⟨l, h9, h10, h11⟩ := rdc_slice (by decide) k5 k7 k8' hfe (fun cs h => fits_cd h)
  refine ⟨l, ⟨x, y⟩, by have := maxLen_le; omega, .agg _ _ (by simp [nav]) (by simp [Value.oneCell']) fun i z u hz hu => ?_⟩
  match i with
  | 0 => simp at hz hu; subst hz; subst hu; exact h11
  | 1 => simp [nav] at hz hu; subst hz; subst hu; exact .int _ _
  | 2 => simp [nav] at hz hu; subst hz; subst hu; exact .int _ _
  | i + 3 => simp [nav] at hz
end Go.Proofs.YtdllnneeopbmdaaDoor.D

/- Two tables that are read. No condition. -/
set_option linter.unusedSimpArgs false
set_option maxRecDepth 20000
namespace Go.Proofs.YtdllnneeopbmdaaDoor.D
open Go Go.RowKit Go.Proofs.YtdllnneeopbmdaaDoor.A Go.Proofs.YtdllnneeopbmdaaDoor.J
variable {w : World} {P : Program} {t : TypeId} {v : Value}
/-- A table within a struct: one cell. -/
theorem rdc_tab {tt ts e : TypeId} {f : Field} {n : Nat} {c : Value} (h : RdC P w tt [c]) (ht : P.underlying tt = some (.struct #[f])) (h0 : f.offset = 0) (hft : f.type = ts) (hcs : P.cellsOf ts = 1) (hts : P.underlying ts = some (.slice e)) (hk : 19 = P.cellsOf e) (hfe : flat P n e = some (.i .i64 :: (k8 ++ [.i .i64, .i .i64]))) :
    ∃ (l : List Rw) (u : Value), c = u ∧ u.oneCell' = true ∧ Rep w (Old w) [] [] [] (.ro (rrows l)) u := by
  have h1 := (h.struct ht).2 f (by simp)
  rw [h0, hft, hcs] at h1
  simp only [List.drop_zero, List.take_succ_cons, List.take_zero] at h1
  obtain ⟨a, cap, css, k4, k5, k6, k7, k8'⟩ := h1.slice hts hk (by decide)
  simp at k4
  subst k4
  obtain ⟨l, h9, h10, h11⟩ := rdc_slice (by decide) k5 k7 k8' hfe (fun cs h => fits_rw h)
  exact ⟨l, _, rfl, rfl, h11⟩
theorem reads_tabs {e ts tt : TypeId} {f g i : Field} {n : Nat} (h : Reads P w t v) (ht : P.underlying t = some (.struct #[f, g])) (hf0 : f.offset = 0) (hft : f.type = tt) (hg1 : g.offset = 1) (hgt : g.type = tt) (hc : P.cellsOf t = 2) (hct : P.cellsOf tt = 1)
    (htt : P.underlying tt = some (.struct #[i])) (hi0 : i.offset = 0) (hit : i.type = ts) (hcs : P.cellsOf ts = 1) (hts : P.underlying ts = some (.slice e)) (hk : 19 = P.cellsOf e) (hfe : flat P n e = some (.i .i64 :: (k8 ++ [.i .i64, .i .i64]))) :
    ∃ x y : List Rw, Rep w (Old w) [] [] [] (.agg [.ro (rrows x), .ro (rrows y)]) v := by
  obtain ⟨cs, rfl, hr⟩ := h.agg ht
  obtain ⟨h1, h2⟩ := hr.struct ht
  rw [hc] at h1
  obtain ⟨c, d, rfl⟩ : ∃ c d, cs = [c, d] := by
    match cs, h1 with
    | [c, d], _ => exact ⟨c, d, rfl⟩
  have h3 := h2 f (by simp)
  rw [hf0, hft, hct] at h3
  have h4 := (h2 g (by simp))
  rw [hg1, hgt, hct] at h4
  simp only [List.drop_succ_cons, List.drop_zero, List.take_succ_cons, List.take_zero] at h3 h4
  obtain ⟨x, u, rfl, o1, r1⟩ := rdc_tab h3 htt hi0 hit hcs hts hk hfe
  obtain ⟨y, u', rfl, o2, r2⟩ := rdc_tab h4 htt hi0 hit hcs hts hk hfe
  refine ⟨x, y, .agg _ _ rfl (by simp [o1, o2]) fun i z u hz hu => ?_⟩
  match i with
  | 0 => simp at hz hu; subst hz; subst hu; exact r1
  | 1 => simp at hz hu; subst hz; subst hu; exact r2
  | i + 2 => simp at hz
end Go.Proofs.YtdllnneeopbmdaaDoor.D

/- Two tallies, made one: what is done to counts. No condition. -/
set_option linter.unusedSimpArgs false
namespace Go.Proofs.YtdllnneeopbmdaaDoor.D
open Go Go.Proofs.YtdllnneeopbmdaaDoor.A
def lessN (c d : Cnt) : Cnt := ⟨IntKind.u64.wrap (c.pk - d.pk), IntKind.u64.wrap (c.by' - d.by')⟩
def Bel (c d : Cnt) : Prop := c.pk ≤ d.pk ∧ c.by' ≤ d.by'
instance {c d : Cnt} : Decidable (Bel c d) := by unfold Bel; infer_instance
theorem dof_iff {a b : List Cd} (h : a.length = b.length) : AllF (fun i => (dow a i).p = (dow b i).p) a.length 0 ↔ a.map Cd.p = b.map Cd.p := by
  constructor
  · intro H
    refine List.ext_getElem? fun i => ?_
    rw [List.getElem?_map, List.getElem?_map]
    by_cases hi : i < a.length
    · rw [dow_some a hi, dow_some b (by omega)]
      simp [H i (Nat.zero_le _) hi]
    · rw [List.getElem?_eq_none (by omega), List.getElem?_eq_none (by omega)]
  · intro H i _ hi
    have := congrArg (·[i]?) H
    simp only [List.getElem?_map, dow_some a hi, dow_some b (show i < b.length by omega)] at this
    simpa using this
/-- Rows of both, and what is carried along. -/
def bothR (mk : Cnt → Cnt → Cnt) (a b : List Cd) (k : Nat) : List Cd := (List.range k).map fun i => ⟨(dow a i).p, mk (dow a i).c (dow b i).c⟩
def bothF (st : Bool → Cnt → Cnt → Bool) (a b : List Cd) (s : Bool) (k : Nat) : Bool := (List.range k).foldl (fun s i => st s (dow a i).c (dow b i).c) s
theorem bothR_len (mk : Cnt → Cnt → Cnt) (a b : List Cd) (k : Nat) : (bothR mk a b k).length = k := by simp [bothR]
theorem bothR_succ (mk : Cnt → Cnt → Cnt) (a b : List Cd) (k : Nat) : bothR mk a b (k + 1) = bothR mk a b k ++ [⟨(dow a k).p, mk (dow a k).c (dow b k).c⟩] := by simp [bothR, List.range_succ]
theorem bothF_succ (st : Bool → Cnt → Cnt → Bool) (a b : List Cd) (s : Bool) (k : Nat) : bothF st a b s (k + 1) = st (bothF st a b s k) (dow a k).c (dow b k).c := by simp [bothF, List.range_succ]
end Go.Proofs.YtdllnneeopbmdaaDoor.D
namespace Go.Proofs.YtdllnneeopbmdaaDoor.F
open Go Go.Proofs.YtdllnneeopbmdaaDoor.A Go.Proofs.YtdllnneeopbmdaaDoor.D
theorem r84 {ys : List Hd} {pend : List (Option AExit)} (bs : List Blk) (r : Cd) (x : Cd) : ∃ e, LR E ys 84 [.agg (dav r), .agg (dav x)] ⟨bs, pend⟩ = some (.bool (decide (r.p = x.p)), ⟨bs ++ e, pend⟩) := by
  refine ⟨[.box 0 60 (dav r), .box 0 60 (dav x)], ?_⟩
  rw [LR_R (fn := f84) rfl rfl rfl]
  simp only [f84, RB, pickV, eqbV, notV, negV, convV, faddrV, fldV, idxV, eqaggV, iaddrV, isnilV, nilckV, cloV, extrV, slenV, minV, sidxV, abin, cmpInt, params, growLists, fillCells, newAt, rdPtr, wrPtr, AV.cells, asVal, lenOf, boundOf, rowsOf, argIds, freshIn, scalar1, setAll, AV.isData, AV.isYld, Nat.reduceAdd, Nat.reduceMul, Nat.reduceSub, Nat.reduceEqDiff, Nat.reduceLeDiff, Nat.reduceLT, Int.reduceNeg, ↓reduceIte, reduceCtorEq, Int.reduceEq, Int.reduceLT, Int.reduceLE, Int.reduceBEq, Int.reduceBNe, Int.reduceToNat, IntKind.bits, Int.reduceAdd, Int.reduceSub, Int.reduceMul, Int.reduceTDiv, Int.reduceTMod, DB, DB2, DB3, R7B]
theorem r83 {ys : List Hd} {bs : List Blk} {pend : List (Option AExit)} {a : List Cd} {b : List Cd} (ha : a.length ≤ 4611686018427387904) (hlow : belowAll bs.length bs = true) :
    ∃ e, LR E ys 83 [.ro (drows a), .ro (drows b), .clo 84 []] ⟨bs, pend⟩ = some (.bool (decide (a.map Cd.p = b.map Cd.p)), ⟨bs ++ e, pend⟩) := by
  rw [LR_R (fn := f83) rfl rfl rfl]
  simp only [f83, ← nav_zer, ← dav_zer, ← rav_zer, RB, pickV, eqbV, notV, negV, convV, faddrV, fldV, idxV, eqaggV, iaddrV, isnilV, nilckV, cloV, extrV, slenV, minV, sidxV, abin, cmpInt, params, growLists, fillCells, newAt, rdPtr, wrPtr, AV.cells, asVal, lenOf, boundOf, rowsOf, argIds, freshIn, scalar1, setAll, AV.isData, AV.isYld, Nat.reduceAdd, Nat.reduceMul, Nat.reduceSub, Nat.reduceEqDiff, Nat.reduceLeDiff, Nat.reduceLT, Int.reduceNeg, ↓reduceIte, reduceCtorEq, Int.reduceEq, Int.reduceLT, Int.reduceLE, Int.reduceBEq, Int.reduceBNe, Int.reduceToNat, IntKind.bits, Int.reduceAdd, Int.reduceSub, Int.reduceMul, Int.reduceTDiv, Int.reduceTMod, DB, DB2, DB3]
  by_cases hl : a.length = b.length
  · simp only [RB, pickV, eqbV, notV, negV, convV, faddrV, fldV, idxV, eqaggV, iaddrV, isnilV, nilckV, cloV, extrV, slenV, minV, sidxV, abin, cmpInt, params, growLists, fillCells, newAt, rdPtr, wrPtr, AV.cells, asVal, lenOf, boundOf, rowsOf, argIds, freshIn, scalar1, setAll, AV.isData, AV.isYld, Nat.reduceAdd, Nat.reduceMul, Nat.reduceSub, Nat.reduceEqDiff, Nat.reduceLeDiff, Nat.reduceLT, Int.reduceNeg, ↓reduceIte, reduceCtorEq, Int.reduceEq, Int.reduceLT, Int.reduceLE, Int.reduceBEq, Int.reduceBNe, Int.reduceToNat, IntKind.bits, Int.reduceAdd, Int.reduceSub, Int.reduceMul, Int.reduceTDiv, Int.reduceTMod, DB, DB2, DB3, hl, bne_self_eq_false]
    have hq : decide (a.map Cd.p = b.map Cd.p) = decide (AllF (fun i => (dow a i).p = (dow b i).p) a.length 0) := decide_eq_decide.2 (dof_iff hl).symm
    rw [hq]
    refine W_recP2 (ι := Nat) (M := fun k => [(1, .ro (drows b)), (2, .clo 84 []), (15, .ro (drows a)), (16, .int .i64 (b.length : Int)), (17, .int .i64 (k : Int))]) (H := fun _ => ⟨bs, pend⟩) (Q := fun k x => ∃ e, x = some ((AV.bool (decide (AllF (fun i => (dow a i).p = (dow b i).p) a.length k)), ⟨bs ++ e, pend⟩) : AV × Hp)) (μ := fun k => a.length - k) (fun i => ?_) (fun k ih => ?_) 0 rfl rfl
    · exact ⟨by simp only [List.map_cons, List.map_nil, LPB, Bool.and_self], hlow⟩
    · by_cases hk : k < a.length
      · have f1 : (k : Int) < (b.length : Int) := by omega
        have f2 : (0 : Int) ≤ (k : Int) := by omega
        have f6 : IntKind.i64.wrap ((k : Int) + 1) = ((k + 1 : Nat) : Int) := by rw [IntWalk.i64_in _ (by omega)] <;> omega
        have g1 := drows_get a hk
        have g2 := drows_get b (show k < b.length by omega)
        obtain ⟨ext, hpr⟩ := r84 (ys := ys) (pend := pend) (bs ++ [.box 0 60 (dav (dow a k)), .box 0 60 (dav (dow b k))]) (dow a k) (dow b k)
        have hsh : shrink false (bs.length + 2) (.bool (decide ((dow a k).p = (dow b k).p))) ⟨(bs ++ [.box 0 60 (dav (dow a k)), .box 0 60 (dav (dow b k))]) ++ ext, pend⟩ = some ⟨bs ++ [.box 0 60 (dav (dow a k)), .box 0 60 (dav (dow b k))], pend⟩ := shrink_app (by simp) rfl (by rw [ball_app, belowAll_mono (by omega) hlow]; simp [LPB, dav_below])
        simp only [List.append_assoc, List.cons_append, List.nil_append] at hpr hsh
        by_cases h : (dow a k).p = (dow b k).p
        · simp only [h, decide_true] at hpr hsh
          simp only [RB, pickV, eqbV, notV, negV, convV, faddrV, fldV, idxV, eqaggV, iaddrV, isnilV, nilckV, cloV, extrV, slenV, minV, sidxV, abin, cmpInt, params, growLists, fillCells, newAt, rdPtr, wrPtr, AV.cells, asVal, lenOf, boundOf, rowsOf, argIds, freshIn, scalar1, setAll, AV.isData, AV.isYld, Nat.reduceAdd, Nat.reduceMul, Nat.reduceSub, Nat.reduceEqDiff, Nat.reduceLeDiff, Nat.reduceLT, Int.reduceNeg, ↓reduceIte, reduceCtorEq, Int.reduceEq, Int.reduceLT, Int.reduceLE, Int.reduceBEq, Int.reduceBNe, Int.reduceToNat, IntKind.bits, Int.reduceAdd, Int.reduceSub, Int.reduceMul, Int.reduceTDiv, Int.reduceTMod, DB, DB2, DB3, R7B, take_add, List.append_assoc, List.length_append, Nat.add_assoc, shrink_lit, ball_app, RG, LPB, f1, f2, f6, g1, g2, hpr, hsh, take_at, List.take_left]
          simp only [AllF.next (Q := fun i => (dow a i).p = (dow b i).p) h]
          exact ih (k + 1) (by omega)
        · simp only [h, decide_false] at hpr hsh
          simp only [RB, pickV, eqbV, notV, negV, convV, faddrV, fldV, idxV, eqaggV, iaddrV, isnilV, nilckV, cloV, extrV, slenV, minV, sidxV, abin, cmpInt, params, growLists, fillCells, newAt, rdPtr, wrPtr, AV.cells, asVal, lenOf, boundOf, rowsOf, argIds, freshIn, scalar1, setAll, AV.isData, AV.isYld, Nat.reduceAdd, Nat.reduceMul, Nat.reduceSub, Nat.reduceEqDiff, Nat.reduceLeDiff, Nat.reduceLT, Int.reduceNeg, ↓reduceIte, reduceCtorEq, Int.reduceEq, Int.reduceLT, Int.reduceLE, Int.reduceBEq, Int.reduceBNe, Int.reduceToNat, IntKind.bits, Int.reduceAdd, Int.reduceSub, Int.reduceMul, Int.reduceTDiv, Int.reduceTMod, DB, DB2, DB3, R7B, take_add, List.append_assoc, List.length_append, Nat.add_assoc, shrink_lit, ball_app, RG, LPB, f1, f2, f6, g1, g2, hpr, hsh, List.take_left]
          rw [decide_eq_false (AllF.not hk h)]
          exact ⟨_, rfl⟩
      · simp only [RB, pickV, eqbV, notV, negV, convV, faddrV, fldV, idxV, eqaggV, iaddrV, isnilV, nilckV, cloV, extrV, slenV, minV, sidxV, abin, cmpInt, params, growLists, fillCells, newAt, rdPtr, wrPtr, AV.cells, asVal, lenOf, boundOf, rowsOf, argIds, freshIn, scalar1, setAll, AV.isData, AV.isYld, Nat.reduceAdd, Nat.reduceMul, Nat.reduceSub, Nat.reduceEqDiff, Nat.reduceLeDiff, Nat.reduceLT, Int.reduceNeg, ↓reduceIte, reduceCtorEq, Int.reduceEq, Int.reduceLT, Int.reduceLE, Int.reduceBEq, Int.reduceBNe, Int.reduceToNat, IntKind.bits, Int.reduceAdd, Int.reduceSub, Int.reduceMul, Int.reduceTDiv, Int.reduceTMod, DB, DB2, DB3, show ¬ (k : Int) < (b.length : Int) by omega, R7B]
        rw [decide_eq_true (AllF.done (by omega))]
        exact ⟨[], by rw [List.append_nil]⟩
  · simp only [RB, pickV, eqbV, notV, negV, convV, faddrV, fldV, idxV, eqaggV, iaddrV, isnilV, nilckV, cloV, extrV, slenV, minV, sidxV, abin, cmpInt, params, growLists, fillCells, newAt, rdPtr, wrPtr, AV.cells, asVal, lenOf, boundOf, rowsOf, argIds, freshIn, scalar1, setAll, AV.isData, AV.isYld, Nat.reduceAdd, Nat.reduceMul, Nat.reduceSub, Nat.reduceEqDiff, Nat.reduceLeDiff, Nat.reduceLT, Int.reduceNeg, ↓reduceIte, reduceCtorEq, Int.reduceEq, Int.reduceLT, Int.reduceLE, Int.reduceBEq, Int.reduceBNe, Int.reduceToNat, IntKind.bits, Int.reduceAdd, Int.reduceSub, Int.reduceMul, Int.reduceTDiv, Int.reduceTMod, DB, DB2, DB3, show ((a.length : Int) != (b.length : Int)) = true by rw [bne_iff_ne]; omega, R7B]
    rw [decide_eq_false fun h => hl (by simpa using congrArg List.length h)]
    exact ⟨[], by rw [List.append_nil]⟩
theorem e20 (c d : Cnt) : LV E 20 [.agg (nav c), .agg (nav d)] = some (.tup [.agg (nav (if NOk c ∧ NOk d then plusN c d else zerN)), .int .i64 (if NOk c ∧ NOk d then 0 else 2)]) := by
  rw [LV_R (fn := f20) rfl rfl rfl]
  simp only [f20, ← nav_zer, RB, pickV, eqbV, notV, negV, convV, faddrV, fldV, idxV, eqaggV, iaddrV, isnilV, nilckV, cloV, extrV, slenV, minV, sidxV, abin, cmpInt, params, growLists, fillCells, newAt, rdPtr, wrPtr, AV.cells, asVal, lenOf, boundOf, rowsOf, argIds, freshIn, scalar1, setAll, AV.isData, AV.isYld, Nat.reduceAdd, Nat.reduceMul, Nat.reduceSub, Nat.reduceEqDiff, Nat.reduceLeDiff, Nat.reduceLT, Int.reduceNeg, ↓reduceIte, reduceCtorEq, Int.reduceEq, Int.reduceLT, Int.reduceLE, Int.reduceBEq, Int.reduceBNe, Int.reduceToNat, IntKind.bits, Int.reduceAdd, Int.reduceSub, Int.reduceMul, Int.reduceTDiv, Int.reduceTMod, DB, DB2, DB3, e50]
  by_cases h1 : NOk c
  · by_cases h2 : NOk d
    · simp only [RB, pickV, eqbV, notV, negV, convV, faddrV, fldV, idxV, eqaggV, iaddrV, isnilV, nilckV, cloV, extrV, slenV, minV, sidxV, abin, cmpInt, params, growLists, fillCells, newAt, rdPtr, wrPtr, AV.cells, asVal, lenOf, boundOf, rowsOf, argIds, freshIn, scalar1, setAll, AV.isData, AV.isYld, Nat.reduceAdd, Nat.reduceMul, Nat.reduceSub, Nat.reduceEqDiff, Nat.reduceLeDiff, Nat.reduceLT, Int.reduceNeg, ↓reduceIte, reduceCtorEq, Int.reduceEq, Int.reduceLT, Int.reduceLE, Int.reduceBEq, Int.reduceBNe, Int.reduceToNat, IntKind.bits, Int.reduceAdd, Int.reduceSub, Int.reduceMul, Int.reduceTDiv, Int.reduceTMod, DB, DB2, DB3, e50, e51, h1, h2, expCell, List.nodup_cons, List.nodup_nil, List.not_mem_nil, not_false_eq_true, not_true_eq_false, and_true, and_false, if_false, List.mem_cons, mutIds]
    · simp only [RB, pickV, eqbV, notV, negV, convV, faddrV, fldV, idxV, eqaggV, iaddrV, isnilV, nilckV, cloV, extrV, slenV, minV, sidxV, abin, cmpInt, params, growLists, fillCells, newAt, rdPtr, wrPtr, AV.cells, asVal, lenOf, boundOf, rowsOf, argIds, freshIn, scalar1, setAll, AV.isData, AV.isYld, Nat.reduceAdd, Nat.reduceMul, Nat.reduceSub, Nat.reduceEqDiff, Nat.reduceLeDiff, Nat.reduceLT, Int.reduceNeg, ↓reduceIte, reduceCtorEq, Int.reduceEq, Int.reduceLT, Int.reduceLE, Int.reduceBEq, Int.reduceBNe, Int.reduceToNat, IntKind.bits, Int.reduceAdd, Int.reduceSub, Int.reduceMul, Int.reduceTDiv, Int.reduceTMod, DB, DB2, DB3, e50, e51, h1, h2, expCell, List.nodup_cons, List.nodup_nil, List.not_mem_nil, not_false_eq_true, not_true_eq_false, and_true, and_false, if_false, List.mem_cons, mutIds]
  · simp only [RB, pickV, eqbV, notV, negV, convV, faddrV, fldV, idxV, eqaggV, iaddrV, isnilV, nilckV, cloV, extrV, slenV, minV, sidxV, abin, cmpInt, params, growLists, fillCells, newAt, rdPtr, wrPtr, AV.cells, asVal, lenOf, boundOf, rowsOf, argIds, freshIn, scalar1, setAll, AV.isData, AV.isYld, Nat.reduceAdd, Nat.reduceMul, Nat.reduceSub, Nat.reduceEqDiff, Nat.reduceLeDiff, Nat.reduceLT, Int.reduceNeg, ↓reduceIte, reduceCtorEq, Int.reduceEq, Int.reduceLT, Int.reduceLE, Int.reduceBEq, Int.reduceBNe, Int.reduceToNat, IntKind.bits, Int.reduceAdd, Int.reduceSub, Int.reduceMul, Int.reduceTDiv, Int.reduceTMod, DB, DB2, DB3, e50, e51, h1, expCell, List.nodup_cons, List.nodup_nil, List.not_mem_nil, not_false_eq_true, not_true_eq_false, and_true, and_false, if_false, List.mem_cons, mutIds]
theorem e55 (c d : Cnt) : LV E 55 [.agg (nav c), .agg (nav d)] = some (.bool (decide (Bel c d))) := by
  rw [LV_R (fn := f55) rfl rfl rfl]
  simp only [f55, RB, pickV, eqbV, notV, negV, convV, faddrV, fldV, idxV, eqaggV, iaddrV, isnilV, nilckV, cloV, extrV, slenV, minV, sidxV, abin, cmpInt, params, growLists, fillCells, newAt, rdPtr, wrPtr, AV.cells, asVal, lenOf, boundOf, rowsOf, argIds, freshIn, scalar1, setAll, AV.isData, AV.isYld, Nat.reduceAdd, Nat.reduceMul, Nat.reduceSub, Nat.reduceEqDiff, Nat.reduceLeDiff, Nat.reduceLT, Int.reduceNeg, ↓reduceIte, reduceCtorEq, Int.reduceEq, Int.reduceLT, Int.reduceLE, Int.reduceBEq, Int.reduceBNe, Int.reduceToNat, IntKind.bits, Int.reduceAdd, Int.reduceSub, Int.reduceMul, Int.reduceTDiv, Int.reduceTMod, DB, DB2, DB3]
  by_cases h1 : c.pk ≤ d.pk
  · simp only [RB, pickV, eqbV, notV, negV, convV, faddrV, fldV, idxV, eqaggV, iaddrV, isnilV, nilckV, cloV, extrV, slenV, minV, sidxV, abin, cmpInt, params, growLists, fillCells, newAt, rdPtr, wrPtr, AV.cells, asVal, lenOf, boundOf, rowsOf, argIds, freshIn, scalar1, setAll, AV.isData, AV.isYld, Nat.reduceAdd, Nat.reduceMul, Nat.reduceSub, Nat.reduceEqDiff, Nat.reduceLeDiff, Nat.reduceLT, Int.reduceNeg, ↓reduceIte, reduceCtorEq, Int.reduceEq, Int.reduceLT, Int.reduceLE, Int.reduceBEq, Int.reduceBNe, Int.reduceToNat, IntKind.bits, Int.reduceAdd, Int.reduceSub, Int.reduceMul, Int.reduceTDiv, Int.reduceTMod, DB, DB2, DB3, h1]; simp [Bel, h1]
  · simp only [RB, pickV, eqbV, notV, negV, convV, faddrV, fldV, idxV, eqaggV, iaddrV, isnilV, nilckV, cloV, extrV, slenV, minV, sidxV, abin, cmpInt, params, growLists, fillCells, newAt, rdPtr, wrPtr, AV.cells, asVal, lenOf, boundOf, rowsOf, argIds, freshIn, scalar1, setAll, AV.isData, AV.isYld, Nat.reduceAdd, Nat.reduceMul, Nat.reduceSub, Nat.reduceEqDiff, Nat.reduceLeDiff, Nat.reduceLT, Int.reduceNeg, ↓reduceIte, reduceCtorEq, Int.reduceEq, Int.reduceLT, Int.reduceLE, Int.reduceBEq, Int.reduceBNe, Int.reduceToNat, IntKind.bits, Int.reduceAdd, Int.reduceSub, Int.reduceMul, Int.reduceTDiv, Int.reduceTMod, DB, DB2, DB3, h1]; simp [Bel, h1]
theorem r51 {ys : List Hd} {pend : List (Option AExit)} (bs : List Blk) (c d : Cnt) : ∃ e, LR E ys 51 [.agg (nav c), .agg (nav d)] ⟨bs, pend⟩ = some (.agg (nav (plusN c d)), ⟨bs ++ e, pend⟩) := by
  refine ⟨[.box 0 100 (nav c), .box 0 100 (nav d), .box 0 100 (nav (plusN c d))], ?_⟩
  rw [LR_R (fn := f51) rfl rfl rfl]
  simp only [f51, ← nav_zer, RB, pickV, eqbV, notV, negV, convV, faddrV, fldV, idxV, eqaggV, iaddrV, isnilV, nilckV, cloV, extrV, slenV, minV, sidxV, abin, cmpInt, params, growLists, fillCells, newAt, rdPtr, wrPtr, AV.cells, asVal, lenOf, boundOf, rowsOf, argIds, freshIn, scalar1, setAll, AV.isData, AV.isYld, Nat.reduceAdd, Nat.reduceMul, Nat.reduceSub, Nat.reduceEqDiff, Nat.reduceLeDiff, Nat.reduceLT, Int.reduceNeg, ↓reduceIte, reduceCtorEq, Int.reduceEq, Int.reduceLT, Int.reduceLE, Int.reduceBEq, Int.reduceBNe, Int.reduceToNat, IntKind.bits, Int.reduceAdd, Int.reduceSub, Int.reduceMul, Int.reduceTDiv, Int.reduceTMod, DB, DB2, DB3, R7B, take_add, List.append_assoc, List.length_append, Nat.add_assoc, shrink_lit, ball_app, RG, LPB, plusN, min_sum, expCell, List.nodup_cons, List.nodup_nil, List.not_mem_nil, not_false_eq_true, not_true_eq_false, and_true, and_false, if_false, List.mem_cons, mutIds]
theorem r56 {ys : List Hd} {pend : List (Option AExit)} (bs : List Blk) (c d : Cnt) : ∃ e, LR E ys 56 [.agg (nav c), .agg (nav d)] ⟨bs, pend⟩ = some (.agg (nav (lessN c d)), ⟨bs ++ e, pend⟩) := by
  refine ⟨[.box 0 100 (nav c), .box 0 100 (nav d), .box 0 100 (nav (lessN c d))], ?_⟩
  rw [LR_R (fn := f56) rfl rfl rfl]
  simp only [f56, ← nav_zer, RB, pickV, eqbV, notV, negV, convV, faddrV, fldV, idxV, eqaggV, iaddrV, isnilV, nilckV, cloV, extrV, slenV, minV, sidxV, abin, cmpInt, params, growLists, fillCells, newAt, rdPtr, wrPtr, AV.cells, asVal, lenOf, boundOf, rowsOf, argIds, freshIn, scalar1, setAll, AV.isData, AV.isYld, Nat.reduceAdd, Nat.reduceMul, Nat.reduceSub, Nat.reduceEqDiff, Nat.reduceLeDiff, Nat.reduceLT, Int.reduceNeg, ↓reduceIte, reduceCtorEq, Int.reduceEq, Int.reduceLT, Int.reduceLE, Int.reduceBEq, Int.reduceBNe, Int.reduceToNat, IntKind.bits, Int.reduceAdd, Int.reduceSub, Int.reduceMul, Int.reduceTDiv, Int.reduceTMod, DB, DB2, DB3, R7B, take_add, List.append_assoc, List.length_append, Nat.add_assoc, shrink_lit, ball_app, RG, LPB, lessN, expCell, List.nodup_cons, List.nodup_nil, List.not_mem_nil, not_false_eq_true, not_true_eq_false, and_true, and_false, if_false, List.mem_cons, mutIds]
theorem r54 {ys : List Hd} {pend : List (Option AExit)} (bs : List Blk) {a : Nat} {s : Bool} (ha : bs[a]? = some (.box 0 4 [.bool s])) (c d : Cnt) : ∃ e, LR E ys 54 [.agg (nav c), .agg (nav d), .ptr a 0 0 0] ⟨bs, pend⟩ = some (.agg (nav c), ⟨bs.set a (.box 0 4 [.bool (s && decide (Bel c d))]) ++ e, pend⟩) := by
  have hA : ∀ r, (bs ++ r)[a]? = some (.box 0 4 [.bool s]) := fun r => get_lt ha
  have ia := (List.getElem?_eq_some_iff.1 ha).1
  have sA : ∀ r x, (bs ++ r).set a x = bs.set a x ++ r := fun r x => by rw [List.set_append_left _ _ ia]
  refine ⟨[.box 0 100 (nav c), .box 0 100 (nav d), .box 0 100 (nav c)], ?_⟩
  rw [LR_R (fn := f54) rfl rfl rfl]
  have hsl : ∀ x : Blk, (bs.set a x).length = bs.length := fun x => List.length_set
  cases s with
  | true => simp only [f54, ← nav_zer, RB, pickV, eqbV, notV, negV, convV, faddrV, fldV, idxV, eqaggV, iaddrV, isnilV, nilckV, cloV, extrV, slenV, minV, sidxV, abin, cmpInt, params, growLists, fillCells, newAt, rdPtr, wrPtr, AV.cells, asVal, lenOf, boundOf, rowsOf, argIds, freshIn, scalar1, setAll, AV.isData, AV.isYld, Nat.reduceAdd, Nat.reduceMul, Nat.reduceSub, Nat.reduceEqDiff, Nat.reduceLeDiff, Nat.reduceLT, Int.reduceNeg, ↓reduceIte, reduceCtorEq, Int.reduceEq, Int.reduceLT, Int.reduceLE, Int.reduceBEq, Int.reduceBNe, Int.reduceToNat, IntKind.bits, Int.reduceAdd, Int.reduceSub, Int.reduceMul, Int.reduceTDiv, Int.reduceTMod, DB, DB2, DB3, R7B, take_add, List.append_assoc, List.length_append, Nat.add_assoc, shrink_lit, ball_app, RG, LPB, hA, sA, hsl, e55, get_at (hsl _), set_at (hsl _), get_add (hsl _), set_add (hsl _)]
  | false => simp only [f54, ← nav_zer, RB, pickV, eqbV, notV, negV, convV, faddrV, fldV, idxV, eqaggV, iaddrV, isnilV, nilckV, cloV, extrV, slenV, minV, sidxV, abin, cmpInt, params, growLists, fillCells, newAt, rdPtr, wrPtr, AV.cells, asVal, lenOf, boundOf, rowsOf, argIds, freshIn, scalar1, setAll, AV.isData, AV.isYld, Nat.reduceAdd, Nat.reduceMul, Nat.reduceSub, Nat.reduceEqDiff, Nat.reduceLeDiff, Nat.reduceLT, Int.reduceNeg, ↓reduceIte, reduceCtorEq, Int.reduceEq, Int.reduceLT, Int.reduceLE, Int.reduceBEq, Int.reduceBNe, Int.reduceToNat, IntKind.bits, Int.reduceAdd, Int.reduceSub, Int.reduceMul, Int.reduceTDiv, Int.reduceTMod, DB, DB2, DB3, R7B, take_add, List.append_assoc, List.length_append, Nat.add_assoc, shrink_lit, ball_app, RG, LPB, hA, sA, hsl, e55, get_at (hsl _), set_at (hsl _), get_add (hsl _), set_add (hsl _)]
end Go.Proofs.YtdllnneeopbmdaaDoor.F

/- Two tallies, made one: Join. No condition. -/
set_option linter.unusedSimpArgs false
namespace Go.Proofs.YtdllnneeopbmdaaDoor.F
open Go Go.Proofs.YtdllnneeopbmdaaDoor.A Go.Proofs.YtdllnneeopbmdaaDoor.D
theorem r53a (a b : List Cd) (x y : Cnt) (R : List Cd) (z : Cnt) (s : Bool) (ha : a.length ≤ 1000000) (hb : b.length ≤ 1000000) (mk : Cnt → Cnt → Cnt) (st : Bool → Cnt → Cnt → Bool) (hcb : ∀ s ext c d, ∃ e, LR E [] 51 (.agg (nav c) :: .agg (nav d) :: []) ⟨[.box 0 27 (.ro (drows a) :: nav x), .box 0 27 (.ro (drows b) :: nav y), .box 0 27 (.lis 3 0 0 0 :: nav zerN), .lst 0 0 60 20 []] ++ ext, []⟩ = some (.agg (nav (mk c d)), ⟨(fun s : Bool => ([.box 0 27 (.ro (drows a) :: nav x), .box 0 27 (.ro (drows b) :: nav y), .box 0 27 (.lis 3 0 0 0 :: nav zerN), .lst 0 0 60 20 []] : List Blk)) (st s c d) ++ ext ++ e, []⟩)) :
    LR E [] 53 [.agg (.ro (drows a) :: nav x), .agg (.ro (drows b) :: nav y), .clo 51 []] ⟨[.box 0 27 (.ro (drows a) :: nav x), .box 0 27 (.ro (drows b) :: nav y), .box 0 27 (.lis 3 0 0 0 :: nav zerN), .lst 0 0 60 20 []], []⟩ = some (if TalOk a x ∧ TalOk b y then if a.map Cd.p = b.map Cd.p then
        (.tup [.agg (.lis 8 a.length 0 a.length :: nav (mk x y)), .int .i64 0], ⟨(fun s : Bool => ([.box 0 27 (.ro (drows a) :: nav x), .box 0 27 (.ro (drows b) :: nav y), .box 0 27 (.lis 3 0 0 0 :: nav zerN), .lst 0 0 60 20 []] : List Blk)) (bothF st a b (st s x y) a.length) ++ [.box 0 27 (.ro (drows a) :: nav x), .box 0 27 (.ro (drows b) :: nav y), .box 0 27 (.lis 8 a.length 0 a.length :: nav (mk x y)), .lst 0 0 60 20 [], .lst 0 a.length 60 20 (drows (bothR mk a b a.length)), .box 0 27 (.lis 8 a.length 0 a.length :: nav (mk x y)), .lst 0 0 60 20 []], []⟩)
      else (.tup [.agg (.lis 8 0 0 0 :: nav zerN), .int .i64 411], ⟨[.box 0 27 (.ro (drows a) :: nav x), .box 0 27 (.ro (drows b) :: nav y), .box 0 27 (.lis 3 0 0 0 :: nav zerN), .lst 0 0 60 20 []] ++ [.box 0 27 (.ro (drows a) :: nav x), .box 0 27 (.ro (drows b) :: nav y), .box 0 27 (.lis 8 0 0 0 :: nav zerN), .lst 0 0 60 20 [], .lst 0 0 60 20 []], []⟩)
      else (.tup [.agg (.lis 8 0 0 0 :: nav zerN), .int .i64 410], ⟨[.box 0 27 (.ro (drows a) :: nav x), .box 0 27 (.ro (drows b) :: nav y), .box 0 27 (.lis 3 0 0 0 :: nav zerN), .lst 0 0 60 20 []] ++ [.box 0 27 (.ro (drows a) :: nav x), .box 0 27 (.ro (drows b) :: nav y), .box 0 27 (.lis 8 0 0 0 :: nav zerN), .lst 0 0 60 20 [], .lst 0 0 60 20 []], []⟩)) := by
  rw [LR_R (fn := f53) rfl rfl rfl]
  have h1 := e31 a x (by omega)
  have h2 := e31 b y (by omega)
  simp only [f53, ← nav_zer, ← dav_zer, RB, pickV, eqbV, notV, negV, convV, faddrV, fldV, idxV, eqaggV, iaddrV, isnilV, nilckV, cloV, extrV, slenV, minV, sidxV, abin, cmpInt, params, growLists, fillCells, newAt, rdPtr, wrPtr, AV.cells, asVal, lenOf, boundOf, rowsOf, argIds, freshIn, scalar1, setAll, AV.isData, AV.isYld, Nat.reduceAdd, Nat.reduceMul, Nat.reduceSub, Nat.reduceEqDiff, Nat.reduceLeDiff, Nat.reduceLT, Int.reduceNeg, ↓reduceIte, reduceCtorEq, Int.reduceEq, Int.reduceLT, Int.reduceLE, Int.reduceBEq, Int.reduceBNe, Int.reduceToNat, IntKind.bits, Int.reduceAdd, Int.reduceSub, Int.reduceMul, Int.reduceTDiv, Int.reduceTMod, DB, DB2, DB3, R7B, h1]
  by_cases k1 : TalOk a x
  · by_cases k2 : TalOk b y
    · obtain ⟨e83, h83⟩ := r83 (ys := []) (pend := []) (bs := [.box 0 27 (.ro (drows a) :: nav x), .box 0 27 (.ro (drows b) :: nav y), .box 0 27 (.lis 3 0 0 0 :: nav zerN), .lst 0 0 60 20 []] ++ [.box 0 27 (.ro (drows a) :: nav x), .box 0 27 (.ro (drows b) :: nav y), .box 0 27 (.lis 7 0 0 0 :: nav zerN), .lst 0 0 60 20 []]) (a := a) (b := b) (by omega) (by simp [LPB, nav_below, drows])
      simp only [List.cons_append, List.nil_append] at h83
      simp only [RB, pickV, eqbV, notV, negV, convV, faddrV, fldV, idxV, eqaggV, iaddrV, isnilV, nilckV, cloV, extrV, slenV, minV, sidxV, abin, cmpInt, params, growLists, fillCells, newAt, rdPtr, wrPtr, AV.cells, asVal, lenOf, boundOf, rowsOf, argIds, freshIn, scalar1, setAll, AV.isData, AV.isYld, Nat.reduceAdd, Nat.reduceMul, Nat.reduceSub, Nat.reduceEqDiff, Nat.reduceLeDiff, Nat.reduceLT, Int.reduceNeg, ↓reduceIte, reduceCtorEq, Int.reduceEq, Int.reduceLT, Int.reduceLE, Int.reduceBEq, Int.reduceBNe, Int.reduceToNat, IntKind.bits, Int.reduceAdd, Int.reduceSub, Int.reduceMul, Int.reduceTDiv, Int.reduceTMod, DB, DB2, DB3, R7B, take_add, List.append_assoc, List.length_append, Nat.add_assoc, shrink_lit, ball_app, RG, LPB, k1, k2, h1, h2, h83, bne_self_eq_false]
      by_cases k3 : a.map Cd.p = b.map Cd.p
      · have hl : a.length = b.length := by simpa using congrArg List.length k3
        obtain ⟨e1, hc1⟩ := hcb s [.box 0 27 (.ro (drows a) :: nav x), .box 0 27 (.ro (drows b) :: nav y), .box 0 27 (.lis 7 0 0 0 :: nav zerN), .lst 0 0 60 20 [], .dead, .dead, .dead] x y
        simp only [List.cons_append, List.nil_append] at hc1
        simp only [RB, pickV, eqbV, notV, negV, convV, faddrV, fldV, idxV, eqaggV, iaddrV, isnilV, nilckV, cloV, extrV, slenV, minV, sidxV, abin, cmpInt, params, growLists, fillCells, newAt, rdPtr, wrPtr, AV.cells, asVal, lenOf, boundOf, rowsOf, argIds, freshIn, scalar1, setAll, AV.isData, AV.isYld, Nat.reduceAdd, Nat.reduceMul, Nat.reduceSub, Nat.reduceEqDiff, Nat.reduceLeDiff, Nat.reduceLT, Int.reduceNeg, ↓reduceIte, reduceCtorEq, Int.reduceEq, Int.reduceLT, Int.reduceLE, Int.reduceBEq, Int.reduceBNe, Int.reduceToNat, IntKind.bits, Int.reduceAdd, Int.reduceSub, Int.reduceMul, Int.reduceTDiv, Int.reduceTMod, DB, DB2, DB3, R7B, take_add, List.append_assoc, List.length_append, Nat.add_assoc, shrink_lit, ball_app, RG, LPB, k3, hc1]
        refine (W_rec2 (ι := {k : Nat // k ≤ a.length}) (M := fun k => [(2, .clo 51 []), (4, .ptr 5 0 0 0), (6, .ptr 6 0 0 0), (8, .ptr 9 0 0 0), (37, .ro (drows a)), (38, .int .i64 (a.length : Int)), (39, .int .i64 (k.1 : Int))])
          (H := fun k => ⟨(fun s : Bool => ([.box 0 27 (.ro (drows a) :: nav x), .box 0 27 (.ro (drows b) :: nav y), .box 0 27 (.lis 3 0 0 0 :: nav zerN), .lst 0 0 60 20 []] : List Blk)) (bothF st a b (st s x y) k.1) ++ [.box 0 27 (.ro (drows a) :: nav x), .box 0 27 (.ro (drows b) :: nav y), .box 0 27 (.lis 7 0 0 0 :: nav zerN), .lst 0 0 60 20 [], .lst 0 k.1 60 20 (drows (bothR mk a b k.1)), .box 0 27 (.lis 8 k.1 0 k.1 :: nav (mk x y)), .lst 0 0 60 20 []], []⟩)
          (r := fun _ => some ((AV.tup [.agg (.lis 8 a.length 0 a.length :: nav (mk x y)), .int .i64 0], ⟨(fun s : Bool => ([.box 0 27 (.ro (drows a) :: nav x), .box 0 27 (.ro (drows b) :: nav y), .box 0 27 (.lis 3 0 0 0 :: nav zerN), .lst 0 0 60 20 []] : List Blk)) (bothF st a b (st s x y) a.length) ++ [.box 0 27 (.ro (drows a) :: nav x), .box 0 27 (.ro (drows b) :: nav y), .box 0 27 (.lis 8 a.length 0 a.length :: nav (mk x y)), .lst 0 0 60 20 [], .lst 0 a.length 60 20 (drows (bothR mk a b a.length)), .box 0 27 (.lis 8 a.length 0 a.length :: nav (mk x y)), .lst 0 0 60 20 []], []⟩) : AV × Hp)) (μ := fun k => a.length - k.1) (fun k => ?_) (fun k ih => ?_) ⟨0, Nat.zero_le _⟩ rfl ?_)
        · simp [LPB, nav_below]
        · obtain ⟨k, hka⟩ := k
          simp only at ih ⊢
          by_cases hk : k < a.length
          · have f1 : (k : Int) < (a.length : Int) := by omega
            have f2 : (0 : Int) ≤ (k : Int) := by omega
            have f6 : IntKind.i64.wrap ((k : Int) + 1) = ((k + 1 : Nat) : Int) := by rw [IntWalk.i64_in _ (by omega)] <;> omega
            have g1 := drows_get a hk
            have g2 := drows_get b (show k < b.length by omega)
            have ih := ih ⟨k + 1, hk⟩ (by simp only; omega)
            obtain ⟨e2, hc2⟩ := hcb (bothF st a b (st s x y) k) [.box 0 27 (.ro (drows a) :: nav x), .box 0 27 (.ro (drows b) :: nav y), .box 0 27 (.lis 7 0 0 0 :: nav zerN), .lst 0 0 60 20 [], .lst 0 k 60 20 (drows (bothR mk a b k)), .box 0 27 (.lis 8 k 0 k :: nav (mk x y)), .lst 0 0 60 20 [], .box 0 60 (dav (dow a k))] (dow a k).c (dow b k).c
            simp only [List.cons_append, List.nil_append] at hc2
            simp only [bothR_succ, bothF_succ, List.cons_append, List.nil_append] at ih ⊢
            have hZ := bothR_len mk a b k
            generalize bothR mk a b k = Z at *
            have f7 : (k + 1) * 48 ≤ 140737488355328 := by omega
            have f8 : k ≤ 4611686018427387903 := by omega
            have f12 : ∀ r, headFits 20 [dav r] = true := fun r => drows_fit [r]
            have f13 : Z.take k = Z := by rw [← hZ, List.take_length]
            simp only [RB, pickV, eqbV, notV, negV, convV, faddrV, fldV, idxV, eqaggV, iaddrV, isnilV, nilckV, cloV, extrV, slenV, minV, sidxV, abin, cmpInt, params, growLists, fillCells, newAt, rdPtr, wrPtr, AV.cells, asVal, lenOf, boundOf, rowsOf, argIds, freshIn, scalar1, setAll, AV.isData, AV.isYld, Nat.reduceAdd, Nat.reduceMul, Nat.reduceSub, Nat.reduceEqDiff, Nat.reduceLeDiff, Nat.reduceLT, Int.reduceNeg, ↓reduceIte, reduceCtorEq, Int.reduceEq, Int.reduceLT, Int.reduceLE, Int.reduceBEq, Int.reduceBNe, Int.reduceToNat, IntKind.bits, Int.reduceAdd, Int.reduceSub, Int.reduceMul, Int.reduceTDiv, Int.reduceTMod, DB, DB2, DB3, R7B, take_add, List.append_assoc, List.length_append, Nat.add_assoc, shrink_lit, ball_app, RG, LPB, f1, f2, f6, g1, g2, hc2, O_buildSlq, quietOk, aop_buildSl, fillRows, asData, aappend, hZ, f7, f8, f12, f13, Nat.le_refl]
            exact ih
          · have e : k = a.length := by omega
            subst e
            simp only [RB, pickV, eqbV, notV, negV, convV, faddrV, fldV, idxV, eqaggV, iaddrV, isnilV, nilckV, cloV, extrV, slenV, minV, sidxV, abin, cmpInt, params, growLists, fillCells, newAt, rdPtr, wrPtr, AV.cells, asVal, lenOf, boundOf, rowsOf, argIds, freshIn, scalar1, setAll, AV.isData, AV.isYld, Nat.reduceAdd, Nat.reduceMul, Nat.reduceSub, Nat.reduceEqDiff, Nat.reduceLeDiff, Nat.reduceLT, Int.reduceNeg, ↓reduceIte, reduceCtorEq, Int.reduceEq, Int.reduceLT, Int.reduceLE, Int.reduceBEq, Int.reduceBNe, Int.reduceToNat, IntKind.bits, Int.reduceAdd, Int.reduceSub, Int.reduceMul, Int.reduceTDiv, Int.reduceTMod, DB, DB2, DB3, R7B, take_add, List.append_assoc, List.length_append, Nat.add_assoc, shrink_lit, ball_app, RG, LPB, show ¬ (a.length : Int) < (a.length : Int) by omega]
        · simp [bothR, bothF, drows]
      · simp only [RB, pickV, eqbV, notV, negV, convV, faddrV, fldV, idxV, eqaggV, iaddrV, isnilV, nilckV, cloV, extrV, slenV, minV, sidxV, abin, cmpInt, params, growLists, fillCells, newAt, rdPtr, wrPtr, AV.cells, asVal, lenOf, boundOf, rowsOf, argIds, freshIn, scalar1, setAll, AV.isData, AV.isYld, Nat.reduceAdd, Nat.reduceMul, Nat.reduceSub, Nat.reduceEqDiff, Nat.reduceLeDiff, Nat.reduceLT, Int.reduceNeg, ↓reduceIte, reduceCtorEq, Int.reduceEq, Int.reduceLT, Int.reduceLE, Int.reduceBEq, Int.reduceBNe, Int.reduceToNat, IntKind.bits, Int.reduceAdd, Int.reduceSub, Int.reduceMul, Int.reduceTDiv, Int.reduceTMod, DB, DB2, DB3, R7B, take_add, List.append_assoc, List.length_append, Nat.add_assoc, shrink_lit, ball_app, RG, LPB, k3]
    · simp only [RB, pickV, eqbV, notV, negV, convV, faddrV, fldV, idxV, eqaggV, iaddrV, isnilV, nilckV, cloV, extrV, slenV, minV, sidxV, abin, cmpInt, params, growLists, fillCells, newAt, rdPtr, wrPtr, AV.cells, asVal, lenOf, boundOf, rowsOf, argIds, freshIn, scalar1, setAll, AV.isData, AV.isYld, Nat.reduceAdd, Nat.reduceMul, Nat.reduceSub, Nat.reduceEqDiff, Nat.reduceLeDiff, Nat.reduceLT, Int.reduceNeg, ↓reduceIte, reduceCtorEq, Int.reduceEq, Int.reduceLT, Int.reduceLE, Int.reduceBEq, Int.reduceBNe, Int.reduceToNat, IntKind.bits, Int.reduceAdd, Int.reduceSub, Int.reduceMul, Int.reduceTDiv, Int.reduceTMod, DB, DB2, DB3, R7B, take_add, List.append_assoc, List.length_append, Nat.add_assoc, shrink_lit, ball_app, RG, LPB, k1, k2, h1, h2, bne_self_eq_false]
  · simp only [RB, pickV, eqbV, notV, negV, convV, faddrV, fldV, idxV, eqaggV, iaddrV, isnilV, nilckV, cloV, extrV, slenV, minV, sidxV, abin, cmpInt, params, growLists, fillCells, newAt, rdPtr, wrPtr, AV.cells, asVal, lenOf, boundOf, rowsOf, argIds, freshIn, scalar1, setAll, AV.isData, AV.isYld, Nat.reduceAdd, Nat.reduceMul, Nat.reduceSub, Nat.reduceEqDiff, Nat.reduceLeDiff, Nat.reduceLT, Int.reduceNeg, ↓reduceIte, reduceCtorEq, Int.reduceEq, Int.reduceLT, Int.reduceLE, Int.reduceBEq, Int.reduceBNe, Int.reduceToNat, IntKind.bits, Int.reduceAdd, Int.reduceSub, Int.reduceMul, Int.reduceTDiv, Int.reduceTMod, DB, DB2, DB3, R7B, take_add, List.append_assoc, List.length_append, Nat.add_assoc, shrink_lit, ball_app, RG, LPB, k1]
end Go.Proofs.YtdllnneeopbmdaaDoor.F

/- Two tallies, made one: Since's two ways. No condition. -/
set_option linter.unusedSimpArgs false
namespace Go.Proofs.YtdllnneeopbmdaaDoor.F
open Go Go.Proofs.YtdllnneeopbmdaaDoor.A Go.Proofs.YtdllnneeopbmdaaDoor.D
theorem r53b (a b : List Cd) (x y : Cnt) (R : List Cd) (z : Cnt) (s : Bool) (ha : a.length ≤ 1000000) (hb : b.length ≤ 1000000) (mk : Cnt → Cnt → Cnt) (st : Bool → Cnt → Cnt → Bool) (hcb : ∀ s ext c d, ∃ e, LR E [] 54 (.agg (nav c) :: .agg (nav d) :: [.ptr 4 0 0 0]) ⟨[.box 0 27 (.ro (drows b) :: nav y), .box 0 27 (.ro (drows a) :: nav x), .box 0 27 (.lis 3 0 0 0 :: nav zerN), .lst 0 0 60 20 [], .box 0 4 [.bool s], .dead, .dead] ++ ext, []⟩ = some (.agg (nav (mk c d)), ⟨(fun s : Bool => ([.box 0 27 (.ro (drows b) :: nav y), .box 0 27 (.ro (drows a) :: nav x), .box 0 27 (.lis 3 0 0 0 :: nav zerN), .lst 0 0 60 20 [], .box 0 4 [.bool s], .dead, .dead] : List Blk)) (st s c d) ++ ext ++ e, []⟩)) :
    LR E [] 53 [.agg (.ro (drows a) :: nav x), .agg (.ro (drows b) :: nav y), .clo 54 [.ptr 4 0 0 0]] ⟨[.box 0 27 (.ro (drows b) :: nav y), .box 0 27 (.ro (drows a) :: nav x), .box 0 27 (.lis 3 0 0 0 :: nav zerN), .lst 0 0 60 20 [], .box 0 4 [.bool s], .dead, .dead], []⟩ = some (if TalOk a x ∧ TalOk b y then if a.map Cd.p = b.map Cd.p then
        (.tup [.agg (.lis 11 a.length 0 a.length :: nav (mk x y)), .int .i64 0], ⟨(fun s : Bool => ([.box 0 27 (.ro (drows b) :: nav y), .box 0 27 (.ro (drows a) :: nav x), .box 0 27 (.lis 3 0 0 0 :: nav zerN), .lst 0 0 60 20 [], .box 0 4 [.bool s], .dead, .dead] : List Blk)) (bothF st a b (st s x y) a.length) ++ [.box 0 27 (.ro (drows a) :: nav x), .box 0 27 (.ro (drows b) :: nav y), .box 0 27 (.lis 11 a.length 0 a.length :: nav (mk x y)), .lst 0 0 60 20 [], .lst 0 a.length 60 20 (drows (bothR mk a b a.length)), .box 0 27 (.lis 11 a.length 0 a.length :: nav (mk x y)), .lst 0 0 60 20 []], []⟩)
      else (.tup [.agg (.lis 11 0 0 0 :: nav zerN), .int .i64 411], ⟨[.box 0 27 (.ro (drows b) :: nav y), .box 0 27 (.ro (drows a) :: nav x), .box 0 27 (.lis 3 0 0 0 :: nav zerN), .lst 0 0 60 20 [], .box 0 4 [.bool s], .dead, .dead] ++ [.box 0 27 (.ro (drows a) :: nav x), .box 0 27 (.ro (drows b) :: nav y), .box 0 27 (.lis 11 0 0 0 :: nav zerN), .lst 0 0 60 20 [], .lst 0 0 60 20 []], []⟩)
      else (.tup [.agg (.lis 11 0 0 0 :: nav zerN), .int .i64 410], ⟨[.box 0 27 (.ro (drows b) :: nav y), .box 0 27 (.ro (drows a) :: nav x), .box 0 27 (.lis 3 0 0 0 :: nav zerN), .lst 0 0 60 20 [], .box 0 4 [.bool s], .dead, .dead] ++ [.box 0 27 (.ro (drows a) :: nav x), .box 0 27 (.ro (drows b) :: nav y), .box 0 27 (.lis 11 0 0 0 :: nav zerN), .lst 0 0 60 20 [], .lst 0 0 60 20 []], []⟩)) := by
  rw [LR_R (fn := f53) rfl rfl rfl]
  have h1 := e31 a x (by omega)
  have h2 := e31 b y (by omega)
  simp only [f53, ← nav_zer, ← dav_zer, RB, pickV, eqbV, notV, negV, convV, faddrV, fldV, idxV, eqaggV, iaddrV, isnilV, nilckV, cloV, extrV, slenV, minV, sidxV, abin, cmpInt, params, growLists, fillCells, newAt, rdPtr, wrPtr, AV.cells, asVal, lenOf, boundOf, rowsOf, argIds, freshIn, scalar1, setAll, AV.isData, AV.isYld, Nat.reduceAdd, Nat.reduceMul, Nat.reduceSub, Nat.reduceEqDiff, Nat.reduceLeDiff, Nat.reduceLT, Int.reduceNeg, ↓reduceIte, reduceCtorEq, Int.reduceEq, Int.reduceLT, Int.reduceLE, Int.reduceBEq, Int.reduceBNe, Int.reduceToNat, IntKind.bits, Int.reduceAdd, Int.reduceSub, Int.reduceMul, Int.reduceTDiv, Int.reduceTMod, DB, DB2, DB3, R7B, h1]
  by_cases k1 : TalOk a x
  · by_cases k2 : TalOk b y
    · obtain ⟨e83, h83⟩ := r83 (ys := []) (pend := []) (bs := [.box 0 27 (.ro (drows b) :: nav y), .box 0 27 (.ro (drows a) :: nav x), .box 0 27 (.lis 3 0 0 0 :: nav zerN), .lst 0 0 60 20 [], .box 0 4 [.bool s], .dead, .dead] ++ [.box 0 27 (.ro (drows a) :: nav x), .box 0 27 (.ro (drows b) :: nav y), .box 0 27 (.lis 10 0 0 0 :: nav zerN), .lst 0 0 60 20 []]) (a := a) (b := b) (by omega) (by simp [LPB, nav_below, drows])
      simp only [List.cons_append, List.nil_append] at h83
      simp only [RB, pickV, eqbV, notV, negV, convV, faddrV, fldV, idxV, eqaggV, iaddrV, isnilV, nilckV, cloV, extrV, slenV, minV, sidxV, abin, cmpInt, params, growLists, fillCells, newAt, rdPtr, wrPtr, AV.cells, asVal, lenOf, boundOf, rowsOf, argIds, freshIn, scalar1, setAll, AV.isData, AV.isYld, Nat.reduceAdd, Nat.reduceMul, Nat.reduceSub, Nat.reduceEqDiff, Nat.reduceLeDiff, Nat.reduceLT, Int.reduceNeg, ↓reduceIte, reduceCtorEq, Int.reduceEq, Int.reduceLT, Int.reduceLE, Int.reduceBEq, Int.reduceBNe, Int.reduceToNat, IntKind.bits, Int.reduceAdd, Int.reduceSub, Int.reduceMul, Int.reduceTDiv, Int.reduceTMod, DB, DB2, DB3, R7B, take_add, List.append_assoc, List.length_append, Nat.add_assoc, shrink_lit, ball_app, RG, LPB, k1, k2, h1, h2, h83, bne_self_eq_false]
      by_cases k3 : a.map Cd.p = b.map Cd.p
      · have hl : a.length = b.length := by simpa using congrArg List.length k3
        obtain ⟨e1, hc1⟩ := hcb s [.box 0 27 (.ro (drows a) :: nav x), .box 0 27 (.ro (drows b) :: nav y), .box 0 27 (.lis 10 0 0 0 :: nav zerN), .lst 0 0 60 20 [], .dead, .dead, .dead] x y
        simp only [List.cons_append, List.nil_append] at hc1
        simp only [RB, pickV, eqbV, notV, negV, convV, faddrV, fldV, idxV, eqaggV, iaddrV, isnilV, nilckV, cloV, extrV, slenV, minV, sidxV, abin, cmpInt, params, growLists, fillCells, newAt, rdPtr, wrPtr, AV.cells, asVal, lenOf, boundOf, rowsOf, argIds, freshIn, scalar1, setAll, AV.isData, AV.isYld, Nat.reduceAdd, Nat.reduceMul, Nat.reduceSub, Nat.reduceEqDiff, Nat.reduceLeDiff, Nat.reduceLT, Int.reduceNeg, ↓reduceIte, reduceCtorEq, Int.reduceEq, Int.reduceLT, Int.reduceLE, Int.reduceBEq, Int.reduceBNe, Int.reduceToNat, IntKind.bits, Int.reduceAdd, Int.reduceSub, Int.reduceMul, Int.reduceTDiv, Int.reduceTMod, DB, DB2, DB3, R7B, take_add, List.append_assoc, List.length_append, Nat.add_assoc, shrink_lit, ball_app, RG, LPB, k3, hc1]
        refine (W_rec2 (ι := {k : Nat // k ≤ a.length}) (M := fun k => [(2, .clo 54 [.ptr 4 0 0 0]), (4, .ptr 8 0 0 0), (6, .ptr 9 0 0 0), (8, .ptr 12 0 0 0), (37, .ro (drows a)), (38, .int .i64 (a.length : Int)), (39, .int .i64 (k.1 : Int))])
          (H := fun k => ⟨(fun s : Bool => ([.box 0 27 (.ro (drows b) :: nav y), .box 0 27 (.ro (drows a) :: nav x), .box 0 27 (.lis 3 0 0 0 :: nav zerN), .lst 0 0 60 20 [], .box 0 4 [.bool s], .dead, .dead] : List Blk)) (bothF st a b (st s x y) k.1) ++ [.box 0 27 (.ro (drows a) :: nav x), .box 0 27 (.ro (drows b) :: nav y), .box 0 27 (.lis 10 0 0 0 :: nav zerN), .lst 0 0 60 20 [], .lst 0 k.1 60 20 (drows (bothR mk a b k.1)), .box 0 27 (.lis 11 k.1 0 k.1 :: nav (mk x y)), .lst 0 0 60 20 []], []⟩)
          (r := fun _ => some ((AV.tup [.agg (.lis 11 a.length 0 a.length :: nav (mk x y)), .int .i64 0], ⟨(fun s : Bool => ([.box 0 27 (.ro (drows b) :: nav y), .box 0 27 (.ro (drows a) :: nav x), .box 0 27 (.lis 3 0 0 0 :: nav zerN), .lst 0 0 60 20 [], .box 0 4 [.bool s], .dead, .dead] : List Blk)) (bothF st a b (st s x y) a.length) ++ [.box 0 27 (.ro (drows a) :: nav x), .box 0 27 (.ro (drows b) :: nav y), .box 0 27 (.lis 11 a.length 0 a.length :: nav (mk x y)), .lst 0 0 60 20 [], .lst 0 a.length 60 20 (drows (bothR mk a b a.length)), .box 0 27 (.lis 11 a.length 0 a.length :: nav (mk x y)), .lst 0 0 60 20 []], []⟩) : AV × Hp)) (μ := fun k => a.length - k.1) (fun k => ?_) (fun k ih => ?_) ⟨0, Nat.zero_le _⟩ rfl ?_)
        · simp [LPB, nav_below]
        · obtain ⟨k, hka⟩ := k
          simp only at ih ⊢
          by_cases hk : k < a.length
          · have f1 : (k : Int) < (a.length : Int) := by omega
            have f2 : (0 : Int) ≤ (k : Int) := by omega
            have f6 : IntKind.i64.wrap ((k : Int) + 1) = ((k + 1 : Nat) : Int) := by rw [IntWalk.i64_in _ (by omega)] <;> omega
            have g1 := drows_get a hk
            have g2 := drows_get b (show k < b.length by omega)
            have ih := ih ⟨k + 1, hk⟩ (by simp only; omega)
            obtain ⟨e2, hc2⟩ := hcb (bothF st a b (st s x y) k) [.box 0 27 (.ro (drows a) :: nav x), .box 0 27 (.ro (drows b) :: nav y), .box 0 27 (.lis 10 0 0 0 :: nav zerN), .lst 0 0 60 20 [], .lst 0 k 60 20 (drows (bothR mk a b k)), .box 0 27 (.lis 11 k 0 k :: nav (mk x y)), .lst 0 0 60 20 [], .box 0 60 (dav (dow a k))] (dow a k).c (dow b k).c
            simp only [List.cons_append, List.nil_append] at hc2
            simp only [bothR_succ, bothF_succ, List.cons_append, List.nil_append] at ih ⊢
            have hZ := bothR_len mk a b k
            generalize bothR mk a b k = Z at *
            have f7 : (k + 1) * 48 ≤ 140737488355328 := by omega
            have f8 : k ≤ 4611686018427387903 := by omega
            have f12 : ∀ r, headFits 20 [dav r] = true := fun r => drows_fit [r]
            have f13 : Z.take k = Z := by rw [← hZ, List.take_length]
            simp only [RB, pickV, eqbV, notV, negV, convV, faddrV, fldV, idxV, eqaggV, iaddrV, isnilV, nilckV, cloV, extrV, slenV, minV, sidxV, abin, cmpInt, params, growLists, fillCells, newAt, rdPtr, wrPtr, AV.cells, asVal, lenOf, boundOf, rowsOf, argIds, freshIn, scalar1, setAll, AV.isData, AV.isYld, Nat.reduceAdd, Nat.reduceMul, Nat.reduceSub, Nat.reduceEqDiff, Nat.reduceLeDiff, Nat.reduceLT, Int.reduceNeg, ↓reduceIte, reduceCtorEq, Int.reduceEq, Int.reduceLT, Int.reduceLE, Int.reduceBEq, Int.reduceBNe, Int.reduceToNat, IntKind.bits, Int.reduceAdd, Int.reduceSub, Int.reduceMul, Int.reduceTDiv, Int.reduceTMod, DB, DB2, DB3, R7B, take_add, List.append_assoc, List.length_append, Nat.add_assoc, shrink_lit, ball_app, RG, LPB, f1, f2, f6, g1, g2, hc2, O_buildSlq, quietOk, aop_buildSl, fillRows, asData, aappend, hZ, f7, f8, f12, f13, Nat.le_refl]
            exact ih
          · have e : k = a.length := by omega
            subst e
            simp only [RB, pickV, eqbV, notV, negV, convV, faddrV, fldV, idxV, eqaggV, iaddrV, isnilV, nilckV, cloV, extrV, slenV, minV, sidxV, abin, cmpInt, params, growLists, fillCells, newAt, rdPtr, wrPtr, AV.cells, asVal, lenOf, boundOf, rowsOf, argIds, freshIn, scalar1, setAll, AV.isData, AV.isYld, Nat.reduceAdd, Nat.reduceMul, Nat.reduceSub, Nat.reduceEqDiff, Nat.reduceLeDiff, Nat.reduceLT, Int.reduceNeg, ↓reduceIte, reduceCtorEq, Int.reduceEq, Int.reduceLT, Int.reduceLE, Int.reduceBEq, Int.reduceBNe, Int.reduceToNat, IntKind.bits, Int.reduceAdd, Int.reduceSub, Int.reduceMul, Int.reduceTDiv, Int.reduceTMod, DB, DB2, DB3, R7B, take_add, List.append_assoc, List.length_append, Nat.add_assoc, shrink_lit, ball_app, RG, LPB, show ¬ (a.length : Int) < (a.length : Int) by omega]
        · simp [bothR, bothF, drows]
      · simp only [RB, pickV, eqbV, notV, negV, convV, faddrV, fldV, idxV, eqaggV, iaddrV, isnilV, nilckV, cloV, extrV, slenV, minV, sidxV, abin, cmpInt, params, growLists, fillCells, newAt, rdPtr, wrPtr, AV.cells, asVal, lenOf, boundOf, rowsOf, argIds, freshIn, scalar1, setAll, AV.isData, AV.isYld, Nat.reduceAdd, Nat.reduceMul, Nat.reduceSub, Nat.reduceEqDiff, Nat.reduceLeDiff, Nat.reduceLT, Int.reduceNeg, ↓reduceIte, reduceCtorEq, Int.reduceEq, Int.reduceLT, Int.reduceLE, Int.reduceBEq, Int.reduceBNe, Int.reduceToNat, IntKind.bits, Int.reduceAdd, Int.reduceSub, Int.reduceMul, Int.reduceTDiv, Int.reduceTMod, DB, DB2, DB3, R7B, take_add, List.append_assoc, List.length_append, Nat.add_assoc, shrink_lit, ball_app, RG, LPB, k3]
    · simp only [RB, pickV, eqbV, notV, negV, convV, faddrV, fldV, idxV, eqaggV, iaddrV, isnilV, nilckV, cloV, extrV, slenV, minV, sidxV, abin, cmpInt, params, growLists, fillCells, newAt, rdPtr, wrPtr, AV.cells, asVal, lenOf, boundOf, rowsOf, argIds, freshIn, scalar1, setAll, AV.isData, AV.isYld, Nat.reduceAdd, Nat.reduceMul, Nat.reduceSub, Nat.reduceEqDiff, Nat.reduceLeDiff, Nat.reduceLT, Int.reduceNeg, ↓reduceIte, reduceCtorEq, Int.reduceEq, Int.reduceLT, Int.reduceLE, Int.reduceBEq, Int.reduceBNe, Int.reduceToNat, IntKind.bits, Int.reduceAdd, Int.reduceSub, Int.reduceMul, Int.reduceTDiv, Int.reduceTMod, DB, DB2, DB3, R7B, take_add, List.append_assoc, List.length_append, Nat.add_assoc, shrink_lit, ball_app, RG, LPB, k1, k2, h1, h2, bne_self_eq_false]
  · simp only [RB, pickV, eqbV, notV, negV, convV, faddrV, fldV, idxV, eqaggV, iaddrV, isnilV, nilckV, cloV, extrV, slenV, minV, sidxV, abin, cmpInt, params, growLists, fillCells, newAt, rdPtr, wrPtr, AV.cells, asVal, lenOf, boundOf, rowsOf, argIds, freshIn, scalar1, setAll, AV.isData, AV.isYld, Nat.reduceAdd, Nat.reduceMul, Nat.reduceSub, Nat.reduceEqDiff, Nat.reduceLeDiff, Nat.reduceLT, Int.reduceNeg, ↓reduceIte, reduceCtorEq, Int.reduceEq, Int.reduceLT, Int.reduceLE, Int.reduceBEq, Int.reduceBNe, Int.reduceToNat, IntKind.bits, Int.reduceAdd, Int.reduceSub, Int.reduceMul, Int.reduceTDiv, Int.reduceTMod, DB, DB2, DB3, R7B, take_add, List.append_assoc, List.length_append, Nat.add_assoc, shrink_lit, ball_app, RG, LPB, k1]
theorem r53c (a b : List Cd) (x y : Cnt) (R : List Cd) (z : Cnt) (s : Bool) (ha : a.length ≤ 1000000) (hb : b.length ≤ 1000000) (mk : Cnt → Cnt → Cnt) (st : Bool → Cnt → Cnt → Bool) (hcb : ∀ s ext c d, ∃ e, LR E [] 56 (.agg (nav c) :: .agg (nav d) :: []) ⟨[.box 0 27 (.ro (drows a) :: nav x), .box 0 27 (.ro (drows b) :: nav y), .box 0 27 (.lis 3 0 0 0 :: nav zerN), .lst 0 0 60 20 [], .box 0 4 [.bool s], .box 0 27 (.lis 11 R.length 0 R.length :: nav z), .lst 0 0 60 20 [], .box 0 27 (.ro (drows b) :: nav y), .box 0 27 (.ro (drows a) :: nav x), .box 0 27 (.lis 11 R.length 0 R.length :: nav z), .lst 0 0 60 20 [], .lst 0 R.length 60 20 (drows R), .box 0 27 (.lis 11 R.length 0 R.length :: nav z), .lst 0 0 60 20 []] ++ ext, []⟩ = some (.agg (nav (mk c d)), ⟨(fun s : Bool => ([.box 0 27 (.ro (drows a) :: nav x), .box 0 27 (.ro (drows b) :: nav y), .box 0 27 (.lis 3 0 0 0 :: nav zerN), .lst 0 0 60 20 [], .box 0 4 [.bool s], .box 0 27 (.lis 11 R.length 0 R.length :: nav z), .lst 0 0 60 20 [], .box 0 27 (.ro (drows b) :: nav y), .box 0 27 (.ro (drows a) :: nav x), .box 0 27 (.lis 11 R.length 0 R.length :: nav z), .lst 0 0 60 20 [], .lst 0 R.length 60 20 (drows R), .box 0 27 (.lis 11 R.length 0 R.length :: nav z), .lst 0 0 60 20 []] : List Blk)) (st s c d) ++ ext ++ e, []⟩)) :
    LR E [] 53 [.agg (.ro (drows a) :: nav x), .agg (.ro (drows b) :: nav y), .clo 56 []] ⟨[.box 0 27 (.ro (drows a) :: nav x), .box 0 27 (.ro (drows b) :: nav y), .box 0 27 (.lis 3 0 0 0 :: nav zerN), .lst 0 0 60 20 [], .box 0 4 [.bool s], .box 0 27 (.lis 11 R.length 0 R.length :: nav z), .lst 0 0 60 20 [], .box 0 27 (.ro (drows b) :: nav y), .box 0 27 (.ro (drows a) :: nav x), .box 0 27 (.lis 11 R.length 0 R.length :: nav z), .lst 0 0 60 20 [], .lst 0 R.length 60 20 (drows R), .box 0 27 (.lis 11 R.length 0 R.length :: nav z), .lst 0 0 60 20 []], []⟩ = some (if TalOk a x ∧ TalOk b y then if a.map Cd.p = b.map Cd.p then
        (.tup [.agg (.lis 18 a.length 0 a.length :: nav (mk x y)), .int .i64 0], ⟨(fun s : Bool => ([.box 0 27 (.ro (drows a) :: nav x), .box 0 27 (.ro (drows b) :: nav y), .box 0 27 (.lis 3 0 0 0 :: nav zerN), .lst 0 0 60 20 [], .box 0 4 [.bool s], .box 0 27 (.lis 11 R.length 0 R.length :: nav z), .lst 0 0 60 20 [], .box 0 27 (.ro (drows b) :: nav y), .box 0 27 (.ro (drows a) :: nav x), .box 0 27 (.lis 11 R.length 0 R.length :: nav z), .lst 0 0 60 20 [], .lst 0 R.length 60 20 (drows R), .box 0 27 (.lis 11 R.length 0 R.length :: nav z), .lst 0 0 60 20 []] : List Blk)) (bothF st a b (st s x y) a.length) ++ [.box 0 27 (.ro (drows a) :: nav x), .box 0 27 (.ro (drows b) :: nav y), .box 0 27 (.lis 18 a.length 0 a.length :: nav (mk x y)), .lst 0 0 60 20 [], .lst 0 a.length 60 20 (drows (bothR mk a b a.length)), .box 0 27 (.lis 18 a.length 0 a.length :: nav (mk x y)), .lst 0 0 60 20 []], []⟩)
      else (.tup [.agg (.lis 18 0 0 0 :: nav zerN), .int .i64 411], ⟨[.box 0 27 (.ro (drows a) :: nav x), .box 0 27 (.ro (drows b) :: nav y), .box 0 27 (.lis 3 0 0 0 :: nav zerN), .lst 0 0 60 20 [], .box 0 4 [.bool s], .box 0 27 (.lis 11 R.length 0 R.length :: nav z), .lst 0 0 60 20 [], .box 0 27 (.ro (drows b) :: nav y), .box 0 27 (.ro (drows a) :: nav x), .box 0 27 (.lis 11 R.length 0 R.length :: nav z), .lst 0 0 60 20 [], .lst 0 R.length 60 20 (drows R), .box 0 27 (.lis 11 R.length 0 R.length :: nav z), .lst 0 0 60 20 []] ++ [.box 0 27 (.ro (drows a) :: nav x), .box 0 27 (.ro (drows b) :: nav y), .box 0 27 (.lis 18 0 0 0 :: nav zerN), .lst 0 0 60 20 [], .lst 0 0 60 20 []], []⟩)
      else (.tup [.agg (.lis 18 0 0 0 :: nav zerN), .int .i64 410], ⟨[.box 0 27 (.ro (drows a) :: nav x), .box 0 27 (.ro (drows b) :: nav y), .box 0 27 (.lis 3 0 0 0 :: nav zerN), .lst 0 0 60 20 [], .box 0 4 [.bool s], .box 0 27 (.lis 11 R.length 0 R.length :: nav z), .lst 0 0 60 20 [], .box 0 27 (.ro (drows b) :: nav y), .box 0 27 (.ro (drows a) :: nav x), .box 0 27 (.lis 11 R.length 0 R.length :: nav z), .lst 0 0 60 20 [], .lst 0 R.length 60 20 (drows R), .box 0 27 (.lis 11 R.length 0 R.length :: nav z), .lst 0 0 60 20 []] ++ [.box 0 27 (.ro (drows a) :: nav x), .box 0 27 (.ro (drows b) :: nav y), .box 0 27 (.lis 18 0 0 0 :: nav zerN), .lst 0 0 60 20 [], .lst 0 0 60 20 []], []⟩)) := by
  rw [LR_R (fn := f53) rfl rfl rfl]
  have h1 := e31 a x (by omega)
  have h2 := e31 b y (by omega)
  simp only [f53, ← nav_zer, ← dav_zer, RB, pickV, eqbV, notV, negV, convV, faddrV, fldV, idxV, eqaggV, iaddrV, isnilV, nilckV, cloV, extrV, slenV, minV, sidxV, abin, cmpInt, params, growLists, fillCells, newAt, rdPtr, wrPtr, AV.cells, asVal, lenOf, boundOf, rowsOf, argIds, freshIn, scalar1, setAll, AV.isData, AV.isYld, Nat.reduceAdd, Nat.reduceMul, Nat.reduceSub, Nat.reduceEqDiff, Nat.reduceLeDiff, Nat.reduceLT, Int.reduceNeg, ↓reduceIte, reduceCtorEq, Int.reduceEq, Int.reduceLT, Int.reduceLE, Int.reduceBEq, Int.reduceBNe, Int.reduceToNat, IntKind.bits, Int.reduceAdd, Int.reduceSub, Int.reduceMul, Int.reduceTDiv, Int.reduceTMod, DB, DB2, DB3, R7B, h1]
  by_cases k1 : TalOk a x
  · by_cases k2 : TalOk b y
    · obtain ⟨e83, h83⟩ := r83 (ys := []) (pend := []) (bs := [.box 0 27 (.ro (drows a) :: nav x), .box 0 27 (.ro (drows b) :: nav y), .box 0 27 (.lis 3 0 0 0 :: nav zerN), .lst 0 0 60 20 [], .box 0 4 [.bool s], .box 0 27 (.lis 11 R.length 0 R.length :: nav z), .lst 0 0 60 20 [], .box 0 27 (.ro (drows b) :: nav y), .box 0 27 (.ro (drows a) :: nav x), .box 0 27 (.lis 11 R.length 0 R.length :: nav z), .lst 0 0 60 20 [], .lst 0 R.length 60 20 (drows R), .box 0 27 (.lis 11 R.length 0 R.length :: nav z), .lst 0 0 60 20 []] ++ [.box 0 27 (.ro (drows a) :: nav x), .box 0 27 (.ro (drows b) :: nav y), .box 0 27 (.lis 17 0 0 0 :: nav zerN), .lst 0 0 60 20 []]) (a := a) (b := b) (by omega) (by simp [LPB, nav_below, drows])
      simp only [List.cons_append, List.nil_append] at h83
      simp only [RB, pickV, eqbV, notV, negV, convV, faddrV, fldV, idxV, eqaggV, iaddrV, isnilV, nilckV, cloV, extrV, slenV, minV, sidxV, abin, cmpInt, params, growLists, fillCells, newAt, rdPtr, wrPtr, AV.cells, asVal, lenOf, boundOf, rowsOf, argIds, freshIn, scalar1, setAll, AV.isData, AV.isYld, Nat.reduceAdd, Nat.reduceMul, Nat.reduceSub, Nat.reduceEqDiff, Nat.reduceLeDiff, Nat.reduceLT, Int.reduceNeg, ↓reduceIte, reduceCtorEq, Int.reduceEq, Int.reduceLT, Int.reduceLE, Int.reduceBEq, Int.reduceBNe, Int.reduceToNat, IntKind.bits, Int.reduceAdd, Int.reduceSub, Int.reduceMul, Int.reduceTDiv, Int.reduceTMod, DB, DB2, DB3, R7B, take_add, List.append_assoc, List.length_append, Nat.add_assoc, shrink_lit, ball_app, RG, LPB, k1, k2, h1, h2, h83, bne_self_eq_false]
      by_cases k3 : a.map Cd.p = b.map Cd.p
      · have hl : a.length = b.length := by simpa using congrArg List.length k3
        obtain ⟨e1, hc1⟩ := hcb s [.box 0 27 (.ro (drows a) :: nav x), .box 0 27 (.ro (drows b) :: nav y), .box 0 27 (.lis 17 0 0 0 :: nav zerN), .lst 0 0 60 20 [], .dead, .dead, .dead] x y
        simp only [List.cons_append, List.nil_append] at hc1
        simp only [RB, pickV, eqbV, notV, negV, convV, faddrV, fldV, idxV, eqaggV, iaddrV, isnilV, nilckV, cloV, extrV, slenV, minV, sidxV, abin, cmpInt, params, growLists, fillCells, newAt, rdPtr, wrPtr, AV.cells, asVal, lenOf, boundOf, rowsOf, argIds, freshIn, scalar1, setAll, AV.isData, AV.isYld, Nat.reduceAdd, Nat.reduceMul, Nat.reduceSub, Nat.reduceEqDiff, Nat.reduceLeDiff, Nat.reduceLT, Int.reduceNeg, ↓reduceIte, reduceCtorEq, Int.reduceEq, Int.reduceLT, Int.reduceLE, Int.reduceBEq, Int.reduceBNe, Int.reduceToNat, IntKind.bits, Int.reduceAdd, Int.reduceSub, Int.reduceMul, Int.reduceTDiv, Int.reduceTMod, DB, DB2, DB3, R7B, take_add, List.append_assoc, List.length_append, Nat.add_assoc, shrink_lit, ball_app, RG, LPB, k3, hc1]
        refine (W_rec2 (ι := {k : Nat // k ≤ a.length}) (M := fun k => [(2, .clo 56 []), (4, .ptr 15 0 0 0), (6, .ptr 16 0 0 0), (8, .ptr 19 0 0 0), (37, .ro (drows a)), (38, .int .i64 (a.length : Int)), (39, .int .i64 (k.1 : Int))])
          (H := fun k => ⟨(fun s : Bool => ([.box 0 27 (.ro (drows a) :: nav x), .box 0 27 (.ro (drows b) :: nav y), .box 0 27 (.lis 3 0 0 0 :: nav zerN), .lst 0 0 60 20 [], .box 0 4 [.bool s], .box 0 27 (.lis 11 R.length 0 R.length :: nav z), .lst 0 0 60 20 [], .box 0 27 (.ro (drows b) :: nav y), .box 0 27 (.ro (drows a) :: nav x), .box 0 27 (.lis 11 R.length 0 R.length :: nav z), .lst 0 0 60 20 [], .lst 0 R.length 60 20 (drows R), .box 0 27 (.lis 11 R.length 0 R.length :: nav z), .lst 0 0 60 20 []] : List Blk)) (bothF st a b (st s x y) k.1) ++ [.box 0 27 (.ro (drows a) :: nav x), .box 0 27 (.ro (drows b) :: nav y), .box 0 27 (.lis 17 0 0 0 :: nav zerN), .lst 0 0 60 20 [], .lst 0 k.1 60 20 (drows (bothR mk a b k.1)), .box 0 27 (.lis 18 k.1 0 k.1 :: nav (mk x y)), .lst 0 0 60 20 []], []⟩)
          (r := fun _ => some ((AV.tup [.agg (.lis 18 a.length 0 a.length :: nav (mk x y)), .int .i64 0], ⟨(fun s : Bool => ([.box 0 27 (.ro (drows a) :: nav x), .box 0 27 (.ro (drows b) :: nav y), .box 0 27 (.lis 3 0 0 0 :: nav zerN), .lst 0 0 60 20 [], .box 0 4 [.bool s], .box 0 27 (.lis 11 R.length 0 R.length :: nav z), .lst 0 0 60 20 [], .box 0 27 (.ro (drows b) :: nav y), .box 0 27 (.ro (drows a) :: nav x), .box 0 27 (.lis 11 R.length 0 R.length :: nav z), .lst 0 0 60 20 [], .lst 0 R.length 60 20 (drows R), .box 0 27 (.lis 11 R.length 0 R.length :: nav z), .lst 0 0 60 20 []] : List Blk)) (bothF st a b (st s x y) a.length) ++ [.box 0 27 (.ro (drows a) :: nav x), .box 0 27 (.ro (drows b) :: nav y), .box 0 27 (.lis 18 a.length 0 a.length :: nav (mk x y)), .lst 0 0 60 20 [], .lst 0 a.length 60 20 (drows (bothR mk a b a.length)), .box 0 27 (.lis 18 a.length 0 a.length :: nav (mk x y)), .lst 0 0 60 20 []], []⟩) : AV × Hp)) (μ := fun k => a.length - k.1) (fun k => ?_) (fun k ih => ?_) ⟨0, Nat.zero_le _⟩ rfl ?_)
        · simp [LPB, nav_below]
        · obtain ⟨k, hka⟩ := k
          simp only at ih ⊢
          by_cases hk : k < a.length
          · have f1 : (k : Int) < (a.length : Int) := by omega
            have f2 : (0 : Int) ≤ (k : Int) := by omega
            have f6 : IntKind.i64.wrap ((k : Int) + 1) = ((k + 1 : Nat) : Int) := by rw [IntWalk.i64_in _ (by omega)] <;> omega
            have g1 := drows_get a hk
            have g2 := drows_get b (show k < b.length by omega)
            have ih := ih ⟨k + 1, hk⟩ (by simp only; omega)
            obtain ⟨e2, hc2⟩ := hcb (bothF st a b (st s x y) k) [.box 0 27 (.ro (drows a) :: nav x), .box 0 27 (.ro (drows b) :: nav y), .box 0 27 (.lis 17 0 0 0 :: nav zerN), .lst 0 0 60 20 [], .lst 0 k 60 20 (drows (bothR mk a b k)), .box 0 27 (.lis 18 k 0 k :: nav (mk x y)), .lst 0 0 60 20 [], .box 0 60 (dav (dow a k))] (dow a k).c (dow b k).c
            simp only [List.cons_append, List.nil_append] at hc2
            simp only [bothR_succ, bothF_succ, List.cons_append, List.nil_append] at ih ⊢
            have hZ := bothR_len mk a b k
            generalize bothR mk a b k = Z at *
            have f7 : (k + 1) * 48 ≤ 140737488355328 := by omega
            have f8 : k ≤ 4611686018427387903 := by omega
            have f12 : ∀ r, headFits 20 [dav r] = true := fun r => drows_fit [r]
            have f13 : Z.take k = Z := by rw [← hZ, List.take_length]
            simp only [RB, pickV, eqbV, notV, negV, convV, faddrV, fldV, idxV, eqaggV, iaddrV, isnilV, nilckV, cloV, extrV, slenV, minV, sidxV, abin, cmpInt, params, growLists, fillCells, newAt, rdPtr, wrPtr, AV.cells, asVal, lenOf, boundOf, rowsOf, argIds, freshIn, scalar1, setAll, AV.isData, AV.isYld, Nat.reduceAdd, Nat.reduceMul, Nat.reduceSub, Nat.reduceEqDiff, Nat.reduceLeDiff, Nat.reduceLT, Int.reduceNeg, ↓reduceIte, reduceCtorEq, Int.reduceEq, Int.reduceLT, Int.reduceLE, Int.reduceBEq, Int.reduceBNe, Int.reduceToNat, IntKind.bits, Int.reduceAdd, Int.reduceSub, Int.reduceMul, Int.reduceTDiv, Int.reduceTMod, DB, DB2, DB3, R7B, take_add, List.append_assoc, List.length_append, Nat.add_assoc, shrink_lit, ball_app, RG, LPB, f1, f2, f6, g1, g2, hc2, O_buildSlq, quietOk, aop_buildSl, fillRows, asData, aappend, hZ, f7, f8, f12, f13, Nat.le_refl]
            exact ih
          · have e : k = a.length := by omega
            subst e
            simp only [RB, pickV, eqbV, notV, negV, convV, faddrV, fldV, idxV, eqaggV, iaddrV, isnilV, nilckV, cloV, extrV, slenV, minV, sidxV, abin, cmpInt, params, growLists, fillCells, newAt, rdPtr, wrPtr, AV.cells, asVal, lenOf, boundOf, rowsOf, argIds, freshIn, scalar1, setAll, AV.isData, AV.isYld, Nat.reduceAdd, Nat.reduceMul, Nat.reduceSub, Nat.reduceEqDiff, Nat.reduceLeDiff, Nat.reduceLT, Int.reduceNeg, ↓reduceIte, reduceCtorEq, Int.reduceEq, Int.reduceLT, Int.reduceLE, Int.reduceBEq, Int.reduceBNe, Int.reduceToNat, IntKind.bits, Int.reduceAdd, Int.reduceSub, Int.reduceMul, Int.reduceTDiv, Int.reduceTMod, DB, DB2, DB3, R7B, take_add, List.append_assoc, List.length_append, Nat.add_assoc, shrink_lit, ball_app, RG, LPB, show ¬ (a.length : Int) < (a.length : Int) by omega]
        · simp [bothR, bothF, drows]
      · simp only [RB, pickV, eqbV, notV, negV, convV, faddrV, fldV, idxV, eqaggV, iaddrV, isnilV, nilckV, cloV, extrV, slenV, minV, sidxV, abin, cmpInt, params, growLists, fillCells, newAt, rdPtr, wrPtr, AV.cells, asVal, lenOf, boundOf, rowsOf, argIds, freshIn, scalar1, setAll, AV.isData, AV.isYld, Nat.reduceAdd, Nat.reduceMul, Nat.reduceSub, Nat.reduceEqDiff, Nat.reduceLeDiff, Nat.reduceLT, Int.reduceNeg, ↓reduceIte, reduceCtorEq, Int.reduceEq, Int.reduceLT, Int.reduceLE, Int.reduceBEq, Int.reduceBNe, Int.reduceToNat, IntKind.bits, Int.reduceAdd, Int.reduceSub, Int.reduceMul, Int.reduceTDiv, Int.reduceTMod, DB, DB2, DB3, R7B, take_add, List.append_assoc, List.length_append, Nat.add_assoc, shrink_lit, ball_app, RG, LPB, k3]
    · simp only [RB, pickV, eqbV, notV, negV, convV, faddrV, fldV, idxV, eqaggV, iaddrV, isnilV, nilckV, cloV, extrV, slenV, minV, sidxV, abin, cmpInt, params, growLists, fillCells, newAt, rdPtr, wrPtr, AV.cells, asVal, lenOf, boundOf, rowsOf, argIds, freshIn, scalar1, setAll, AV.isData, AV.isYld, Nat.reduceAdd, Nat.reduceMul, Nat.reduceSub, Nat.reduceEqDiff, Nat.reduceLeDiff, Nat.reduceLT, Int.reduceNeg, ↓reduceIte, reduceCtorEq, Int.reduceEq, Int.reduceLT, Int.reduceLE, Int.reduceBEq, Int.reduceBNe, Int.reduceToNat, IntKind.bits, Int.reduceAdd, Int.reduceSub, Int.reduceMul, Int.reduceTDiv, Int.reduceTMod, DB, DB2, DB3, R7B, take_add, List.append_assoc, List.length_append, Nat.add_assoc, shrink_lit, ball_app, RG, LPB, k1, k2, h1, h2, bne_self_eq_false]
  · simp only [RB, pickV, eqbV, notV, negV, convV, faddrV, fldV, idxV, eqaggV, iaddrV, isnilV, nilckV, cloV, extrV, slenV, minV, sidxV, abin, cmpInt, params, growLists, fillCells, newAt, rdPtr, wrPtr, AV.cells, asVal, lenOf, boundOf, rowsOf, argIds, freshIn, scalar1, setAll, AV.isData, AV.isYld, Nat.reduceAdd, Nat.reduceMul, Nat.reduceSub, Nat.reduceEqDiff, Nat.reduceLeDiff, Nat.reduceLT, Int.reduceNeg, ↓reduceIte, reduceCtorEq, Int.reduceEq, Int.reduceLT, Int.reduceLE, Int.reduceBEq, Int.reduceBNe, Int.reduceToNat, IntKind.bits, Int.reduceAdd, Int.reduceSub, Int.reduceMul, Int.reduceTDiv, Int.reduceTMod, DB, DB2, DB3, R7B, take_add, List.append_assoc, List.length_append, Nat.add_assoc, shrink_lit, ball_app, RG, LPB, k1]
end Go.Proofs.YtdllnneeopbmdaaDoor.F

/- Join, Since. No condition. -/
set_option linter.unusedSimpArgs false
namespace Go.Proofs.YtdllnneeopbmdaaDoor.D
open Go Go.Proofs.YtdllnneeopbmdaaDoor.A
def bothS (mk : Cnt → Cnt → Cnt) (a : List Cd) (x : Cnt) (b : List Cd) (y : Cnt) : (List Cd × Cnt) × Int :=
  if TalOk a x ∧ TalOk b y then if a.map Cd.p = b.map Cd.p then ((bothR mk a b a.length, mk x y), 0) else (([], zerN), 411) else (([], zerN), 410)
def stB (s : Bool) (c d : Cnt) : Bool := s && decide (Bel c d)
def fitsS (a : List Cd) (x : Cnt) (b : List Cd) (y : Cnt) : Bool := bothF stB b a (stB true y x) b.length
def sinceS (a : List Cd) (x : Cnt) (b : List Cd) (y : Cnt) : (List Cd × Cnt) × Int :=
  if TalOk b y ∧ TalOk a x then if b.map Cd.p = a.map Cd.p then if fitsS a x b y = true then ((bothR lessN a b a.length, lessN x y), 0) else (([], zerN), 2) else (([], zerN), 411) else (([], zerN), 410)
end Go.Proofs.YtdllnneeopbmdaaDoor.D
namespace Go.Proofs.YtdllnneeopbmdaaDoor.F
open Go Go.Proofs.YtdllnneeopbmdaaDoor.A Go.Proofs.YtdllnneeopbmdaaDoor.D
theorem e23 (a b : List Cd) (x y : Cnt) (ha : a.length ≤ 1000000) (hb : b.length ≤ 1000000) : LV E 23 [.agg (.ro (drows a) :: nav x), .agg (.ro (drows b) :: nav y)] = some (tupS (bothS plusN a x b y)) := by
  rw [LV_R (fn := f23) rfl rfl rfl]
  have h := r53a a b x y [] zerN true ha hb plusN (fun s _ _ => s) (fun s ext c d => r51 _ c d)
  have hR := bothR_len plusN a b a.length
  have hT : (drows (bothR plusN a b a.length)).take a.length = drows (bothR plusN a b a.length) := List.take_of_length_le (by rw [drows_len, hR]; exact Nat.le_refl _)
  simp only [f23, ← nav_zer, RB, pickV, eqbV, notV, negV, convV, faddrV, fldV, idxV, eqaggV, iaddrV, isnilV, nilckV, cloV, extrV, slenV, minV, sidxV, abin, cmpInt, params, growLists, fillCells, newAt, rdPtr, wrPtr, AV.cells, asVal, lenOf, boundOf, rowsOf, argIds, freshIn, scalar1, setAll, AV.isData, AV.isYld, Nat.reduceAdd, Nat.reduceMul, Nat.reduceSub, Nat.reduceEqDiff, Nat.reduceLeDiff, Nat.reduceLT, Int.reduceNeg, ↓reduceIte, reduceCtorEq, Int.reduceEq, Int.reduceLT, Int.reduceLE, Int.reduceBEq, Int.reduceBNe, Int.reduceToNat, IntKind.bits, Int.reduceAdd, Int.reduceSub, Int.reduceMul, Int.reduceTDiv, Int.reduceTMod, DB, DB2, DB3, R7B, take_add, List.append_assoc, List.length_append, Nat.add_assoc, shrink_lit, ball_app, RG, LPB, h]
  unfold bothS
  by_cases k1 : TalOk a x ∧ TalOk b y
  · by_cases k2 : a.map Cd.p = b.map Cd.p
    · simp only [RB, pickV, eqbV, notV, negV, convV, faddrV, fldV, idxV, eqaggV, iaddrV, isnilV, nilckV, cloV, extrV, slenV, minV, sidxV, abin, cmpInt, params, growLists, fillCells, newAt, rdPtr, wrPtr, AV.cells, asVal, lenOf, boundOf, rowsOf, argIds, freshIn, scalar1, setAll, AV.isData, AV.isYld, Nat.reduceAdd, Nat.reduceMul, Nat.reduceSub, Nat.reduceEqDiff, Nat.reduceLeDiff, Nat.reduceLT, Int.reduceNeg, ↓reduceIte, reduceCtorEq, Int.reduceEq, Int.reduceLT, Int.reduceLE, Int.reduceBEq, Int.reduceBNe, Int.reduceToNat, IntKind.bits, Int.reduceAdd, Int.reduceSub, Int.reduceMul, Int.reduceTDiv, Int.reduceTMod, DB, DB2, DB3, R7B, take_add, List.append_assoc, List.length_append, Nat.add_assoc, shrink_lit, ball_app, RG, LPB, k1, k2, tupS, expCell, List.nodup_cons, List.nodup_nil, List.not_mem_nil, not_false_eq_true, not_true_eq_false, and_true, and_false, if_false, List.mem_cons, mutIds, hR, hT]
    · simp only [RB, pickV, eqbV, notV, negV, convV, faddrV, fldV, idxV, eqaggV, iaddrV, isnilV, nilckV, cloV, extrV, slenV, minV, sidxV, abin, cmpInt, params, growLists, fillCells, newAt, rdPtr, wrPtr, AV.cells, asVal, lenOf, boundOf, rowsOf, argIds, freshIn, scalar1, setAll, AV.isData, AV.isYld, Nat.reduceAdd, Nat.reduceMul, Nat.reduceSub, Nat.reduceEqDiff, Nat.reduceLeDiff, Nat.reduceLT, Int.reduceNeg, ↓reduceIte, reduceCtorEq, Int.reduceEq, Int.reduceLT, Int.reduceLE, Int.reduceBEq, Int.reduceBNe, Int.reduceToNat, IntKind.bits, Int.reduceAdd, Int.reduceSub, Int.reduceMul, Int.reduceTDiv, Int.reduceTMod, DB, DB2, DB3, R7B, take_add, List.append_assoc, List.length_append, Nat.add_assoc, shrink_lit, ball_app, RG, LPB, k1, k2, tupS, expCell, List.nodup_cons, List.nodup_nil, List.not_mem_nil, not_false_eq_true, not_true_eq_false, and_true, and_false, if_false, List.mem_cons, mutIds]
  · simp only [RB, pickV, eqbV, notV, negV, convV, faddrV, fldV, idxV, eqaggV, iaddrV, isnilV, nilckV, cloV, extrV, slenV, minV, sidxV, abin, cmpInt, params, growLists, fillCells, newAt, rdPtr, wrPtr, AV.cells, asVal, lenOf, boundOf, rowsOf, argIds, freshIn, scalar1, setAll, AV.isData, AV.isYld, Nat.reduceAdd, Nat.reduceMul, Nat.reduceSub, Nat.reduceEqDiff, Nat.reduceLeDiff, Nat.reduceLT, Int.reduceNeg, ↓reduceIte, reduceCtorEq, Int.reduceEq, Int.reduceLT, Int.reduceLE, Int.reduceBEq, Int.reduceBNe, Int.reduceToNat, IntKind.bits, Int.reduceAdd, Int.reduceSub, Int.reduceMul, Int.reduceTDiv, Int.reduceTMod, DB, DB2, DB3, R7B, take_add, List.append_assoc, List.length_append, Nat.add_assoc, shrink_lit, ball_app, RG, LPB, k1, tupS, expCell, List.nodup_cons, List.nodup_nil, List.not_mem_nil, not_false_eq_true, not_true_eq_false, and_true, and_false, if_false, List.mem_cons, mutIds]
theorem e24 (a b : List Cd) (x y : Cnt) (ha : a.length ≤ 1000000) (hb : b.length ≤ 1000000) : LV E 24 [.agg (.ro (drows a) :: nav x), .agg (.ro (drows b) :: nav y)] = some (tupS (sinceS a x b y)) := by
  rw [LV_R (fn := f24) rfl rfl rfl]
  have h := r53b b a y x [] zerN true hb ha (fun c _ => c) stB (fun s ext c d => by
    obtain ⟨e, h⟩ := r54 (ys := []) (pend := []) ([.box 0 27 (.ro (drows a) :: nav x), .box 0 27 (.ro (drows b) :: nav y), .box 0 27 (.lis 3 0 0 0 :: nav zerN), .lst 0 0 60 20 [], .box 0 4 [.bool s], .dead, .dead] ++ ext) (a := 4) (s := s) rfl c d
    exact ⟨e, h⟩)
  simp only [f24, ← nav_zer, RB, pickV, eqbV, notV, negV, convV, faddrV, fldV, idxV, eqaggV, iaddrV, isnilV, nilckV, cloV, extrV, slenV, minV, sidxV, abin, cmpInt, params, growLists, fillCells, newAt, rdPtr, wrPtr, AV.cells, asVal, lenOf, boundOf, rowsOf, argIds, freshIn, scalar1, setAll, AV.isData, AV.isYld, Nat.reduceAdd, Nat.reduceMul, Nat.reduceSub, Nat.reduceEqDiff, Nat.reduceLeDiff, Nat.reduceLT, Int.reduceNeg, ↓reduceIte, reduceCtorEq, Int.reduceEq, Int.reduceLT, Int.reduceLE, Int.reduceBEq, Int.reduceBNe, Int.reduceToNat, IntKind.bits, Int.reduceAdd, Int.reduceSub, Int.reduceMul, Int.reduceTDiv, Int.reduceTMod, DB, DB2, DB3, R7B, take_add, List.append_assoc, List.length_append, Nat.add_assoc, shrink_lit, ball_app, RG, LPB, h]
  unfold sinceS
  by_cases k1 : TalOk b y ∧ TalOk a x
  · by_cases k2 : b.map Cd.p = a.map Cd.p
    · have hl : b.length = a.length := by simpa using congrArg List.length k2
      have h2 := r53c a b x y (bothR (fun c _ => c) b a b.length) y (fitsS a x b y) ha hb lessN (fun s _ _ => s) (fun s ext c d => r56 _ c d)
      have hR := bothR_len lessN a b a.length
      have hT : (drows (bothR lessN a b a.length)).take a.length = drows (bothR lessN a b a.length) := List.take_of_length_le (by rw [drows_len, hR]; exact Nat.le_refl _)
      have e1 : (TalOk a x ∧ TalOk b y) = True := by simp [k1]
      have e2 : (a.map Cd.p = b.map Cd.p) = True := by simp [k2]
      simp only [bothR_len (fun c _ => c), e1, e2, if_true, List.cons_append, List.nil_append] at h2
      simp only [RB, pickV, eqbV, notV, negV, convV, faddrV, fldV, idxV, eqaggV, iaddrV, isnilV, nilckV, cloV, extrV, slenV, minV, sidxV, abin, cmpInt, params, growLists, fillCells, newAt, rdPtr, wrPtr, AV.cells, asVal, lenOf, boundOf, rowsOf, argIds, freshIn, scalar1, setAll, AV.isData, AV.isYld, Nat.reduceAdd, Nat.reduceMul, Nat.reduceSub, Nat.reduceEqDiff, Nat.reduceLeDiff, Nat.reduceLT, Int.reduceNeg, ↓reduceIte, reduceCtorEq, Int.reduceEq, Int.reduceLT, Int.reduceLE, Int.reduceBEq, Int.reduceBNe, Int.reduceToNat, IntKind.bits, Int.reduceAdd, Int.reduceSub, Int.reduceMul, Int.reduceTDiv, Int.reduceTMod, DB, DB2, DB3, R7B, take_add, List.append_assoc, List.length_append, Nat.add_assoc, shrink_lit, ball_app, RG, LPB, k1, k2, bne_self_eq_false]
      cases hf : fitsS a x b y with
      | true =>
        have hf' := hf
        unfold fitsS at hf'
        rw [hf] at h2
        simp only [RB, pickV, eqbV, notV, negV, convV, faddrV, fldV, idxV, eqaggV, iaddrV, isnilV, nilckV, cloV, extrV, slenV, minV, sidxV, abin, cmpInt, params, growLists, fillCells, newAt, rdPtr, wrPtr, AV.cells, asVal, lenOf, boundOf, rowsOf, argIds, freshIn, scalar1, setAll, AV.isData, AV.isYld, Nat.reduceAdd, Nat.reduceMul, Nat.reduceSub, Nat.reduceEqDiff, Nat.reduceLeDiff, Nat.reduceLT, Int.reduceNeg, ↓reduceIte, reduceCtorEq, Int.reduceEq, Int.reduceLT, Int.reduceLE, Int.reduceBEq, Int.reduceBNe, Int.reduceToNat, IntKind.bits, Int.reduceAdd, Int.reduceSub, Int.reduceMul, Int.reduceTDiv, Int.reduceTMod, DB, DB2, DB3, R7B, take_add, List.append_assoc, List.length_append, Nat.add_assoc, shrink_lit, ball_app, RG, LPB, hf', h2, bne_self_eq_false, tupS, expCell, List.nodup_cons, List.nodup_nil, List.not_mem_nil, not_false_eq_true, not_true_eq_false, and_true, and_false, if_false, List.mem_cons, mutIds, hR, hT]
      | false =>
        have hf' := hf
        unfold fitsS at hf'
        simp only [RB, pickV, eqbV, notV, negV, convV, faddrV, fldV, idxV, eqaggV, iaddrV, isnilV, nilckV, cloV, extrV, slenV, minV, sidxV, abin, cmpInt, params, growLists, fillCells, newAt, rdPtr, wrPtr, AV.cells, asVal, lenOf, boundOf, rowsOf, argIds, freshIn, scalar1, setAll, AV.isData, AV.isYld, Nat.reduceAdd, Nat.reduceMul, Nat.reduceSub, Nat.reduceEqDiff, Nat.reduceLeDiff, Nat.reduceLT, Int.reduceNeg, ↓reduceIte, reduceCtorEq, Int.reduceEq, Int.reduceLT, Int.reduceLE, Int.reduceBEq, Int.reduceBNe, Int.reduceToNat, IntKind.bits, Int.reduceAdd, Int.reduceSub, Int.reduceMul, Int.reduceTDiv, Int.reduceTMod, DB, DB2, DB3, R7B, take_add, List.append_assoc, List.length_append, Nat.add_assoc, shrink_lit, ball_app, RG, LPB, hf', bne_self_eq_false, tupS, expCell, List.nodup_cons, List.nodup_nil, List.not_mem_nil, not_false_eq_true, not_true_eq_false, and_true, and_false, if_false, List.mem_cons, mutIds]
    · simp only [RB, pickV, eqbV, notV, negV, convV, faddrV, fldV, idxV, eqaggV, iaddrV, isnilV, nilckV, cloV, extrV, slenV, minV, sidxV, abin, cmpInt, params, growLists, fillCells, newAt, rdPtr, wrPtr, AV.cells, asVal, lenOf, boundOf, rowsOf, argIds, freshIn, scalar1, setAll, AV.isData, AV.isYld, Nat.reduceAdd, Nat.reduceMul, Nat.reduceSub, Nat.reduceEqDiff, Nat.reduceLeDiff, Nat.reduceLT, Int.reduceNeg, ↓reduceIte, reduceCtorEq, Int.reduceEq, Int.reduceLT, Int.reduceLE, Int.reduceBEq, Int.reduceBNe, Int.reduceToNat, IntKind.bits, Int.reduceAdd, Int.reduceSub, Int.reduceMul, Int.reduceTDiv, Int.reduceTMod, DB, DB2, DB3, R7B, take_add, List.append_assoc, List.length_append, Nat.add_assoc, shrink_lit, ball_app, RG, LPB, k1, k2, tupS, expCell, List.nodup_cons, List.nodup_nil, List.not_mem_nil, not_false_eq_true, not_true_eq_false, and_true, and_false, if_false, List.mem_cons, mutIds]
  · simp only [RB, pickV, eqbV, notV, negV, convV, faddrV, fldV, idxV, eqaggV, iaddrV, isnilV, nilckV, cloV, extrV, slenV, minV, sidxV, abin, cmpInt, params, growLists, fillCells, newAt, rdPtr, wrPtr, AV.cells, asVal, lenOf, boundOf, rowsOf, argIds, freshIn, scalar1, setAll, AV.isData, AV.isYld, Nat.reduceAdd, Nat.reduceMul, Nat.reduceSub, Nat.reduceEqDiff, Nat.reduceLeDiff, Nat.reduceLT, Int.reduceNeg, ↓reduceIte, reduceCtorEq, Int.reduceEq, Int.reduceLT, Int.reduceLE, Int.reduceBEq, Int.reduceBNe, Int.reduceToNat, IntKind.bits, Int.reduceAdd, Int.reduceSub, Int.reduceMul, Int.reduceTDiv, Int.reduceTMod, DB, DB2, DB3, R7B, take_add, List.append_assoc, List.length_append, Nat.add_assoc, shrink_lit, ball_app, RG, LPB, k1, tupS, expCell, List.nodup_cons, List.nodup_nil, List.not_mem_nil, not_false_eq_true, not_true_eq_false, and_true, and_false, if_false, List.mem_cons, mutIds]
end Go.Proofs.YtdllnneeopbmdaaDoor.F

/- Counted apart and joined is counted together: the plain law. No condition. -/
set_option linter.unusedSimpArgs false
namespace Go.Proofs.YtdllnneeopbmdaaDoor.D
open Go Go.Proofs.YtdllnneeopbmdaaDoor.A
theorem sumN_small {a b : Int} (ha : 0 ≤ a) (hb : 0 ≤ b) (h : a + b ≤ 4611686018427387904) : sumN a b = a + b := by
  unfold sumN
  rw [IntWalk.u64_in _ (by omega), if_neg (by omega)]
/-- A count of at most so many packets. -/
def Sm (c : Cnt) (m : Int) : Prop := 0 ≤ c.pk ∧ c.pk ≤ m ∧ 0 ≤ c.by' ∧ c.by' ≤ m * 1099511627776
def addN (c d : Cnt) : Cnt := ⟨c.pk + d.pk, c.by' + d.by'⟩
theorem plus_small {c d : Cnt} {m n : Int} (hc : Sm c m) (hd : Sm d n) (h : m + n ≤ 4096) : plusN c d = addN c d := by
  obtain ⟨a1, a2, a3, a4⟩ := hc
  obtain ⟨b1, b2, b3, b4⟩ := hd
  unfold plusN addN
  rw [sumN_small a1 b1 (by omega), sumN_small a3 b3 (by omega)]
theorem Sm.add {c d : Cnt} {m n : Int} (hc : Sm c m) (hd : Sm d n) : Sm (addN c d) (m + n) := by
  obtain ⟨a1, a2, a3, a4⟩ := hc
  obtain ⟨b1, b2, b3, b4⟩ := hd
  refine ⟨?_, ?_, ?_, ?_⟩ <;> simp only [addN] <;> omega
theorem Sm.ok {c : Cnt} {m : Int} (h : Sm c m) (hm : m ≤ 4096) : NOk c := by
  obtain ⟨a1, a2, a3, a4⟩ := h
  exact ⟨by omega, by omega⟩
theorem less_add {c d : Cnt} {m n : Int} (hc : Sm c m) (hd : Sm d n) (h : m + n ≤ 4096) : lessN (addN c d) c = d := by
  obtain ⟨a1, a2, a3, a4⟩ := hc
  obtain ⟨b1, b2, b3, b4⟩ := hd
  unfold lessN addN
  simp only
  rw [IntWalk.u64_in _ (by omega), IntWalk.u64_in _ (by omega)]
  cases d; simp only [Cnt.mk.injEq]; omega
theorem bel_add {c d : Cnt} {n : Int} (hd : Sm d n) : Bel c (addN c d) := by
  obtain ⟨b1, b2, b3, b4⟩ := hd
  exact ⟨by simp only [addN]; omega, by simp only [addN]; omega⟩
/-- How the three tallies stand: m, n packets counted in the one, the other. -/
structure Apart (x : List Rw) (o t al : List Cd × Cnt) (m n : Int) : Prop where
  h0 : 0 ≤ m ∧ 0 ≤ n ∧ m + n ≤ 4000
  mo : o.1.map Cd.p = x.map Rw.p
  mt : t.1.map Cd.p = x.map Rw.p
  ma : al.1.map Cd.p = x.map Rw.p
  no : Sm o.2 m
  nt : Sm t.2 n
  na : al.2 = addN o.2 t.2
  so : ∀ i < x.length, Sm (dow o.1 i).c m
  st : ∀ i < x.length, Sm (dow t.1 i).c n
  sa : ∀ i < x.length, (dow al.1 i).c = addN (dow o.1 i).c (dow t.1 i).c
theorem map_ext {l l' : List Cd} {x : List Rw} (h : l.map Cd.p = x.map Rw.p) (h' : l'.map Cd.p = x.map Rw.p) (hc : ∀ i < x.length, (dow l i).c = (dow l' i).c) : l = l' := by
  have e1 : l.length = x.length := by simpa using congrArg List.length h
  have e2 : l'.length = x.length := by simpa using congrArg List.length h'
  refine List.ext_getElem? fun i => ?_
  by_cases hi : i < x.length
  · have p1 := (of_dow h hi).2
    have p2 := (of_dow h' hi).2
    rw [dow_some l (by omega), dow_some l' (by omega)]
    have := hc i hi
    cases h3 : dow l i; cases h4 : dow l' i
    rw [h3, h4] at this
    rw [h3] at p1; rw [h4] at p2
    simp only at this p1 p2
    rw [this, p1, p2]
  · rw [List.getElem?_eq_none (by omega), List.getElem?_eq_none (by omega)]
theorem tal_of {l : List Cd} {n : Cnt} {x : List Rw} (hx : TabOk x) (h : l.map Cd.p = x.map Rw.p) (hn : NOk n) (hc : ∀ i < x.length, NOk (dow l i).c) : TalOk l n := by
  have e1 : l.length = x.length := by simpa using congrArg List.length h
  refine ⟨⟨by have := hx.len; omega, hn⟩, fun i _ hi => ?_⟩
  refine ⟨?_, hc i (by omega), fun h0 => riseD_of h hx (i - 1) i (by omega) hi⟩
  rw [(of_dow h (by omega)).2]
  exact (hx i (Nat.zero_le _) (by omega)).2.1
theorem bothR_dow (mk : Cnt → Cnt → Cnt) (a b : List Cd) {k i : Nat} (h : i < k) : dow (bothR mk a b k) i = ⟨(dow a i).p, mk (dow a i).c (dow b i).c⟩ := by
  have := dow_some (bothR mk a b k) (i := i) (by rw [bothR_len]; exact h)
  rw [bothR, List.getElem?_map, List.getElem?_range h] at this
  exact (Option.some.inj this).symm
theorem bothR_map (mk : Cnt → Cnt → Cnt) {a b : List Cd} {x : List Rw} (h : a.map Cd.p = x.map Rw.p) : (bothR mk a b a.length).map Cd.p = x.map Rw.p := by
  rw [← h]
  refine List.ext_getElem? fun i => ?_
  by_cases hi : i < a.length
  · rw [List.getElem?_map, List.getElem?_map, dow_some _ (by rw [bothR_len]; exact hi), bothR_dow mk a b hi, dow_some a hi]; rfl
  · rw [List.getElem?_eq_none (by simp [bothR_len]; omega), List.getElem?_eq_none (by simp; omega)]
section
variable {x : List Rw} {o t al : List Cd × Cnt} {m n : Int}
theorem Apart.talO (h : Apart x o t al m n) (hx : TabOk x) : TalOk o.1 o.2 := tal_of hx h.mo (h.no.ok (by have := h.h0; omega)) fun i hi => (h.so i hi).ok (by have := h.h0; omega)
theorem Apart.talT (h : Apart x o t al m n) (hx : TabOk x) : TalOk t.1 t.2 := tal_of hx h.mt (h.nt.ok (by have := h.h0; omega)) fun i hi => (h.st i hi).ok (by have := h.h0; omega)
theorem Apart.talA (h : Apart x o t al m n) (hx : TabOk x) : TalOk al.1 al.2 := tal_of hx h.ma (by rw [h.na]; exact (h.no.add h.nt).ok (by have := h.h0; omega)) fun i hi => by
  rw [h.sa i hi]; exact ((h.so i hi).add (h.st i hi)).ok (by have := h.h0; omega)
theorem Apart.join (h : Apart x o t al m n) (hx : TabOk x) : bothS plusN o.1 o.2 t.1 t.2 = (al, 0) := by
  have hb := h.h0
  have hlen : o.1.length = x.length := by simpa using congrArg List.length h.mo
  unfold bothS
  rw [if_pos ⟨h.talO hx, h.talT hx⟩, if_pos (h.mo.trans h.mt.symm), plus_small h.no h.nt (by omega), ← h.na]
  have : bothR plusN o.1 t.1 o.1.length = al.1 := map_ext (bothR_map plusN h.mo) h.ma fun i hi => by
    rw [bothR_dow plusN _ _ (by omega), h.sa i hi]; exact plus_small (h.so i hi) (h.st i hi) (by omega)
  rw [this]
theorem addN_comm (c d : Cnt) : addN c d = addN d c := by simp only [addN, Int.add_comm]
theorem Apart.swap (h : Apart x o t al m n) : Apart x t o al n m where
  h0 := by have := h.h0; omega
  mo := h.mt
  mt := h.mo
  ma := h.ma
  no := h.nt
  nt := h.no
  na := by rw [h.na, addN_comm]
  so := h.st
  st := h.so
  sa := fun i hi => by rw [h.sa i hi, addN_comm]
theorem bothF_true (a b : List Cd) : ∀ k, (∀ i < k, Bel (dow a i).c (dow b i).c) → bothF stB a b true k = true
  | 0, _ => rfl
  | k + 1, h => by rw [bothF_succ, bothF_true a b k fun i hi => h i (by omega), stB, decide_eq_true (h k (by omega))]; rfl
theorem Apart.since (h : Apart x o t al m n) (hx : TabOk x) : sinceS al.1 al.2 o.1 o.2 = (t, 0) := by
  have hb := h.h0
  have hlen : o.1.length = x.length := by simpa using congrArg List.length h.mo
  have hlen' : al.1.length = x.length := by simpa using congrArg List.length h.ma
  have hf : fitsS al.1 al.2 o.1 o.2 = true := by
    unfold fitsS
    have e : stB true o.2 al.2 = true := by rw [stB, h.na, decide_eq_true (bel_add h.nt)]; rfl
    rw [e]
    exact bothF_true _ _ _ fun i hi => by rw [h.sa i (by omega)]; exact bel_add (h.st i (by omega))
  unfold sinceS
  rw [if_pos ⟨h.talO hx, h.talA hx⟩, if_pos (h.mo.trans h.ma.symm), if_pos hf, h.na, less_add h.no h.nt (by omega)]
  have : bothR lessN al.1 o.1 al.1.length = t.1 := map_ext (bothR_map lessN h.ma) h.mt fun i hi => by
    rw [bothR_dow lessN _ _ (by omega), h.sa i hi]; exact less_add (h.so i hi) (h.st i hi) (by omega)
  rw [this]
theorem Apart.zero (hx : TabOk x) : Apart x (zeroS x, zerN) (zeroS x, zerN) (zeroS x, zerN) 0 0 := by
  have z : Sm zerN 0 := by unfold Sm zerN; decide
  refine ⟨by decide, zeroS_map x, zeroS_map x, zeroS_map x, z, z, rfl, fun i hi => ?_, fun i hi => ?_, fun i hi => ?_⟩
  · simp only [zeroS_dow x hi]; exact z
  · simp only [zeroS_dow x hi]; exact z
  · simp only [zeroS_dow x hi]; rfl
/-- A packet is counted. -/
def give1 (x : List Rw) (a : Adr) (b : Int) (s : List Cd × Cnt) : List Cd × Cnt :=
  (giveS s.1 (bestI (hasB a) x x.length) ⟨1, b⟩, if bestI (hasB a) x x.length < 0 then plusN s.2 ⟨1, b⟩ else s.2)
theorem passS_ok {l : List Cd} {n : Cnt} {a : Adr} {b : Int} (ht : TalOk l n) (hx : TabOk x) (hm : l.map Cd.p = x.map Rw.p) (hb : b ≤ 4611686018427387904) : passS l n x a b = if AddrOk a then (give1 x a b (l, n), 0) else (([], zerN), 150) := by
  have e : errS l n x x = 0 := by unfold errS; rw [if_pos ht, if_pos hx, if_pos hx, if_pos hm]
  unfold passS
  rw [if_pos e, if_neg (show ¬ 4611686018427387904 < b by omega)]
  rfl
theorem Apart.pass (h : Apart x o t al m n) (a : Adr) {b : Int} (hb : 0 ≤ b ∧ b < 1099511627776) (hm : m + n < 4000) : Apart x (give1 x a b o) t (give1 x a b al) (m + 1) n := by
  have hh := h.h0
  have e1 : o.1.length = x.length := by simpa using congrArg List.length h.mo
  have e2 : al.1.length = x.length := by simpa using congrArg List.length h.ma
  have hc : Sm ⟨1, b⟩ 1 := ⟨show (0 : Int) ≤ 1 by decide, Int.le_refl _, hb.1, by simp only; omega⟩
  have key : ∀ {c d : Cnt}, Sm c m → Sm d n → plusN (addN c d) ⟨1, b⟩ = addN (plusN c ⟨1, b⟩) d := fun {c d} h1 h2 => by
    rw [plus_small (h1.add h2) hc (by omega), plus_small h1 hc (by omega)]
    simp only [addN, Cnt.mk.injEq]; omega
  have up : ∀ {c : Cnt}, Sm c m → Sm (plusN c ⟨1, b⟩) (m + 1) := fun {c} h1 => by rw [plus_small h1 hc (by omega)]; exact h1.add hc
  have wk : ∀ {c : Cnt}, Sm c m → Sm c (m + 1) := fun {c} h1 => ⟨h1.1, by have := h1.2.1; omega, h1.2.2.1, by have := h1.2.2.2; omega⟩
  unfold give1
  generalize bestI (hasB a) x x.length = k
  refine ⟨by omega, by simp only [giveS_map]; exact h.mo, h.mt, by simp only [giveS_map]; exact h.ma, ?_, h.nt, ?_, fun i hi => ?_, h.st, fun i hi => ?_⟩
  · simp only; split
    · exact up h.no
    · exact wk h.no
  · simp only; split
    · rw [h.na]; exact key h.no h.nt
    · exact h.na
  · simp only
    rw [giveS_dow _ _ _ (by omega)]
    split
    · exact up (h.so i hi)
    · exact wk (h.so i hi)
  · simp only
    rw [giveS_dow _ _ _ (by omega), giveS_dow _ _ _ (by omega)]
    split
    · simp only; rw [h.sa i hi]; exact key (h.so i hi) (h.st i hi)
    · exact h.sa i hi
end
end Go.Proofs.YtdllnneeopbmdaaDoor.D

/- TallyApart. No condition. -/
set_option linter.unusedSimpArgs false
namespace Go.Proofs.YtdllnneeopbmdaaDoor.D
open Go Go.Proofs.YtdllnneeopbmdaaDoor.A
structure Pk where
  adr : Adr
  b : Int
def kv (p : Pk) : List AV := kav p.adr p.b
def krows (l : List Pk) : List (List AV) := l.map kv
def kow (l : List Pk) (i : Nat) : Pk := l.getD i ⟨zerA, 0⟩
theorem kv_zer : kv ⟨zerA, 0⟩ = [.int .i64 0, .int .u8 0, .int .u8 0, .int .u8 0, .int .u8 0, .int .u8 0, .int .u8 0, .int .u8 0, .int .u8 0, .int .u8 0, .int .u8 0, .int .u8 0, .int .u8 0, .int .u8 0, .int .u8 0, .int .u8 0, .int .u8 0, .int .u64 0] := rfl
theorem kv_len (p : Pk) : (kv p).length = 18 := kav_len _ _
theorem kv_below (m : Nat) (p : Pk) : belowL m (kv p) = true := kav_below m _ _
theorem kv_data (p : Pk) : dataL (kv p) = true := kav_data _ _
theorem kv_p (p : Pk) : piece (kv p) 0 18 = some (kv p) := kav_p _ _
theorem kv_a (p : Pk) : piece (kv p) 0 17 = some (aav p.adr) := kav_a _ _
theorem kv_b (p : Pk) : piece (kv p) 17 1 = some [.int .u64 p.b] := kav_b _ _
theorem kv_o (l : List AV) (p : Pk) (h : l.length = 18) : ovr l 0 (kv p) = some (kv p) := ovr_all _ _ (by rw [h, kv_len])
theorem kv_ob (p : Pk) (c : Int) : ovr (kv p) 17 [.int .u64 c] = some (kv ⟨p.adr, c⟩) := by
  unfold ovr; rw [if_pos (by rw [kv_len]; simp)]
  unfold kv kav
  rw [show (17 : Nat) = (aav p.adr).length by rw [aav_len], List.take_left]
  rw [show (aav p.adr).length + [AV.int IntKind.u64 c].length = (aav p.adr ++ [AV.int IntKind.u64 p.b]).length by simp, List.drop_length, List.append_nil]
theorem krows_len (l : List Pk) : (krows l).length = l.length := by simp [krows]
theorem kow_some (l : List Pk) {i : Nat} (h : i < l.length) : l[i]? = some (kow l i) := by simp [kow, List.getD_eq_getElem?_getD, h]
theorem krows_get (l : List Pk) {i : Nat} (h : i < l.length) : (krows l)[i]? = some (kv (kow l i)) := by
  rw [krows, List.getElem?_map, kow_some l h]; rfl
theorem krows_fit (l : List Pk) : headFits 18 (krows l) = true := by
  cases l with
  | nil => rfl
  | cons a l => simp [headFits, krows, kv_len]
theorem krows_fits (l : List Pk) {n : Nat} (hn : n ≤ l.length) : rowFits 18 0 n (krows l) = true := by
  unfold rowFits
  by_cases h2 : 0 = n
  · simp [h2]
  · rw [krows_get l (show 0 < l.length by omega)]; simp [kv_len]
theorem krows_append (l r : List Pk) : krows l ++ krows r = krows (l ++ r) := by simp [krows]
theorem krows_take (l : List Pk) (n : Nat) : (krows l).take n = krows (l.take n) := by simp [krows, List.map_take]
theorem krows_nil : krows [] = [] := rfl
end Go.Proofs.YtdllnneeopbmdaaDoor.D
namespace Go.Proofs.YtdllnneeopbmdaaDoor.F
open Go Go.Proofs.YtdllnneeopbmdaaDoor.A Go.Proofs.YtdllnneeopbmdaaDoor.D
theorem e60 (a b : List Cd) (ha : a.length ≤ 4611686018427387904) : LV E 60 [.ro (drows a), .ro (drows b)] = some (.bool (decide (a = b))) := by
  rw [LV_R (fn := f60) rfl rfl rfl]
  simp only [f60, RB, pickV, eqbV, notV, negV, convV, faddrV, fldV, idxV, eqaggV, iaddrV, isnilV, nilckV, cloV, extrV, slenV, minV, sidxV, abin, cmpInt, params, growLists, fillCells, newAt, rdPtr, wrPtr, AV.cells, asVal, lenOf, boundOf, rowsOf, argIds, freshIn, scalar1, setAll, AV.isData, AV.isYld, Nat.reduceAdd, Nat.reduceMul, Nat.reduceSub, Nat.reduceEqDiff, Nat.reduceLeDiff, Nat.reduceLT, Int.reduceNeg, ↓reduceIte, reduceCtorEq, Int.reduceEq, Int.reduceLT, Int.reduceLE, Int.reduceBEq, Int.reduceBNe, Int.reduceToNat, IntKind.bits, Int.reduceAdd, Int.reduceSub, Int.reduceMul, Int.reduceTDiv, Int.reduceTMod, DB, DB2, DB3]
  by_cases hl : a.length = b.length
  · simp only [RB, pickV, eqbV, notV, negV, convV, faddrV, fldV, idxV, eqaggV, iaddrV, isnilV, nilckV, cloV, extrV, slenV, minV, sidxV, abin, cmpInt, params, growLists, fillCells, newAt, rdPtr, wrPtr, AV.cells, asVal, lenOf, boundOf, rowsOf, argIds, freshIn, scalar1, setAll, AV.isData, AV.isYld, Nat.reduceAdd, Nat.reduceMul, Nat.reduceSub, Nat.reduceEqDiff, Nat.reduceLeDiff, Nat.reduceLT, Int.reduceNeg, ↓reduceIte, reduceCtorEq, Int.reduceEq, Int.reduceLT, Int.reduceLE, Int.reduceBEq, Int.reduceBNe, Int.reduceToNat, IntKind.bits, Int.reduceAdd, Int.reduceSub, Int.reduceMul, Int.reduceTDiv, Int.reduceTMod, DB, DB2, DB3, hl, bne_self_eq_false]
    refine (W_rec (β := AV) (ι := Nat) (M := fun k => [(0, .ro (drows a)), (1, .ro (drows b)), (12, .int .i64 (b.length : Int)), (13, .int .i64 (k : Int))]) (H := fun _ => ⟨[], []⟩) (r := fun k => some (AV.bool (decide (AllF (fun i => dow a i = dow b i) a.length k)))) (μ := fun k => a.length - k) (fun i => ?_) (fun k ih => ?_) 0).trans ?_
    · simp [LPB]
    · by_cases hk : k < a.length
      · have f1 : (k : Int) < (b.length : Int) := by omega
        have f2 : (0 : Int) ≤ (k : Int) := by omega
        have f6 : IntKind.i64.wrap ((k : Int) + 1) = ((k + 1 : Nat) : Int) := by rw [IntWalk.i64_in _ (by omega)] <;> omega
        have g1 := drows_get a hk
        have g2 := drows_get b (show k < b.length by omega)
        by_cases h : dow a k = dow b k
        · simp only [RB, pickV, eqbV, notV, negV, convV, faddrV, fldV, idxV, eqaggV, iaddrV, isnilV, nilckV, cloV, extrV, slenV, minV, sidxV, abin, cmpInt, params, growLists, fillCells, newAt, rdPtr, wrPtr, AV.cells, asVal, lenOf, boundOf, rowsOf, argIds, freshIn, scalar1, setAll, AV.isData, AV.isYld, Nat.reduceAdd, Nat.reduceMul, Nat.reduceSub, Nat.reduceEqDiff, Nat.reduceLeDiff, Nat.reduceLT, Int.reduceNeg, ↓reduceIte, reduceCtorEq, Int.reduceEq, Int.reduceLT, Int.reduceLE, Int.reduceBEq, Int.reduceBNe, Int.reduceToNat, IntKind.bits, Int.reduceAdd, Int.reduceSub, Int.reduceMul, Int.reduceTDiv, Int.reduceTMod, DB, DB2, DB3, f1, f2, f6, g1, g2, h]
          rw [ih (k + 1) (by omega)]
          simp only [AllF.next (Q := fun i => dow a i = dow b i) h]
        · simp only [RB, pickV, eqbV, notV, negV, convV, faddrV, fldV, idxV, eqaggV, iaddrV, isnilV, nilckV, cloV, extrV, slenV, minV, sidxV, abin, cmpInt, params, growLists, fillCells, newAt, rdPtr, wrPtr, AV.cells, asVal, lenOf, boundOf, rowsOf, argIds, freshIn, scalar1, setAll, AV.isData, AV.isYld, Nat.reduceAdd, Nat.reduceMul, Nat.reduceSub, Nat.reduceEqDiff, Nat.reduceLeDiff, Nat.reduceLT, Int.reduceNeg, ↓reduceIte, reduceCtorEq, Int.reduceEq, Int.reduceLT, Int.reduceLE, Int.reduceBEq, Int.reduceBNe, Int.reduceToNat, IntKind.bits, Int.reduceAdd, Int.reduceSub, Int.reduceMul, Int.reduceTDiv, Int.reduceTMod, DB, DB2, DB3, f1, f2, f6, g1, g2, h]
          rw [decide_eq_false (AllF.not hk h)]
      · simp only [RB, pickV, eqbV, notV, negV, convV, faddrV, fldV, idxV, eqaggV, iaddrV, isnilV, nilckV, cloV, extrV, slenV, minV, sidxV, abin, cmpInt, params, growLists, fillCells, newAt, rdPtr, wrPtr, AV.cells, asVal, lenOf, boundOf, rowsOf, argIds, freshIn, scalar1, setAll, AV.isData, AV.isYld, Nat.reduceAdd, Nat.reduceMul, Nat.reduceSub, Nat.reduceEqDiff, Nat.reduceLeDiff, Nat.reduceLT, Int.reduceNeg, ↓reduceIte, reduceCtorEq, Int.reduceEq, Int.reduceLT, Int.reduceLE, Int.reduceBEq, Int.reduceBNe, Int.reduceToNat, IntKind.bits, Int.reduceAdd, Int.reduceSub, Int.reduceMul, Int.reduceTDiv, Int.reduceTMod, DB, DB2, DB3, show ¬ (k : Int) < (b.length : Int) by omega]
        rw [decide_eq_true (AllF.done (by omega))]
    · congr 2; exact decide_eq_decide.2 (dsame_iff hl)
  · simp only [RB, pickV, eqbV, notV, negV, convV, faddrV, fldV, idxV, eqaggV, iaddrV, isnilV, nilckV, cloV, extrV, slenV, minV, sidxV, abin, cmpInt, params, growLists, fillCells, newAt, rdPtr, wrPtr, AV.cells, asVal, lenOf, boundOf, rowsOf, argIds, freshIn, scalar1, setAll, AV.isData, AV.isYld, Nat.reduceAdd, Nat.reduceMul, Nat.reduceSub, Nat.reduceEqDiff, Nat.reduceLeDiff, Nat.reduceLT, Int.reduceNeg, ↓reduceIte, reduceCtorEq, Int.reduceEq, Int.reduceLT, Int.reduceLE, Int.reduceBEq, Int.reduceBNe, Int.reduceToNat, IntKind.bits, Int.reduceAdd, Int.reduceSub, Int.reduceMul, Int.reduceTDiv, Int.reduceTMod, DB, DB2, DB3, show ((a.length : Int) != (b.length : Int)) = true by rw [bne_iff_ne]; omega]
    rw [decide_eq_false fun h => hl (by rw [h])]
theorem e27 (a b : List Cd) (c d : Cnt) (ha : a.length ≤ 4611686018427387904) : LV E 27 [.agg (.ro (drows a) :: nav c), .agg (.ro (drows b) :: nav d)] = some (.bool (decide (c = d ∧ a = b))) := by
  rw [LV_R (fn := f27) rfl rfl rfl]
  simp only [f27, RB, pickV, eqbV, notV, negV, convV, faddrV, fldV, idxV, eqaggV, iaddrV, isnilV, nilckV, cloV, extrV, slenV, minV, sidxV, abin, cmpInt, params, growLists, fillCells, newAt, rdPtr, wrPtr, AV.cells, asVal, lenOf, boundOf, rowsOf, argIds, freshIn, scalar1, setAll, AV.isData, AV.isYld, Nat.reduceAdd, Nat.reduceMul, Nat.reduceSub, Nat.reduceEqDiff, Nat.reduceLeDiff, Nat.reduceLT, Int.reduceNeg, ↓reduceIte, reduceCtorEq, Int.reduceEq, Int.reduceLT, Int.reduceLE, Int.reduceBEq, Int.reduceBNe, Int.reduceToNat, IntKind.bits, Int.reduceAdd, Int.reduceSub, Int.reduceMul, Int.reduceTDiv, Int.reduceTMod, DB, DB2, DB3]
  by_cases h : c = d
  · simp only [RB, pickV, eqbV, notV, negV, convV, faddrV, fldV, idxV, eqaggV, iaddrV, isnilV, nilckV, cloV, extrV, slenV, minV, sidxV, abin, cmpInt, params, growLists, fillCells, newAt, rdPtr, wrPtr, AV.cells, asVal, lenOf, boundOf, rowsOf, argIds, freshIn, scalar1, setAll, AV.isData, AV.isYld, Nat.reduceAdd, Nat.reduceMul, Nat.reduceSub, Nat.reduceEqDiff, Nat.reduceLeDiff, Nat.reduceLT, Int.reduceNeg, ↓reduceIte, reduceCtorEq, Int.reduceEq, Int.reduceLT, Int.reduceLE, Int.reduceBEq, Int.reduceBNe, Int.reduceToNat, IntKind.bits, Int.reduceAdd, Int.reduceSub, Int.reduceMul, Int.reduceTDiv, Int.reduceTMod, DB, DB2, DB3, h, e60 a b ha]
  · simp only [RB, pickV, eqbV, notV, negV, convV, faddrV, fldV, idxV, eqaggV, iaddrV, isnilV, nilckV, cloV, extrV, slenV, minV, sidxV, abin, cmpInt, params, growLists, fillCells, newAt, rdPtr, wrPtr, AV.cells, asVal, lenOf, boundOf, rowsOf, argIds, freshIn, scalar1, setAll, AV.isData, AV.isYld, Nat.reduceAdd, Nat.reduceMul, Nat.reduceSub, Nat.reduceEqDiff, Nat.reduceLeDiff, Nat.reduceLT, Int.reduceNeg, ↓reduceIte, reduceCtorEq, Int.reduceEq, Int.reduceLT, Int.reduceLE, Int.reduceBEq, Int.reduceBNe, Int.reduceToNat, IntKind.bits, Int.reduceAdd, Int.reduceSub, Int.reduceMul, Int.reduceTDiv, Int.reduceTMod, DB, DB2, DB3, h]
end Go.Proofs.YtdllnneeopbmdaaDoor.F

/- TallyApart: the run. No condition. -/
set_option linter.unusedSimpArgs false
namespace Go.Proofs.YtdllnneeopbmdaaDoor.F
open Go Go.Proofs.YtdllnneeopbmdaaDoor.A Go.Proofs.YtdllnneeopbmdaaDoor.D
theorem apart (x : List Rw) (a b : List Pk) (ha : ∀ p ∈ a, 0 ≤ p.b) (hb : ∀ p ∈ b, 0 ≤ p.b) : LV E 6 [.agg [.ro (rrows x)], .ro (krows a), .ro (krows b)] = some (.bool true) := by
  rw [LV_R (fn := f6) rfl rfl rfl]
  simp only [f6, ← nav_zer, ← kv_zer, RB, pickV, eqbV, notV, negV, convV, faddrV, fldV, idxV, eqaggV, iaddrV, isnilV, nilckV, cloV, extrV, slenV, minV, sidxV, abin, cmpInt, params, growLists, fillCells, newAt, rdPtr, wrPtr, AV.cells, asVal, lenOf, boundOf, rowsOf, argIds, freshIn, scalar1, setAll, AV.isData, AV.isYld, Nat.reduceAdd, Nat.reduceMul, Nat.reduceSub, Nat.reduceEqDiff, Nat.reduceLeDiff, Nat.reduceLT, Int.reduceNeg, ↓reduceIte, reduceCtorEq, Int.reduceEq, Int.reduceLT, Int.reduceLE, Int.reduceBEq, Int.reduceBNe, Int.reduceToNat, IntKind.bits, Int.reduceAdd, Int.reduceSub, Int.reduceMul, Int.reduceTDiv, Int.reduceTMod, DB, DB2, DB3, e10]
  by_cases h2 : (200 : Int) < (x.length : Int)
  · simp only [RB, pickV, eqbV, notV, negV, convV, faddrV, fldV, idxV, eqaggV, iaddrV, isnilV, nilckV, cloV, extrV, slenV, minV, sidxV, abin, cmpInt, params, growLists, fillCells, newAt, rdPtr, wrPtr, AV.cells, asVal, lenOf, boundOf, rowsOf, argIds, freshIn, scalar1, setAll, AV.isData, AV.isYld, Nat.reduceAdd, Nat.reduceMul, Nat.reduceSub, Nat.reduceEqDiff, Nat.reduceLeDiff, Nat.reduceLT, Int.reduceNeg, ↓reduceIte, reduceCtorEq, Int.reduceEq, Int.reduceLT, Int.reduceLE, Int.reduceBEq, Int.reduceBNe, Int.reduceToNat, IntKind.bits, Int.reduceAdd, Int.reduceSub, Int.reduceMul, Int.reduceTDiv, Int.reduceTMod, DB, DB2, DB3, h2]
  · have hx : x.length ≤ 1000000 := by omega
    have h14 := e14 x hx
    have h26 := e_table_Check x (by omega)
    by_cases h3 : TabOk x
    · rw [if_pos h3] at h14
      have u1 : ∀ l : List Pk, ∃ n : Nat, aminmax false .i64 (l.length : Int) [.int .i64 20] = some (.int .i64 (n : Int)) ∧ n ≤ l.length ∧ n ≤ 20 := fun l => by
        by_cases h : (20 : Int) < (l.length : Int)
        · exact ⟨20, by simp [aminmax, h], by omega, Nat.le_refl _⟩
        · exact ⟨l.length, by simp [aminmax, h], Nat.le_refl _, by omega⟩
      obtain ⟨na, ua, ua1, ua2⟩ := u1 a
      obtain ⟨nb, ub, ub1, ub2⟩ := u1 b
      have hLp : ∀ p ∈ a.take na ++ b.take nb, 0 ≤ p.b := fun p hp => by
        rcases List.mem_append.1 hp with h | h
        · exact ha p (List.mem_of_mem_take h)
        · exact hb p (List.mem_of_mem_take h)
      have hLn : (a.take na ++ b.take nb).length ≤ 40 := by simp; omega
      have l1 : (a.take na).length = na := by simp; omega
      have l2 : (b.take nb).length = nb := by simp; omega
      have f2 : (0 : Int) ≤ (na : Int) := by omega
      have f3 : (0 : Int) ≤ (nb : Int) := by omega
      have f7 : na * 32 ≤ 140737488355328 := by omega
      have f8 : na ≤ 4611686018427387904 := by omega
      have f9 : (na + nb) * 32 ≤ 140737488355328 := by omega
      have f10 : na + nb ≤ 4611686018427387904 := by omega
      have f11 : ∀ l : List Pk, l.length ≤ na → krows (l.take na) = krows l := fun l h => by rw [List.take_of_length_le h]
      simp only [RB, pickV, eqbV, notV, negV, convV, faddrV, fldV, idxV, eqaggV, iaddrV, isnilV, nilckV, cloV, extrV, slenV, minV, sidxV, abin, cmpInt, params, growLists, fillCells, newAt, rdPtr, wrPtr, AV.cells, asVal, lenOf, boundOf, rowsOf, argIds, freshIn, scalar1, setAll, AV.isData, AV.isYld, Nat.reduceAdd, Nat.reduceMul, Nat.reduceSub, Nat.reduceEqDiff, Nat.reduceLeDiff, Nat.reduceLT, Int.reduceNeg, ↓reduceIte, reduceCtorEq, Int.reduceEq, Int.reduceLT, Int.reduceLE, Int.reduceBEq, Int.reduceBNe, Int.reduceToNat, IntKind.bits, Int.reduceAdd, Int.reduceSub, Int.reduceMul, Int.reduceTDiv, Int.reduceTMod, DB, DB2, DB3, R7B, take_add, List.append_assoc, List.length_append, Nat.add_assoc, shrink_lit, ball_app, RG, LPB, h2, h14, h3, bne_self_eq_false, ua, ub, krows_len, aslice, krows_fits a ua1, krows_fits b ub1, ua1, ub1, f2, f3, krows_take, krows_fit, O_buildSlq, quietOk, aop_buildSl, fillRows, asData, aappend, f7, f8, f9, f10, l1, l2, pairOk, AV.ids, List.contains_cons, List.contains_nil, Nat.reduceBEq, List.all_cons, List.all_nil, Bool.or_self, Bool.not_false, Bool.and_self, Bool.or_false, List.take_take, Nat.min_self, krows_append]
      generalize hL : a.take na ++ b.take nb = L at *
      have hn : L.length = na + nb := by rw [← hL]; simp [l1, l2]
      rw [← hn]
      refine (W_rec2 (β := AV) (ι := {s : Nat × (List Cd × Cnt) × (List Cd × Cnt) × (List Cd × Cnt) // ∃ m n : Int, Apart x s.2.1 s.2.2.1 s.2.2.2 m n ∧ m + n ≤ s.1}) (M := fun s => [(1, .ro (krows a)), (3, .ptr 0 0 0 0), (7, .ptr 1 0 0 0), (9, .ptr 3 0 0 0), (10, .ptr 4 0 0 0), (51, .lis 6 1 0 L.length), (52, .int .i64 (L.length : Int)), (53, .int .i64 (s.1.1 : Int))])
        (H := fun s => ⟨[.box 0 30 [.ro (rrows x)], .box 0 27 (.ro (drows s.1.2.1.1) :: nav s.1.2.1.2), .lst 0 0 60 20 [], .box 0 27 (.ro (drows s.1.2.2.1.1) :: nav s.1.2.2.1.2), .box 0 27 (.ro (drows s.1.2.2.2.1) :: nav s.1.2.2.2.2), .dead, .lst 0 1 35 18 (krows L), .dead], []⟩)
        (r := fun _ => some (AV.bool true)) (μ := fun s => L.length - s.1.1) (fun s => ?_) (fun s ih => ?_) ⟨(0, (zeroS x, zerN), (zeroS x, zerN), (zeroS x, zerN)), 0, 0, Apart.zero h3, by simp⟩ rfl rfl)
      · simp [LPB, nav_below]
      · obtain ⟨⟨k, o, t, al⟩, m, n, hA, hmn⟩ := s
        simp only at hA hmn ih ⊢
        have e1 : o.1.length = x.length := by simpa using congrArg List.length hA.mo
        have e2 : t.1.length = x.length := by simpa using congrArg List.length hA.mt
        have e3 : al.1.length = x.length := by simpa using congrArg List.length hA.ma
        have hh := hA.h0
        by_cases hk : k < L.length
        · have g1 : (k : Int) < (L.length : Int) := by omega
          have g2 : (0 : Int) ≤ (k : Int) := by omega
          have g6 : IntKind.i64.wrap ((k : Int) + 1) = ((k + 1 : Nat) : Int) := by rw [IntWalk.i64_in _ (by omega)] <;> omega
          have g7 := krows_get L hk
          have hpos : 0 ≤ (kow L k).b := hLp _ (List.mem_of_getElem? (kow_some L hk))
          have hb1 : 0 ≤ (kow L k).b.tmod 1099511627776 := Int.tmod_nonneg _ hpos
          have hb2 : (kow L k).b.tmod 1099511627776 < 1099511627776 := Int.tmod_lt_of_pos _ (by decide)
          generalize hc : (kow L k).b.tmod 1099511627776 = c at *
          have pA := e12 al.1 al.2 x (kow L k).adr c (by omega) hx
          have pO := e12 o.1 o.2 x (kow L k).adr c (by omega) hx
          have pT := e12 t.1 t.2 x (kow L k).adr c (by omega) hx
          rw [passS_ok (hA.talA h3) h3 hA.ma (by omega)] at pA
          rw [passS_ok (hA.talO h3) h3 hA.mo (by omega)] at pO
          rw [passS_ok (hA.talT h3) h3 hA.mt (by omega)] at pT
          by_cases hd : AddrOk (kow L k).adr
          · rw [if_pos hd] at pA pO pT
            unfold tupS at pA pO pT
            simp only at pA pO pT
            by_cases hi : (k : Int) < (na : Int)
            · have ih := ih ⟨(k + 1, give1 x (kow L k).adr c o, t, give1 x (kow L k).adr c al), m + 1, n, hA.pass _ ⟨hb1, hb2⟩ (by omega), by simp only; omega⟩ (by simp only; omega)
              simp only at ih
              simp only [RB, pickV, eqbV, notV, negV, convV, faddrV, fldV, idxV, eqaggV, iaddrV, isnilV, nilckV, cloV, extrV, slenV, minV, sidxV, abin, cmpInt, params, growLists, fillCells, newAt, rdPtr, wrPtr, AV.cells, asVal, lenOf, boundOf, rowsOf, argIds, freshIn, scalar1, setAll, AV.isData, AV.isYld, Nat.reduceAdd, Nat.reduceMul, Nat.reduceSub, Nat.reduceEqDiff, Nat.reduceLeDiff, Nat.reduceLT, Int.reduceNeg, ↓reduceIte, reduceCtorEq, Int.reduceEq, Int.reduceLT, Int.reduceLE, Int.reduceBEq, Int.reduceBNe, Int.reduceToNat, IntKind.bits, Int.reduceAdd, Int.reduceSub, Int.reduceMul, Int.reduceTDiv, Int.reduceTMod, DB, DB2, DB3, R7B, take_add, List.append_assoc, List.length_append, Nat.add_assoc, shrink_lit, ball_app, RG, LPB, g1, g2, g6, g7, lisFits, kv_len, kv_p, kv_a, kv_b, kv_o, kv_ob, kv_below, hc, pA, pO, bne_self_eq_false, krows_len, ua, hi, hk]
              exact ih
            · have ih := ih ⟨(k + 1, o, give1 x (kow L k).adr c t, give1 x (kow L k).adr c al), m, n + 1, (hA.swap.pass _ ⟨hb1, hb2⟩ (by omega)).swap, by simp only; omega⟩ (by simp only; omega)
              simp only at ih
              simp only [RB, pickV, eqbV, notV, negV, convV, faddrV, fldV, idxV, eqaggV, iaddrV, isnilV, nilckV, cloV, extrV, slenV, minV, sidxV, abin, cmpInt, params, growLists, fillCells, newAt, rdPtr, wrPtr, AV.cells, asVal, lenOf, boundOf, rowsOf, argIds, freshIn, scalar1, setAll, AV.isData, AV.isYld, Nat.reduceAdd, Nat.reduceMul, Nat.reduceSub, Nat.reduceEqDiff, Nat.reduceLeDiff, Nat.reduceLT, Int.reduceNeg, ↓reduceIte, reduceCtorEq, Int.reduceEq, Int.reduceLT, Int.reduceLE, Int.reduceBEq, Int.reduceBNe, Int.reduceToNat, IntKind.bits, Int.reduceAdd, Int.reduceSub, Int.reduceMul, Int.reduceTDiv, Int.reduceTMod, DB, DB2, DB3, R7B, take_add, List.append_assoc, List.length_append, Nat.add_assoc, shrink_lit, ball_app, RG, LPB, g1, g2, g6, g7, lisFits, kv_len, kv_p, kv_a, kv_b, kv_o, kv_ob, kv_below, hc, pA, pT, bne_self_eq_false, krows_len, ua, hi, hk]
              exact ih
          · rw [if_neg hd] at pA
            unfold tupS at pA
            simp only at pA
            have ih := ih ⟨(k + 1, o, t, al), m, n, hA, by simp only; omega⟩ (by simp only; omega)
            simp only at ih
            simp only [RB, pickV, eqbV, notV, negV, convV, faddrV, fldV, idxV, eqaggV, iaddrV, isnilV, nilckV, cloV, extrV, slenV, minV, sidxV, abin, cmpInt, params, growLists, fillCells, newAt, rdPtr, wrPtr, AV.cells, asVal, lenOf, boundOf, rowsOf, argIds, freshIn, scalar1, setAll, AV.isData, AV.isYld, Nat.reduceAdd, Nat.reduceMul, Nat.reduceSub, Nat.reduceEqDiff, Nat.reduceLeDiff, Nat.reduceLT, Int.reduceNeg, ↓reduceIte, reduceCtorEq, Int.reduceEq, Int.reduceLT, Int.reduceLE, Int.reduceBEq, Int.reduceBNe, Int.reduceToNat, IntKind.bits, Int.reduceAdd, Int.reduceSub, Int.reduceMul, Int.reduceTDiv, Int.reduceTMod, DB, DB2, DB3, R7B, take_add, List.append_assoc, List.length_append, Nat.add_assoc, shrink_lit, ball_app, RG, LPB, g1, g2, g6, g7, lisFits, kv_len, kv_p, kv_a, kv_b, kv_o, kv_ob, kv_below, hc, pA, krows_len, hk]
            exact ih
        · have q1 := e23 o.1 t.1 o.2 t.2 (by omega) (by omega)
          rw [hA.join h3] at q1
          have q2 := e23 t.1 o.1 t.2 o.2 (by omega) (by omega)
          rw [hA.swap.join h3] at q2
          have q3 := e24 al.1 o.1 al.2 o.2 (by omega) (by omega)
          rw [hA.since h3] at q3
          have q4 := e27 al.1 al.1 al.2 al.2 (by omega)
          have q5 := e27 t.1 t.1 t.2 t.2 (by omega)
          unfold tupS at q1 q2 q3
          simp only at q1 q2 q3
          simp only [RB, pickV, eqbV, notV, negV, convV, faddrV, fldV, idxV, eqaggV, iaddrV, isnilV, nilckV, cloV, extrV, slenV, minV, sidxV, abin, cmpInt, params, growLists, fillCells, newAt, rdPtr, wrPtr, AV.cells, asVal, lenOf, boundOf, rowsOf, argIds, freshIn, scalar1, setAll, AV.isData, AV.isYld, Nat.reduceAdd, Nat.reduceMul, Nat.reduceSub, Nat.reduceEqDiff, Nat.reduceLeDiff, Nat.reduceLT, Int.reduceNeg, ↓reduceIte, reduceCtorEq, Int.reduceEq, Int.reduceLT, Int.reduceLE, Int.reduceBEq, Int.reduceBNe, Int.reduceToNat, IntKind.bits, Int.reduceAdd, Int.reduceSub, Int.reduceMul, Int.reduceTDiv, Int.reduceTMod, DB, DB2, DB3, R7B, take_add, List.append_assoc, List.length_append, Nat.add_assoc, shrink_lit, ball_app, RG, LPB, show ¬ (k : Int) < (L.length : Int) by omega, q1, q2, q3, q4, q5]
    · rw [if_neg h3] at h14
      simp only [RB, pickV, eqbV, notV, negV, convV, faddrV, fldV, idxV, eqaggV, iaddrV, isnilV, nilckV, cloV, extrV, slenV, minV, sidxV, abin, cmpInt, params, growLists, fillCells, newAt, rdPtr, wrPtr, AV.cells, asVal, lenOf, boundOf, rowsOf, argIds, freshIn, scalar1, setAll, AV.isData, AV.isYld, Nat.reduceAdd, Nat.reduceMul, Nat.reduceSub, Nat.reduceEqDiff, Nat.reduceLeDiff, Nat.reduceLT, Int.reduceNeg, ↓reduceIte, reduceCtorEq, Int.reduceEq, Int.reduceLT, Int.reduceLE, Int.reduceBEq, Int.reduceBNe, Int.reduceToNat, IntKind.bits, Int.reduceAdd, Int.reduceSub, Int.reduceMul, Int.reduceTDiv, Int.reduceTMod, DB, DB2, DB3, R7B, take_add, List.append_assoc, List.length_append, Nat.add_assoc, shrink_lit, ball_app, RG, LPB, h2, h14, h26, h3]
end Go.Proofs.YtdllnneeopbmdaaDoor.F

/- Rows of packets that are read. No condition. -/
set_option linter.unusedSimpArgs false
set_option maxRecDepth 20000
namespace Go.Proofs.YtdllnneeopbmdaaDoor.D
open Go Go.RowKit Go.Proofs.YtdllnneeopbmdaaDoor.A Go.Proofs.YtdllnneeopbmdaaDoor.J
theorem fits_pk {cs : List Value} (h : Fits (.i .i64 :: (k8 ++ [.i .u64])) cs) : ∃ p : Pk, cs.map avOf = kv p ∧ 0 ≤ p.b := by
  match cs, h with
  | c :: cs, ⟨⟨n, hc, hn⟩, h2⟩ =>
    subst hc
    obtain ⟨a, b, rfl, h3, h4⟩ := fits_split k8 [.i .u64] cs h2
    clear h2
    obtain ⟨b16, hb⟩ := fits_b16 h3
    obtain ⟨d, rfl⟩ := List.length_eq_one_iff.1 h4.length.symm
    obtain ⟨⟨m, hd, hm⟩, _⟩ := h4
    subst hd
    have hm' : 0 ≤ m ∧ m ≤ 18446744073709551615 := by simp [Lit.wf] at hm; exact hm
    exact ⟨⟨⟨n, b16⟩, m⟩, by simp only [List.map_cons, List.map_append, hb, avOf, kv, kav, aav, List.map_nil, List.cons_append], hm'.1⟩
end Go.Proofs.YtdllnneeopbmdaaDoor.D
