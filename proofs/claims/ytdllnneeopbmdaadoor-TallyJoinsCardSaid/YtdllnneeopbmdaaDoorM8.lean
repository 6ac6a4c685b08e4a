/- Part 8 of the proofs of these statements. No condition. -/
import Derived.Test.YtdllnneeopbmdaaDoorM7
set_option linter.unusedVariables false
set_option linter.unusedSimpArgs false
/- Tallies and packets that are read. No condition. -/
set_option linter.unusedSimpArgs false
set_option maxRecDepth 20000
namespace Go.Proofs.YtdllnneeopbmdaaDoor.D
open Go Go.RowKit Go.Proofs.YtdllnneeopbmdaaDoor.A Go.Proofs.YtdllnneeopbmdaaDoor.J
variable {w : World} {P : Program} {t : TypeId} {v : Value}
theorem fits_cd {cs : List Value} (h : Fits (.i .i64 :: (k8 ++ [.i .i64, .i .u64, .i .u64])) cs) : ∃ r : Cd, cs.map avOf = dav r ∧ True := by
  match cs, h with
  | c :: cs, ⟨⟨n, hc, hn⟩, h2⟩ =>
    subst hc
    obtain ⟨a, b, rfl, h3, h4⟩ := fits_split k8 [.i .i64, .i .u64, .i .u64] cs h2
    clear h2
    obtain ⟨b16, hb⟩ := fits_b16 h3
    obtain ⟨d, e, f, rfl⟩ : ∃ d e f, b = [d, e, f] := by
      have h5 := h4.length
      match b, h5 with
      | [d, e, f], _ => exact ⟨d, e, f, rfl⟩
    obtain ⟨⟨m, hd, hm⟩, ⟨o, he, ho⟩, ⟨q, hf, hq⟩, _⟩ := h4
    subst hd; subst he; subst hf
    exact ⟨⟨⟨⟨n, b16⟩, m⟩, ⟨o, q⟩⟩, by simp only [List.map_cons, List.map_append, hb, avOf, dav, nav, List.map_nil], trivial⟩
theorem fits_pkt {cs : List Value} (h : Fits (.i .i64 :: (k8 ++ [.i .u64])) cs) : ∃ (a : Adr) (b : Int), cs.map avOf = kav a b := by
  match cs, h with
  | c :: cs, ⟨⟨n, hc, hn⟩, h2⟩ =>
    subst hc
    obtain ⟨a, b, rfl, h3, h4⟩ := fits_split k8 [.i .u64] cs h2
    clear h2
    obtain ⟨b16, hb⟩ := fits_b16 h3
    obtain ⟨d, rfl⟩ := List.length_eq_one_iff.1 h4.length.symm
    obtain ⟨⟨m, hd, hm⟩, _⟩ := h4
    subst hd
    exact ⟨⟨n, b16⟩, m, by simp only [List.map_cons, List.map_append, hb, avOf, kav, aav, List.map_nil, List.cons_append]⟩
theorem reads_pkt {fs : Array Field} {n : Nat} (h : Reads P w t v) (ht : P.underlying t = some (.struct fs)) (hf : flat P n t = some (.i .i64 :: (k8 ++ [.i .u64]))) : ∃ (a : Adr) (b : Int), Rep w (Old w) [] [] [] (.agg (kav a b)) v := by
  obtain ⟨cs, h1, h2⟩ := reads_flat h ht hf
  obtain ⟨a, b, h3⟩ := fits_pkt h1
  exact ⟨a, b, h3 ▸ h2⟩
theorem reads_tal {e ts tn : TypeId} {f g : Field} {n m : Nat} (h : Reads P w t v) (ht : P.underlying t = some (.struct #[f, g])) (hf0 : f.offset = 0) (hft : f.type = ts) (hg1 : g.offset = 1) (hgt : g.type = tn) (hc : P.cellsOf t = 3) (hcs : P.cellsOf ts = 1) (hcn : P.cellsOf tn = 2)
    (hts : P.underlying ts = some (.slice e)) (hk : 20 = P.cellsOf e) (hfe : flat P n e = some (.i .i64 :: (k8 ++ [.i .i64, .i .u64, .i .u64]))) (hfn : flat P m tn = some [.i .u64, .i .u64]) :
    ∃ (l : List Cd) (c : Cnt), l.length ≤ 9223372036854775807 ∧ Rep w (Old w) [] [] [] (.agg (.ro (drows l) :: nav c)) v := by
  obtain ⟨cs, rfl, hr⟩ := h.agg ht
  obtain ⟨h1, h2⟩ := hr.struct ht
  rw [hc] at h1
  obtain ⟨c, d1, d2, rfl⟩ : ∃ c d1 d2, cs = [c, d1, d2] := by
    match cs, h1 with
    | [c, d1, d2], _ => exact ⟨c, d1, d2, rfl⟩
  have h3 := h2 f (by simp)
  rw [hf0, hft, hcs] at h3
  have h4 := (h2 g (by simp))
  rw [hg1, hgt, hcn] at h4
  have h5 := h4.flat hfn
  simp only [List.drop_succ_cons, List.drop_zero, List.take_succ_cons, List.take_zero] at h5 h3
  obtain ⟨⟨x, hx, _⟩, ⟨y, hy, _⟩, _⟩ := h5
  subst hx; subst hy
  obtain ⟨a, cap, css, k4, k5, k6, k7, k8'⟩ := h3.slice hts hk (by decide)
  simp at k4
  subst k4
  obtain ⟨l, h9, h10, h11⟩ := rdc_slice (by decide) k5 k7 k8' hfe (fun cs h => fits_cd h)
  refine ⟨l, ⟨x, y⟩, by have := maxLen_le; omega, .agg _ _ (by simp [nav]) (by simp [Value.oneCell']) fun i z u hz hu => ?_⟩
  match i with
  | 0 => simp at hz hu; subst hz; subst hu; exact h11
  | 1 => simp [nav] at hz hu; subst hz; subst hu; exact .int _ _
  | 2 => simp [nav] at hz hu; subst hz; subst hu; exact .int _ _
  | i + 3 => simp [nav] at hz
end Go.Proofs.YtdllnneeopbmdaaDoor.D

/- Two tables that are read. No condition. -/
set_option linter.unusedSimpArgs false
set_option maxRecDepth 20000
namespace Go.Proofs.YtdllnneeopbmdaaDoor.D
open Go Go.RowKit Go.Proofs.YtdllnneeopbmdaaDoor.A Go.Proofs.YtdllnneeopbmdaaDoor.J
variable {w : World} {P : Program} {t : TypeId} {v : Value}
/-- A table within a struct: one cell. -/
theorem rdc_tab {tt ts e : TypeId} {f : Field} {n : Nat} {c : Value} (h : RdC P w tt [c]) (ht : P.underlying tt = some (.struct #[f])) (h0 : f.offset = 0) (hft : f.type = ts) (hcs : P.cellsOf ts = 1) (hts : P.underlying ts = some (.slice e)) (hk : 19 = P.cellsOf e) (hfe : flat P n e = some (.i .i64 :: (k8 ++ [.i .i64, .i .i64]))) :
    ∃ (l : List Rw) (u : Value), c = u ∧ u.oneCell' = true ∧ Rep w (Old w) [] [] [] (.ro (rrows l)) u := by
  have h1 := (h.struct ht).2 f (by simp)
  rw [h0, hft, hcs] at h1
  simp only [List.drop_zero, List.take_succ_cons, List.take_zero] at h1
  obtain ⟨a, cap, css, k4, k5, k6, k7, k8'⟩ := h1.slice hts hk (by decide)
  simp at k4
  subst k4
  obtain ⟨l, h9, h10, h11⟩ := rdc_slice (by decide) k5 k7 k8' hfe (fun cs h => fits_rw h)
  exact ⟨l, _, rfl, rfl, h11⟩
theorem reads_tabs {e ts tt : TypeId} {f g i : Field} {n : Nat} (h : Reads P w t v) (ht : P.underlying t = some (.struct #[f, g])) (hf0 : f.offset = 0) (hft : f.type = tt) (hg1 : g.offset = 1) (hgt : g.type = tt) (hc : P.cellsOf t = 2) (hct : P.cellsOf tt = 1)
    (htt : P.underlying tt = some (.struct #[i])) (hi0 : i.offset = 0) (hit : i.type = ts) (hcs : P.cellsOf ts = 1) (hts : P.underlying ts = some (.slice e)) (hk : 19 = P.cellsOf e) (hfe : flat P n e = some (.i .i64 :: (k8 ++ [.i .i64, .i .i64]))) :
    ∃ x y : List Rw, Rep w (Old w) [] [] [] (.agg [.ro (rrows x), .ro (rrows y)]) v := by
  obtain ⟨cs, rfl, hr⟩ := h.agg ht
  obtain ⟨h1, h2⟩ := hr.struct ht
  rw [hc] at h1
  obtain ⟨c, d, rfl⟩ : ∃ c d, cs = [c, d] := by
    match cs, h1 with
    | [c, d], _ => exact ⟨c, d, rfl⟩
  have h3 := h2 f (by simp)
  rw [hf0, hft, hct] at h3
  have h4 := (h2 g (by simp))
  rw [hg1, hgt, hct] at h4
  simp only [List.drop_succ_cons, List.drop_zero, List.take_succ_cons, List.take_zero] at h3 h4
  obtain ⟨x, u, rfl, o1, r1⟩ := rdc_tab h3 htt hi0 hit hcs hts hk hfe
  obtain ⟨y, u', rfl, o2, r2⟩ := rdc_tab h4 htt hi0 hit hcs hts hk hfe
  refine ⟨x, y, .agg _ _ rfl (by simp [o1, o2]) fun i z u hz hu => ?_⟩
  match i with
  | 0 => simp at hz hu; subst hz; subst hu; exact r1
  | 1 => simp at hz hu; subst hz; subst hu; exact r2
  | i + 2 => simp at hz
end Go.Proofs.YtdllnneeopbmdaaDoor.D

/- Two tallies, made one: what is done to counts. No condition. -/
set_option linter.unusedSimpArgs false
namespace Go.Proofs.YtdllnneeopbmdaaDoor.D
open Go Go.Proofs.YtdllnneeopbmdaaDoor.A
def lessN (c d : Cnt) : Cnt := ⟨IntKind.u64.wrap (c.pk - d.pk), IntKind.u64.wrap (c.by' - d.by')⟩
def Bel (c d : Cnt) : Prop := c.pk ≤ d.pk ∧ c.by' ≤ d.by'
instance {c d : Cnt} : Decidable (Bel c d) := by unfold Bel; infer_instance
theorem dof_iff {a b : List Cd} (h : a.length = b.length) : AllF (fun i => (dow a i).p = (dow b i).p) a.length 0 ↔ a.map Cd.p = b.map Cd.p := by
  constructor
  · intro H
    refine List.ext_getElem? fun i => ?_
    rw [List.getElem?_map, List.getElem?_map]
    by_cases hi : i < a.length
    · rw [dow_some a hi, dow_some b (by omega)]
      simp [H i (Nat.zero_le _) hi]
    · rw [List.getElem?_eq_none (by omega), List.getElem?_eq_none (by omega)]
  · intro H i _ hi
    have := congrArg (·[i]?) H
    simp only [List.getElem?_map, dow_some a hi, dow_some b (show i < b.length by omega)] at this
    simpa using this
/-- Rows of both, and what is carried along. -/
def bothR (mk : Cnt → Cnt → Cnt) (a b : List Cd) (k : Nat) : List Cd := (List.range k).map fun i => ⟨(dow a i).p, mk (dow a i).c (dow b i).c⟩
def bothF (st : Bool → Cnt → Cnt → Bool) (a b : List Cd) (s : Bool) (k : Nat) : Bool := (List.range k).foldl (fun s i => st s (dow a i).c (dow b i).c) s
theorem bothR_len (mk : Cnt → Cnt → Cnt) (a b : List Cd) (k : Nat) : (bothR mk a b k).length = k := by simp [bothR]
theorem bothR_succ (mk : Cnt → Cnt → Cnt) (a b : List Cd) (k : Nat) : bothR mk a b (k + 1) = bothR mk a b k ++ [⟨(dow a k).p, mk (dow a k).c (dow b k).c⟩] := by simp [bothR, List.range_succ]
theorem bothF_succ (st : Bool → Cnt → Cnt → Bool) (a b : List Cd) (s : Bool) (k : Nat) : bothF st a b s (k + 1) = st (bothF st a b s k) (dow a k).c (dow b k).c := by simp [bothF, List.range_succ]
end Go.Proofs.YtdllnneeopbmdaaDoor.D
namespace Go.Proofs.YtdllnneeopbmdaaDoor.F
open Go Go.Proofs.YtdllnneeopbmdaaDoor.A Go.Proofs.YtdllnneeopbmdaaDoor.D
theorem r84 {ys : List Hd} {pend : List (Option AExit)} (bs : List Blk) (r : Cd) (x : Cd) : ∃ e, LR E ys 84 [.agg (dav r), .agg (dav x)] ⟨bs, pend⟩ = some (.bool (decide (r.p = x.p)), ⟨bs ++ e, pend⟩) := by
  refine ⟨[.box 0 60 (dav r), .box 0 60 (dav x)], ?_⟩
  rw [LR_R (fn := f84) rfl rfl rfl]
  simp only [f84, RB, pickV, eqbV, notV, negV, convV, faddrV, fldV, idxV, eqaggV, iaddrV, isnilV, nilckV, cloV, extrV, slenV, minV, sidxV, abin, cmpInt, params, growLists, fillCells, newAt, rdPtr, wrPtr, AV.cells, asVal, lenOf, boundOf, rowsOf, argIds, freshIn, scalar1, setAll, AV.isData, AV.isYld, Nat.reduceAdd, Nat.reduceMul, Nat.reduceSub, Nat.reduceEqDiff, Nat.reduceLeDiff, Nat.reduceLT, Int.reduceNeg, ↓reduceIte, reduceCtorEq, Int.reduceEq, Int.reduceLT, Int.reduceLE, Int.reduceBEq, Int.reduceBNe, Int.reduceToNat, IntKind.bits, Int.reduceAdd, Int.reduceSub, Int.reduceMul, Int.reduceTDiv, Int.reduceTMod, DB, DB2, DB3, R7B]
theorem r83 {ys : List Hd} {bs : List Blk} {pend : List (Option AExit)} {a : List Cd} {b : List Cd} (ha : a.length ≤ 4611686018427387904) (hlow : belowAll bs.length bs = true) :
    ∃ e, LR E ys 83 [.ro (drows a), .ro (drows b), .clo 84 []] ⟨bs, pend⟩ = some (.bool (decide (a.map Cd.p = b.map Cd.p)), ⟨bs ++ e, pend⟩) := by
  rw [LR_R (fn := f83) rfl rfl rfl]
  simp only [f83, ← nav_zer, ← dav_zer, ← rav_zer, RB, pickV, eqbV, notV, negV, convV, faddrV, fldV, idxV, eqaggV, iaddrV, isnilV, nilckV, cloV, extrV, slenV, minV, sidxV, abin, cmpInt, params, growLists, fillCells, newAt, rdPtr, wrPtr, AV.cells, asVal, lenOf, boundOf, rowsOf, argIds, freshIn, scalar1, setAll, AV.isData, AV.isYld, Nat.reduceAdd, Nat.reduceMul, Nat.reduceSub, Nat.reduceEqDiff, Nat.reduceLeDiff, Nat.reduceLT, Int.reduceNeg, ↓reduceIte, reduceCtorEq, Int.reduceEq, Int.reduceLT, Int.reduceLE, Int.reduceBEq, Int.reduceBNe, Int.reduceToNat, IntKind.bits, Int.reduceAdd, Int.reduceSub, Int.reduceMul, Int.reduceTDiv, Int.reduceTMod, DB, DB2, DB3]
  by_cases hl : a.length = b.length
  · simp only [RB, pickV, eqbV, notV, negV, convV, faddrV, fldV, idxV, eqaggV, iaddrV, isnilV, nilckV, cloV, extrV, slenV, minV, sidxV, abin, cmpInt, params, growLists, fillCells, newAt, rdPtr, wrPtr, AV.cells, asVal, lenOf, boundOf, rowsOf, argIds, freshIn, scalar1, setAll, AV.isData, AV.isYld, Nat.reduceAdd, Nat.reduceMul, Nat.reduceSub, Nat.reduceEqDiff, Nat.reduceLeDiff, Nat.reduceLT, Int.reduceNeg, ↓reduceIte, reduceCtorEq, Int.reduceEq, Int.reduceLT, Int.reduceLE, Int.reduceBEq, Int.reduceBNe, Int.reduceToNat, IntKind.bits, Int.reduceAdd, Int.reduceSub, Int.reduceMul, Int.reduceTDiv, Int.reduceTMod, DB, DB2, DB3, hl, bne_self_eq_false]
    have hq : decide (a.map Cd.p = b.map Cd.p) = decide (AllF (fun i => (dow a i).p = (dow b i).p) a.length 0) := decide_eq_decide.2 (dof_iff hl).symm
    rw [hq]
    refine W_recP2 (ι := Nat) (M := fun k => [(1, .ro (drows b)), (2, .clo 84 []), (15, .ro (drows a)), (16, .int .i64 (b.length : Int)), (17, .int .i64 (k : Int))]) (H := fun _ => ⟨bs, pend⟩) (Q := fun k x => ∃ e, x = some ((AV.bool (decide (AllF (fun i => (dow a i).p = (dow b i).p) a.length k)), ⟨bs ++ e, pend⟩) : AV × Hp)) (μ := fun k => a.length - k) (fun i => ?_) (fun k ih => ?_) 0 rfl rfl
    · exact ⟨by simp only [List.map_cons, List.map_nil, LPB, Bool.and_self], hlow⟩
    · by_cases hk : k < a.length
      · have f1 : (k : Int) < (b.length : Int) := by omega
        have f2 : (0 : Int) ≤ (k : Int) := by omega
        have f6 : IntKind.i64.wrap ((k : Int) + 1) = ((k + 1 : Nat) : Int) := by rw [IntWalk.i64_in _ (by omega)] <;> omega
        have g1 := drows_get a hk
        have g2 := drows_get b (show k < b.length by omega)
        obtain ⟨ext, hpr⟩ := r84 (ys := ys) (pend := pend) (bs ++ [.box 0 60 (dav (dow a k)), .box 0 60 (dav (dow b k))]) (dow a k) (dow b k)
        have hsh : shrink false (bs.length + 2) (.bool (decide ((dow a k).p = (dow b k).p))) ⟨(bs ++ [.box 0 60 (dav (dow a k)), .box 0 60 (dav (dow b k))]) ++ ext, pend⟩ = some ⟨bs ++ [.box 0 60 (dav (dow a k)), .box 0 60 (dav (dow b k))], pend⟩ := shrink_app (by simp) rfl (by rw [ball_app, belowAll_mono (by omega) hlow]; simp [LPB, dav_below])
        simp only [List.append_assoc, List.cons_append, List.nil_append] at hpr hsh
        by_cases h : (dow a k).p = (dow b k).p
        · simp only [h, decide_true] at hpr hsh
          simp only [RB, pickV, eqbV, notV, negV, convV, faddrV, fldV, idxV, eqaggV, iaddrV, isnilV, nilckV, cloV, extrV, slenV, minV, sidxV, abin, cmpInt, params, growLists, fillCells, newAt, rdPtr, wrPtr, AV.cells, asVal, lenOf, boundOf, rowsOf, argIds, freshIn, scalar1, setAll, AV.isData, AV.isYld, Nat.reduceAdd, Nat.reduceMul, Nat.reduceSub, Nat.reduceEqDiff, Nat.reduceLeDiff, Nat.reduceLT, Int.reduceNeg, ↓reduceIte, reduceCtorEq, Int.reduceEq, Int.reduceLT, Int.reduceLE, Int.reduceBEq, Int.reduceBNe, Int.reduceToNat, IntKind.bits, Int.reduceAdd, Int.reduceSub, Int.reduceMul, Int.reduceTDiv, Int.reduceTMod, DB, DB2, DB3, R7B, take_add, List.append_assoc, List.length_append, Nat.add_assoc, shrink_lit, ball_app, RG, LPB, f1, f2, f6, g1, g2, hpr, hsh, take_at, List.take_left]
          simp only [AllF.next (Q := fun i => (dow a i).p = (dow b i).p) h]
          exact ih (k + 1) (by omega)
        · simp only [h, decide_false] at hpr hsh
          simp only [RB, pickV, eqbV, notV, negV, convV, faddrV, fldV, idxV, eqaggV, iaddrV, isnilV, nilckV, cloV, extrV, slenV, minV, sidxV, abin, cmpInt, params, growLists, fillCells, newAt, rdPtr, wrPtr, AV.cells, asVal, lenOf, boundOf, rowsOf, argIds, freshIn, scalar1, setAll, AV.isData, AV.isYld, Nat.reduceAdd, Nat.reduceMul, Nat.reduceSub, Nat.reduceEqDiff, Nat.reduceLeDiff, Nat.reduceLT, Int.reduceNeg, ↓reduceIte, reduceCtorEq, Int.reduceEq, Int.reduceLT, Int.reduceLE, Int.reduceBEq, Int.reduceBNe, Int.reduceToNat, IntKind.bits, Int.reduceAdd, Int.reduceSub, Int.reduceMul, Int.reduceTDiv, Int.reduceTMod, DB, DB2, DB3, R7B, take_add, List.append_assoc, List.length_append, Nat.add_assoc, shrink_lit, ball_app, RG, LPB, f1, f2, f6, g1, g2, hpr, hsh, List.take_left]
          rw [decide_eq_false (AllF.not hk h)]
          exact ⟨_, rfl⟩
      · simp only [RB, pickV, eqbV, notV, negV, convV, faddrV, fldV, idxV, eqaggV, iaddrV, isnilV, nilckV, cloV, extrV, slenV, minV, sidxV, abin, cmpInt, params, growLists, fillCells, newAt, rdPtr, wrPtr, AV.cells, asVal, lenOf, boundOf, rowsOf, argIds, freshIn, scalar1, setAll, AV.isData, AV.isYld, Nat.reduceAdd, Nat.reduceMul, Nat.reduceSub, Nat.reduceEqDiff, Nat.reduceLeDiff, Nat.reduceLT, Int.reduceNeg, ↓reduceIte, reduceCtorEq, Int.reduceEq, Int.reduceLT, Int.reduceLE, Int.reduceBEq, Int.reduceBNe, Int.reduceToNat, IntKind.bits, Int.reduceAdd, Int.reduceSub, Int.reduceMul, Int.reduceTDiv, Int.reduceTMod, DB, DB2, DB3, show ¬ (k : Int) < (b.length : Int) by omega, R7B]
        rw [decide_eq_true (AllF.done (by omega))]
        exact ⟨[], by rw [List.append_nil]⟩
  · simp only [RB, pickV, eqbV, notV, negV, convV, faddrV, fldV, idxV, eqaggV, iaddrV, isnilV, nilckV, cloV, extrV, slenV, minV, sidxV, abin, cmpInt, params, growLists, fillCells, newAt, rdPtr, wrPtr, AV.cells, asVal, lenOf, boundOf, rowsOf, argIds, freshIn, scalar1, setAll, AV.isData, AV.isYld, Nat.reduceAdd, Nat.reduceMul, Nat.reduceSub, Nat.reduceEqDiff, Nat.reduceLeDiff, Nat.reduceLT, Int.reduceNeg, ↓reduceIte, reduceCtorEq, Int.reduceEq, Int.reduceLT, Int.reduceLE, Int.reduceBEq, Int.reduceBNe, Int.reduceToNat, IntKind.bits, Int.reduceAdd, Int.reduceSub, Int.reduceMul, Int.reduceTDiv, Int.reduceTMod, DB, DB2, DB3, show ((a.length : Int) != (b.length : Int)) = true by rw [bne_iff_ne]; omega, R7B]
    rw [decide_eq_false fun h => hl (by simpa using congrArg List.length h)]
    exact ⟨[], by rw [List.append_nil]⟩
theorem e20 (c d : Cnt) : LV E 20 [.agg (nav c), .agg (nav d)] = some (.tup [.agg (nav (if NOk c ∧ NOk d then plusN c d else zerN)), .int .i64 (if NOk c ∧ NOk d then 0 else 2)]) := by
  rw [LV_R (fn := f20) rfl rfl rfl]
  simp only [f20, ← nav_zer, RB, pickV, eqbV, notV, negV, convV, faddrV, fldV, idxV, eqaggV, iaddrV, isnilV, nilckV, cloV, extrV, slenV, minV, sidxV, abin, cmpInt, params, growLists, fillCells, newAt, rdPtr, wrPtr, AV.cells, asVal, lenOf, boundOf, rowsOf, argIds, freshIn, scalar1, setAll, AV.isData, AV.isYld, Nat.reduceAdd, Nat.reduceMul, Nat.reduceSub, Nat.reduceEqDiff, Nat.reduceLeDiff, Nat.reduceLT, Int.reduceNeg, ↓reduceIte, reduceCtorEq, Int.reduceEq, Int.reduceLT, Int.reduceLE, Int.reduceBEq, Int.reduceBNe, Int.reduceToNat, IntKind.bits, Int.reduceAdd, Int.reduceSub, Int.reduceMul, Int.reduceTDiv, Int.reduceTMod, DB, DB2, DB3, e50]
  by_cases h1 : NOk c
  · by_cases h2 : NOk d
    · simp only [RB, pickV, eqbV, notV, negV, convV, faddrV, fldV, idxV, eqaggV, iaddrV, isnilV, nilckV, cloV, extrV, slenV, minV, sidxV, abin, cmpInt, params, growLists, fillCells, newAt, rdPtr, wrPtr, AV.cells, asVal, lenOf, boundOf, rowsOf, argIds, freshIn, scalar1, setAll, AV.isData, AV.isYld, Nat.reduceAdd, Nat.reduceMul, Nat.reduceSub, Nat.reduceEqDiff, Nat.reduceLeDiff, Nat.reduceLT, Int.reduceNeg, ↓reduceIte, reduceCtorEq, Int.reduceEq, Int.reduceLT, Int.reduceLE, Int.reduceBEq, Int.reduceBNe, Int.reduceToNat, IntKind.bits, Int.reduceAdd, Int.reduceSub, Int.reduceMul, Int.reduceTDiv, Int.reduceTMod, DB, DB2, DB3, e50, e51, h1, h2, expCell, List.nodup_cons, List.nodup_nil, List.not_mem_nil, not_false_eq_true, not_true_eq_false, and_true, and_false, if_false, List.mem_cons, mutIds]
    · simp only [RB, pickV, eqbV, notV, negV, convV, faddrV, fldV, idxV, eqaggV, iaddrV, isnilV, nilckV, cloV, extrV, slenV, minV, sidxV, abin, cmpInt, params, growLists, fillCells, newAt, rdPtr, wrPtr, AV.cells, asVal, lenOf, boundOf, rowsOf, argIds, freshIn, scalar1, setAll, AV.isData, AV.isYld, Nat.reduceAdd, Nat.reduceMul, Nat.reduceSub, Nat.reduceEqDiff, Nat.reduceLeDiff, Nat.reduceLT, Int.reduceNeg, ↓reduceIte, reduceCtorEq, Int.reduceEq, Int.reduceLT, Int.reduceLE, Int.reduceBEq, Int.reduceBNe, Int.reduceToNat, IntKind.bits, Int.reduceAdd, Int.reduceSub, Int.reduceMul, Int.reduceTDiv, Int.reduceTMod, DB, DB2, DB3, e50, e51, h1, h2, expCell, List.nodup_cons, List.nodup_nil, List.not_mem_nil, not_false_eq_true, not_true_eq_false, and_true, and_false, if_false, List.mem_cons, mutIds]
  · simp only [RB, pickV, eqbV, notV, negV, convV, faddrV, fldV, idxV, eqaggV, iaddrV, isnilV, nilckV, cloV, extrV, slenV, minV, sidxV, abin, cmpInt, params, growLists, fillCells, newAt, rdPtr, wrPtr, AV.cells, asVal, lenOf, boundOf, rowsOf, argIds, freshIn, scalar1, setAll, AV.isData, AV.isYld, Nat.reduceAdd, Nat.reduceMul, Nat.reduceSub, Nat.reduceEqDiff, Nat.reduceLeDiff, Nat.reduceLT, Int.reduceNeg, ↓reduceIte, reduceCtorEq, Int.reduceEq, Int.reduceLT, Int.reduceLE, Int.reduceBEq, Int.reduceBNe, Int.reduceToNat, IntKind.bits, Int.reduceAdd, Int.reduceSub, Int.reduceMul, Int.reduceTDiv, Int.reduceTMod, DB, DB2, DB3, e50, e51, h1, expCell, List.nodup_cons, List.nodup_nil, List.not_mem_nil, not_false_eq_true, not_true_eq_false, and_true, and_false, if_false, List.mem_cons, mutIds]
theorem e55 (c d : Cnt) : LV E 55 [.agg (nav c), .agg (nav d)] = some (.bool (decide (Bel c d))) := by
  rw [LV_R (fn := f55) rfl rfl rfl]
  simp only [f55, RB, pickV, eqbV, notV, negV, convV, faddrV, fldV, idxV, eqaggV, iaddrV, isnilV, nilckV, cloV, extrV, slenV, minV, sidxV, abin, cmpInt, params, growLists, fillCells, newAt, rdPtr, wrPtr, AV.cells, asVal, lenOf, boundOf, rowsOf, argIds, freshIn, scalar1, setAll, AV.isData, AV.isYld, Nat.reduceAdd, Nat.reduceMul, Nat.reduceSub, Nat.reduceEqDiff, Nat.reduceLeDiff, Nat.reduceLT, Int.reduceNeg, ↓reduceIte, reduceCtorEq, Int.reduceEq, Int.reduceLT, Int.reduceLE, Int.reduceBEq, Int.reduceBNe, Int.reduceToNat, IntKind.bits, Int.reduceAdd, Int.reduceSub, Int.reduceMul, Int.reduceTDiv, Int.reduceTMod, DB, DB2, DB3]
  by_cases h1 : c.pk ≤ d.pk
  · simp only [RB, pickV, eqbV, notV, negV, convV, faddrV, fldV, idxV, eqaggV, iaddrV, isnilV, nilckV, cloV, extrV, slenV, minV, sidxV, abin, cmpInt, params, growLists, fillCells, newAt, rdPtr, wrPtr, AV.cells, asVal, lenOf, boundOf, rowsOf, argIds, freshIn, scalar1, setAll, AV.isData, AV.isYld, Nat.reduceAdd, Nat.reduceMul, Nat.reduceSub, Nat.reduceEqDiff, Nat.reduceLeDiff, Nat.reduceLT, Int.reduceNeg, ↓reduceIte, reduceCtorEq, Int.reduceEq, Int.reduceLT, Int.reduceLE, Int.reduceBEq, Int.reduceBNe, Int.reduceToNat, IntKind.bits, Int.reduceAdd, Int.reduceSub, Int.reduceMul, Int.reduceTDiv, Int.reduceTMod, DB, DB2, DB3, h1]; simp [Bel, h1]
  · simp only [RB, pickV, eqbV, notV, negV, convV, faddrV, fldV, idxV, eqaggV, iaddrV, isnilV, nilckV, cloV, extrV, slenV, minV, sidxV, abin, cmpInt, params, growLists, fillCells, newAt, rdPtr, wrPtr, AV.cells, asVal, lenOf, boundOf, rowsOf, argIds, freshIn, scalar1, setAll, AV.isData, AV.isYld, Nat.reduceAdd, Nat.reduceMul, Nat.reduceSub, Nat.reduceEqDiff, Nat.reduceLeDiff, Nat.reduceLT, Int.reduceNeg, ↓reduceIte, reduceCtorEq, Int.reduceEq, Int.reduceLT, Int.reduceLE, Int.reduceBEq, Int.reduceBNe, Int.reduceToNat, IntKind.bits, Int.reduceAdd, Int.reduceSub, Int.reduceMul, Int.reduceTDiv, Int.reduceTMod, DB, DB2, DB3, h1]; simp [Bel, h1]
theorem r51 {ys : List Hd} {pend : List (Option AExit)} (bs : List Blk) (c d : Cnt) : ∃ e, LR E ys 51 [.agg (nav c), .agg (nav d)] ⟨bs, pend⟩ = some (.agg (nav (plusN c d)), ⟨bs ++ e, pend⟩) := by
  refine ⟨[.box 0 100 (nav c), .box 0 100 (nav d), .box 0 100 (nav (plusN c d))], ?_⟩
  rw [LR_R (fn := f51) rfl rfl rfl]
  simp only [f51, ← nav_zer, RB, pickV, eqbV, notV, negV, convV, faddrV, fldV, idxV, eqaggV, iaddrV, isnilV, nilckV, cloV, extrV, slenV, minV, sidxV, abin, cmpInt, params, growLists, fillCells, newAt, rdPtr, wrPtr, AV.cells, asVal, lenOf, boundOf, rowsOf, argIds, freshIn, scalar1, setAll, AV.isData, AV.isYld, Nat.reduceAdd, Nat.reduceMul, Nat.reduceSub, Nat.reduceEqDiff, Nat.reduceLeDiff, Nat.reduceLT, Int.reduceNeg, ↓reduceIte, reduceCtorEq, Int.reduceEq, Int.reduceLT, Int.reduceLE, Int.reduceBEq, Int.reduceBNe, Int.reduceToNat, IntKind.bits, Int.reduceAdd, Int.reduceSub, Int.reduceMul, Int.reduceTDiv, Int.reduceTMod, DB, DB2, DB3, R7B, take_add, List.append_assoc, List.length_append, Nat.add_assoc, shrink_lit, ball_app, RG, LPB, plusN, min_sum, expCell, List.nodup_cons, List.nodup_nil, List.not_mem_nil, not_false_eq_true, not_true_eq_false, and_true, and_false, if_false, List.mem_cons, mutIds]
theorem r56 {ys : List Hd} {pend : List (Option AExit)} (bs : List Blk) (c d : Cnt) : ∃ e, LR E ys 56 [.agg (nav c), .agg (nav d)] ⟨bs, pend⟩ = some (.agg (nav (lessN c d)), ⟨bs ++ e, pend⟩) := by
  refine ⟨[.box 0 100 (nav c), .box 0 100 (nav d), .box 0 100 (nav (lessN c d))], ?_⟩
  rw [LR_R (fn := f56) rfl rfl rfl]
  simp only [f56, ← nav_zer, RB, pickV, eqbV, notV, negV, convV, faddrV, fldV, idxV, eqaggV, iaddrV, isnilV, nilckV, cloV, extrV, slenV, minV, sidxV, abin, cmpInt, params, growLists, fillCells, newAt, rdPtr, wrPtr, AV.cells, asVal, lenOf, boundOf, rowsOf, argIds, freshIn, scalar1, setAll, AV.isData, AV.isYld, Nat.reduceAdd, Nat.reduceMul, Nat.reduceSub, Nat.reduceEqDiff, Nat.reduceLeDiff, Nat.reduceLT, Int.reduceNeg, ↓reduceIte, reduceCtorEq, Int.reduceEq, Int.reduceLT, Int.reduceLE, Int.reduceBEq, Int.reduceBNe, Int.reduceToNat, IntKind.bits, Int.reduceAdd, Int.reduceSub, Int.reduceMul, Int.reduceTDiv, Int.reduceTMod, DB, DB2, DB3, R7B, take_add, List.append_assoc, List.length_append, Nat.add_assoc, shrink_lit, ball_app, RG, LPB, lessN, expCell, List.nodup_cons, List.nodup_nil, List.not_mem_nil, not_false_eq_true, not_true_eq_false, and_true, and_false, if_false, List.mem_cons, mutIds]
theorem r54 {ys : List Hd} {pend : List (Option AExit)} (bs : List Blk) {a : Nat} {s : Bool} (ha : bs[a]? = some (.box 0 4 [.bool s])) (c d : Cnt) : ∃ e, LR E ys 54 [.agg (nav c), .agg (nav d), .ptr a 0 0 0] ⟨bs, pend⟩ = some (.agg (nav c), ⟨bs.set a (.box 0 4 [.bool (s && decide (Bel c d))]) ++ e, pend⟩) := by
  have hA : ∀ r, (bs ++ r)[a]? = some (.box 0 4 [.bool s]) := fun r => get_lt ha
  have ia := (List.getElem?_eq_some_iff.1 ha).1
  have sA : ∀ r x, (bs ++ r).set a x = bs.set a x ++ r := fun r x => by rw [List.set_append_left _ _ ia]
  refine ⟨[.box 0 100 (nav c), .box 0 100 (nav d), .box 0 100 (nav c)], ?_⟩
  rw [LR_R (fn := f54) rfl rfl rfl]
  have hsl : ∀ x : Blk, (bs.set a x).length = bs.length := fun x => List.length_set
  cases s with
  | true => simp only [f54, ← nav_zer, RB, pickV, eqbV, notV, negV, convV, faddrV, fldV, idxV, eqaggV, iaddrV, isnilV, nilckV, cloV, extrV, slenV, minV, sidxV, abin, cmpInt, params, growLists, fillCells, newAt, rdPtr, wrPtr, AV.cells, asVal, lenOf, boundOf, rowsOf, argIds, freshIn, scalar1, setAll, AV.isData, AV.isYld, Nat.reduceAdd, Nat.reduceMul, Nat.reduceSub, Nat.reduceEqDiff, Nat.reduceLeDiff, Nat.reduceLT, Int.reduceNeg, ↓reduceIte, reduceCtorEq, Int.reduceEq, Int.reduceLT, Int.reduceLE, Int.reduceBEq, Int.reduceBNe, Int.reduceToNat, IntKind.bits, Int.reduceAdd, Int.reduceSub, Int.reduceMul, Int.reduceTDiv, Int.reduceTMod, DB, DB2, DB3, R7B, take_add, List.append_assoc, List.length_append, Nat.add_assoc, shrink_lit, ball_app, RG, LPB, hA, sA, hsl, e55, get_at (hsl _), set_at (hsl _), get_add (hsl _), set_add (hsl _)]
  | false => simp only [f54, ← nav_zer, RB, pickV, eqbV, notV, negV, convV, faddrV, fldV, idxV, eqaggV, iaddrV, isnilV, nilckV, cloV, extrV, slenV, minV, sidxV, abin, cmpInt, params, growLists, fillCells, newAt, rdPtr, wrPtr, AV.cells, asVal, lenOf, boundOf, rowsOf, argIds, freshIn, scalar1, setAll, AV.isData, AV.isYld, Nat.reduceAdd, Nat.reduceMul, Nat.reduceSub, Nat.reduceEqDiff, Nat.reduceLeDiff, Nat.reduceLT, Int.reduceNeg, ↓reduceIte, reduceCtorEq, Int.reduceEq, Int.reduceLT, Int.reduceLE, Int.reduceBEq, Int.reduceBNe, Int.reduceToNat, IntKind.bits, Int.reduceAdd, Int.reduceSub, Int.reduceMul, Int.reduceTDiv, Int.reduceTMod, DB, DB2, DB3, R7B, take_add, List.append_assoc, List.length_append, Nat.add_assoc, shrink_lit, ball_app, RG, LPB, hA, sA, hsl, e55, get_at (hsl _), set_at (hsl _), get_add (hsl _), set_add (hsl _)]
end Go.Proofs.YtdllnneeopbmdaaDoor.F

/- Two tallies, made one: Join. No condition. -/
set_option linter.unusedSimpArgs false
namespace Go.Proofs.YtdllnneeopbmdaaDoor.F
open Go Go.Proofs.YtdllnneeopbmdaaDoor.A Go.Proofs.YtdllnneeopbmdaaDoor.D
theorem r53a (a b : List Cd) (x y : Cnt) (R : List Cd) (z : Cnt) (s : Bool) (ha : a.length ≤ 1000000) (hb : b.length ≤ 1000000) (mk : Cnt → Cnt → Cnt) (st : Bool → Cnt → Cnt → Bool) (hcb : ∀ s ext c d, ∃ e, LR E [] 51 (.agg (nav c) :: .agg (nav d) :: []) ⟨[.box 0 27 (.ro (drows a) :: nav x), .box 0 27 (.ro (drows b) :: nav y), .box 0 27 (.lis 3 0 0 0 :: nav zerN), .lst 0 0 60 20 []] ++ ext, []⟩ = some (.agg (nav (mk c d)), ⟨(fun s : Bool => ([.box 0 27 (.ro (drows a) :: nav x), .box 0 27 (.ro (drows b) :: nav y), .box 0 27 (.lis 3 0 0 0 :: nav zerN), .lst 0 0 60 20 []] : List Blk)) (st s c d) ++ ext ++ e, []⟩)) :
    LR E [] 53 [.agg (.ro (drows a) :: nav x), .agg (.ro (drows b) :: nav y), .clo 51 []] ⟨[.box 0 27 (.ro (drows a) :: nav x), .box 0 27 (.ro (drows b) :: nav y), .box 0 27 (.lis 3 0 0 0 :: nav zerN), .lst 0 0 60 20 []], []⟩ = some (if TalOk a x ∧ TalOk b y then if a.map Cd.p = b.map Cd.p then
        (.tup [.agg (.lis 8 a.length 0 a.length :: nav (mk x y)), .int .i64 0], ⟨(fun s : Bool => ([.box 0 27 (.ro (drows a) :: nav x), .box 0 27 (.ro (drows b) :: nav y), .box 0 27 (.lis 3 0 0 0 :: nav zerN), .lst 0 0 60 20 []] : List Blk)) (bothF st a b (st s x y) a.length) ++ [.box 0 27 (.ro (drows a) :: nav x), .box 0 27 (.ro (drows b) :: nav y), .box 0 27 (.lis 8 a.length 0 a.length :: nav (mk x y)), .lst 0 0 60 20 [], .lst 0 a.length 60 20 (drows (bothR mk a b a.length)), .box 0 27 (.lis 8 a.length 0 a.length :: nav (mk x y)), .lst 0 0 60 20 []], []⟩)
      else (.tup [.agg (.lis 8 0 0 0 :: nav zerN), .int .i64 411], ⟨[.box 0 27 (.ro (drows a) :: nav x), .box 0 27 (.ro (drows b) :: nav y), .box 0 27 (.lis 3 0 0 0 :: nav zerN), .lst 0 0 60 20 []] ++ [.box 0 27 (.ro (drows a) :: nav x), .box 0 27 (.ro (drows b) :: nav y), .box 0 27 (.lis 8 0 0 0 :: nav zerN), .lst 0 0 60 20 [], .lst 0 0 60 20 []], []⟩)
      else (.tup [.agg (.lis 8 0 0 0 :: nav zerN), .int .i64 410], ⟨[.box 0 27 (.ro (drows a) :: nav x), .box 0 27 (.ro (drows b) :: nav y), .box 0 27 (.lis 3 0 0 0 :: nav zerN), .lst 0 0 60 20 []] ++ [.box 0 27 (.ro (drows a) :: nav x), .box 0 27 (.ro (drows b) :: nav y), .box 0 27 (.lis 8 0 0 0 :: nav zerN), .lst 0 0 60 20 [], .lst 0 0 60 20 []], []⟩)) := by
  rw [LR_R (fn := f53) rfl rfl rfl]
  have h1 := e31 a x (by omega)
  have h2 := e31 b y (by omega)
  simp only [f53, ← nav_zer, ← dav_zer, RB, pickV, eqbV, notV, negV, convV, faddrV, fldV, idxV, eqaggV, iaddrV, isnilV, nilckV, cloV, extrV, slenV, minV, sidxV, abin, cmpInt, params, growLists, fillCells, newAt, rdPtr, wrPtr, AV.cells, asVal, lenOf, boundOf, rowsOf, argIds, freshIn, scalar1, setAll, AV.isData, AV.isYld, Nat.reduceAdd, Nat.reduceMul, Nat.reduceSub, Nat.reduceEqDiff, Nat.reduceLeDiff, Nat.reduceLT, Int.reduceNeg, ↓reduceIte, reduceCtorEq, Int.reduceEq, Int.reduceLT, Int.reduceLE, Int.reduceBEq, Int.reduceBNe, Int.reduceToNat, IntKind.bits, Int.reduceAdd, Int.reduceSub, Int.reduceMul, Int.reduceTDiv, Int.reduceTMod, DB, DB2, DB3, R7B, h1]
  by_cases k1 : TalOk a x
  · by_cases k2 : TalOk b y
    · obtain ⟨e83, h83⟩ := r83 (ys := []) (pend := []) (bs := [.box 0 27 (.ro (drows a) :: nav x), .box 0 27 (.ro (drows b) :: nav y), .box 0 27 (.lis 3 0 0 0 :: nav zerN), .lst 0 0 60 20 []] ++ [.box 0 27 (.ro (drows a) :: nav x), .box 0 27 (.ro (drows b) :: nav y), .box 0 27 (.lis 7 0 0 0 :: nav zerN), .lst 0 0 60 20 []]) (a := a) (b := b) (by omega) (by simp [LPB, nav_below, drows])
      simp only [List.cons_append, List.nil_append] at h83
      simp only [RB, pickV, eqbV, notV, negV, convV, faddrV, fldV, idxV, eqaggV, iaddrV, isnilV, nilckV, cloV, extrV, slenV, minV, sidxV, abin, cmpInt, params, growLists, fillCells, newAt, rdPtr, wrPtr, AV.cells, asVal, lenOf, boundOf, rowsOf, argIds, freshIn, scalar1, setAll, AV.isData, AV.isYld, Nat.reduceAdd, Nat.reduceMul, Nat.reduceSub, Nat.reduceEqDiff, Nat.reduceLeDiff, Nat.reduceLT, Int.reduceNeg, ↓reduceIte, reduceCtorEq, Int.reduceEq, Int.reduceLT, Int.reduceLE, Int.reduceBEq, Int.reduceBNe, Int.reduceToNat, IntKind.bits, Int.reduceAdd, Int.reduceSub, Int.reduceMul, Int.reduceTDiv, Int.reduceTMod, DB, DB2, DB3, R7B, take_add, List.append_assoc, List.length_append, Nat.add_assoc, shrink_lit, ball_app, RG, LPB, k1, k2, h1, h2, h83, bne_self_eq_false]
      by_cases k3 : a.map Cd.p = b.map Cd.p
      · have hl : a.length = b.length := by simpa using congrArg List.length k3
        obtain ⟨e1, hc1⟩ := hcb s [.box 0 27 (.ro (drows a) :: nav x), .box 0 27 (.ro (drows b) :: nav y), .box 0 27 (.lis 7 0 0 0 :: nav zerN), .lst 0 0 60 20 [], .dead, .dead, .dead] x y
        simp only [List.cons_append, List.nil_append] at hc1
        simp only [RB, pickV, eqbV, notV, negV, convV, faddrV, fldV, idxV, eqaggV, iaddrV, isnilV, nilckV, cloV, extrV, slenV, minV, sidxV, abin, cmpInt, params, growLists, fillCells, newAt, rdPtr, wrPtr, AV.cells, asVal, lenOf, boundOf, rowsOf, argIds, freshIn, scalar1, setAll, AV.isData, AV.isYld, Nat.reduceAdd, Nat.reduceMul, Nat.reduceSub, Nat.reduceEqDiff, Nat.reduceLeDiff, Nat.reduceLT, Int.reduceNeg, ↓reduceIte, reduceCtorEq, Int.reduceEq, Int.reduceLT, Int.reduceLE, Int.reduceBEq, Int.reduceBNe, Int.reduceToNat, IntKind.bits, Int.reduceAdd, Int.reduceSub, Int.reduceMul, Int.reduceTDiv, Int.reduceTMod, DB, DB2, DB3, R7B, take_add, List.append_assoc, List.length_append, Nat.add_assoc, shrink_lit, ball_app, RG, LPB, k3, hc1]
        refine (W_rec2 (ι := {k : Nat // k ≤ a.length}) (M := fun k => [(2, .clo 51 []), (4, .ptr 5 0 0 0), (6, .ptr 6 0 0 0), (8, .ptr 9 0 0 0), (37, .ro (drows a)), (38, .int .i64 (a.length : Int)), (39, .int .i64 (k.1 : Int))])
          (H := fun k => ⟨(fun s : Bool => ([.box 0 27 (.ro (drows a) :: nav x), .box 0 27 (.ro (drows b) :: nav y), .box 0 27 (.lis 3 0 0 0 :: nav zerN), .lst 0 0 60 20 []] : List Blk)) (bothF st a b (st s x y) k.1) ++ [.box 0 27 (.ro (drows a) :: nav x), .box 0 27 (.ro (drows b) :: nav y), .box 0 27 (.lis 7 0 0 0 :: nav zerN), .lst 0 0 60 20 [], .lst 0 k.1 60 20 (drows (bothR mk a b k.1)), .box 0 27 (.lis 8 k.1 0 k.1 :: nav (mk x y)), .lst 0 0 60 20 []], []⟩)
          (r := fun _ => some ((AV.tup [.agg (.lis 8 a.length 0 a.length :: nav (mk x y)), .int .i64 0], ⟨(fun s : Bool => ([.box 0 27 (.ro (drows a) :: nav x), .box 0 27 (.ro (drows b) :: nav y), .box 0 27 (.lis 3 0 0 0 :: nav zerN), .lst 0 0 60 20 []] : List Blk)) (bothF st a b (st s x y) a.length) ++ [.box 0 27 (.ro (drows a) :: nav x), .box 0 27 (.ro (drows b) :: nav y), .box 0 27 (.lis 8 a.length 0 a.length :: nav (mk x y)), .lst 0 0 60 20 [], .lst 0 a.length 60 20 (drows (bothR mk a b a.length)), .box 0 27 (.lis 8 a.length 0 a.length :: nav (mk x y)), .lst 0 0 60 20 []], []⟩) : AV × Hp)) (μ := fun k => a.length - k.1) (fun k => ?_) (fun k ih => ?_) ⟨0, Nat.zero_le _⟩ rfl ?_)
        · simp [LPB, nav_below]
        · obtain ⟨k, hka⟩ := k
          simp only at ih ⊢
          by_cases hk : k < a.length
          · have f1 : (k : Int) < (a.length : Int) := by omega
            have f2 : (0 : Int) ≤ (k : Int) := by omega
            have f6 : IntKind.i64.wrap ((k : Int) + 1) = ((k + 1 : Nat) : Int) := by rw [IntWalk.i64_in _ (by omega)] <;> omega
            have g1 := drows_get a hk
            have g2 := drows_get b (show k < b.length by omega)
            have ih := ih ⟨k + 1, hk⟩ (by simp only; omega)
            obtain ⟨e2, hc2⟩ := hcb (bothF st a b (st s x y) k) [.box 0 27 (.ro (drows a) :: nav x), .box 0 27 (.ro (drows b) :: nav y), .box 0 27 (.lis 7 0 0 0 :: nav zerN), .lst 0 0 60 20 [], .lst 0 k 60 20 (drows (bothR mk a b k)), .box 0 27 (.lis 8 k 0 k :: nav (mk x y)), .lst 0 0 60 20 [], .box 0 60 (dav (dow a k))] (dow a k).c (dow b k).c
            simp only [List.cons_append, List.nil_append] at hc2
            simp only [bothR_succ, bothF_succ, List.cons_append, List.nil_append] at ih ⊢
            have hZ := bothR_len mk a b k
            generalize bothR mk a b k = Z at *
            have f7 : (k + 1) * 48 ≤ 140737488355328 := by omega
            have f8 : k ≤ 4611686018427387903 := by omega
            have f12 : ∀ r, headFits 20 [dav r] = true := fun r => drows_fit [r]
            have f13 : Z.take k = Z := by rw [← hZ, List.take_length]
            simp only [RB, pickV, eqbV, notV, negV, convV, faddrV, fldV, idxV, eqaggV, iaddrV, isnilV, nilckV, cloV, extrV, slenV, minV, sidxV, abin, cmpInt, params, growLists, fillCells, newAt, rdPtr, wrPtr, AV.cells, asVal, lenOf, boundOf, rowsOf, argIds, freshIn, scalar1, setAll, AV.isData, AV.isYld, Nat.reduceAdd, Nat.reduceMul, Nat.reduceSub, Nat.reduceEqDiff, Nat.reduceLeDiff, Nat.reduceLT, Int.reduceNeg, ↓reduceIte, reduceCtorEq, Int.reduceEq, Int.reduceLT, Int.reduceLE, Int.reduceBEq, Int.reduceBNe, Int.reduceToNat, IntKind.bits, Int.reduceAdd, Int.reduceSub, Int.reduceMul, Int.reduceTDiv, Int.reduceTMod, DB, DB2, DB3, R7B, take_add, List.append_assoc, List.length_append, Nat.add_assoc, shrink_lit, ball_app, RG, LPB, f1, f2, f6, g1, g2, hc2, O_buildSlq, quietOk, aop_buildSl, fillRows, asData, aappend, hZ, f7, f8, f12, f13, Nat.le_refl]
            exact ih
          · have e : k = a.length := by omega
            subst e
            simp only [RB, pickV, eqbV, notV, negV, convV, faddrV, fldV, idxV, eqaggV, iaddrV, isnilV, nilckV, cloV, extrV, slenV, minV, sidxV, abin, cmpInt, params, growLists, fillCells, newAt, rdPtr, wrPtr, AV.cells, asVal, lenOf, boundOf, rowsOf, argIds, freshIn, scalar1, setAll, AV.isData, AV.isYld, Nat.reduceAdd, Nat.reduceMul, Nat.reduceSub, Nat.reduceEqDiff, Nat.reduceLeDiff, Nat.reduceLT, Int.reduceNeg, ↓reduceIte, reduceCtorEq, Int.reduceEq, Int.reduceLT, Int.reduceLE, Int.reduceBEq, Int.reduceBNe, Int.reduceToNat, IntKind.bits, Int.reduceAdd, Int.reduceSub, Int.reduceMul, Int.reduceTDiv, Int.reduceTMod, DB, DB2, DB3, R7B, take_add, List.append_assoc, List.length_append, Nat.add_assoc, shrink_lit, ball_app, RG, LPB, show ¬ (a.length : Int) < (a.length : Int) by omega]
        · simp [bothR, bothF, drows]
      · simp only [RB, pickV, eqbV, notV, negV, convV, faddrV, fldV, idxV, eqaggV, iaddrV, isnilV, nilckV, cloV, extrV, slenV, minV, sidxV, abin, cmpInt, params, growLists, fillCells, newAt, rdPtr, wrPtr, AV.cells, asVal, lenOf, boundOf, rowsOf, argIds, freshIn, scalar1, setAll, AV.isData, AV.isYld, Nat.reduceAdd, Nat.reduceMul, Nat.reduceSub, Nat.reduceEqDiff, Nat.reduceLeDiff, Nat.reduceLT, Int.reduceNeg, ↓reduceIte, reduceCtorEq, Int.reduceEq, Int.reduceLT, Int.reduceLE, Int.reduceBEq, Int.reduceBNe, Int.reduceToNat, IntKind.bits, Int.reduceAdd, Int.reduceSub, Int.reduceMul, Int.reduceTDiv, Int.reduceTMod, DB, DB2, DB3, R7B, take_add, List.append_assoc, List.length_append, Nat.add_assoc, shrink_lit, ball_app, RG, LPB, k3]
    · simp only [RB, pickV, eqbV, notV, negV, convV, faddrV, fldV, idxV, eqaggV, iaddrV, isnilV, nilckV, cloV, extrV, slenV, minV, sidxV, abin, cmpInt, params, growLists, fillCells, newAt, rdPtr, wrPtr, AV.cells, asVal, lenOf, boundOf, rowsOf, argIds, freshIn, scalar1, setAll, AV.isData, AV.isYld, Nat.reduceAdd, Nat.reduceMul, Nat.reduceSub, Nat.reduceEqDiff, Nat.reduceLeDiff, Nat.reduceLT, Int.reduceNeg, ↓reduceIte, reduceCtorEq, Int.reduceEq, Int.reduceLT, Int.reduceLE, Int.reduceBEq, Int.reduceBNe, Int.reduceToNat, IntKind.bits, Int.reduceAdd, Int.reduceSub, Int.reduceMul, Int.reduceTDiv, Int.reduceTMod, DB, DB2, DB3, R7B, take_add, List.append_assoc, List.length_append, Nat.add_assoc, shrink_lit, ball_app, RG, LPB, k1, k2, h1, h2, bne_self_eq_false]
  · simp only [RB, pickV, eqbV, notV, negV, convV, faddrV, fldV, idxV, eqaggV, iaddrV, isnilV, nilckV, cloV, extrV, slenV, minV, sidxV, abin, cmpInt, params, growLists, fillCells, newAt, rdPtr, wrPtr, AV.cells, asVal, lenOf, boundOf, rowsOf, argIds, freshIn, scalar1, setAll, AV.isData, AV.isYld, Nat.reduceAdd, Nat.reduceMul, Nat.reduceSub, Nat.reduceEqDiff, Nat.reduceLeDiff, Nat.reduceLT, Int.reduceNeg, ↓reduceIte, reduceCtorEq, Int.reduceEq, Int.reduceLT, Int.reduceLE, Int.reduceBEq, Int.reduceBNe, Int.reduceToNat, IntKind.bits, Int.reduceAdd, Int.reduceSub, Int.reduceMul, Int.reduceTDiv, Int.reduceTMod, DB, DB2, DB3, R7B, take_add, List.append_assoc, List.length_append, Nat.add_assoc, shrink_lit, ball_app, RG, LPB, k1]
end Go.Proofs.YtdllnneeopbmdaaDoor.F

/- Two tallies, made one: Since's two ways. No condition. -/
set_option linter.unusedSimpArgs false
namespace Go.Proofs.YtdllnneeopbmdaaDoor.F
open Go Go.Proofs.YtdllnneeopbmdaaDoor.A Go.Proofs.YtdllnneeopbmdaaDoor.D
theorem r53b (a b : List Cd) (x y : Cnt) (R : List Cd) (z : Cnt) (s : Bool) (ha : a.length ≤ 1000000) (hb : b.length ≤ 1000000) (mk : Cnt → Cnt → Cnt) (st : Bool → Cnt → Cnt → Bool) (hcb : ∀ s ext c d, ∃ e, LR E [] 54 (.agg (nav c) :: .agg (nav d) :: [.ptr 4 0 0 0]) ⟨[.box 0 27 (.ro (drows b) :: nav y), .box 0 27 (.ro (drows a) :: nav x), .box 0 27 (.lis 3 0 0 0 :: nav zerN), .lst 0 0 60 20 [], .box 0 4 [.bool s], .dead, .dead] ++ ext, []⟩ = some (.agg (nav (mk c d)), ⟨(fun s : Bool => ([.box 0 27 (.ro (drows b) :: nav y), .box 0 27 (.ro (drows a) :: nav x), .box 0 27 (.lis 3 0 0 0 :: nav zerN), .lst 0 0 60 20 [], .box 0 4 [.bool s], .dead, .dead] : List Blk)) (st s c d) ++ ext ++ e, []⟩)) :
    LR E [] 53 [.agg (.ro (drows a) :: nav x), .agg (.ro (drows b) :: nav y), .clo 54 [.ptr 4 0 0 0]] ⟨[.box 0 27 (.ro (drows b) :: nav y), .box 0 27 (.ro (drows a) :: nav x), .box 0 27 (.lis 3 0 0 0 :: nav zerN), .lst 0 0 60 20 [], .box 0 4 [.bool s], .dead, .dead], []⟩ = some (if TalOk a x ∧ TalOk b y then if a.map Cd.p = b.map Cd.p then
        (.tup [.agg (.lis 11 a.length 0 a.length :: nav (mk x y)), .int .i64 0], ⟨(fun s : Bool => ([.box 0 27 (.ro (drows b) :: nav y), .box 0 27 (.ro (drows a) :: nav x), .box 0 27 (.lis 3 0 0 0 :: nav zerN), .lst 0 0 60 20 [], .box 0 4 [.bool s], .dead, .dead] : List Blk)) (bothF st a b (st s x y) a.length) ++ [.box 0 27 (.ro (drows a) :: nav x), .box 0 27 (.ro (drows b) :: nav y), .box 0 27 (.lis 11 a.length 0 a.length :: nav (mk x y)), .lst 0 0 60 20 [], .lst 0 a.length 60 20 (drows (bothR mk a b a.length)), .box 0 27 (.lis 11 a.length 0 a.length :: nav (mk x y)), .lst 0 0 60 20 []], []⟩)
      else (.tup [.agg (.lis 11 0 0 0 :: nav zerN), .int .i64 411], ⟨[.box 0 27 (.ro (drows b) :: nav y), .box 0 27 (.ro (drows a) :: nav x), .box 0 27 (.lis 3 0 0 0 :: nav zerN), .lst 0 0 60 20 [], .box 0 4 [.bool s], .dead, .dead] ++ [.box 0 27 (.ro (drows a) :: nav x), .box 0 27 (.ro (drows b) :: nav y), .box 0 27 (.lis 11 0 0 0 :: nav zerN), .lst 0 0 60 20 [], .lst 0 0 60 20 []], []⟩)
      else (.tup [.agg (.lis 11 0 0 0 :: nav zerN), .int .i64 410], ⟨[.box 0 27 (.ro (drows b) :: nav y), .box 0 27 (.ro (drows a) :: nav x), .box 0 27 (.lis 3 0 0 0 :: nav zerN), .lst 0 0 60 20 [], .box 0 4 [.bool s], .dead, .dead] ++ [.box 0 27 (.ro (drows a) :: nav x), .box 0 27 (.ro (drows b) :: nav y), .box 0 27 (.lis 11 0 0 0 :: nav zerN), .lst 0 0 60 20 [], .lst 0 0 60 20 []], []⟩)) := by
  rw [LR_R (fn := f53) rfl rfl rfl]
  have h1 := e31 a x (by omega)
  have h2 := e31 b y (by omega)
  simp only [f53, ← nav_zer, ← dav_zer, RB, pickV, eqbV, notV, negV, convV, faddrV, fldV, idxV, eqaggV, iaddrV, isnilV, nilckV, cloV, extrV, slenV, minV, sidxV, abin, cmpInt, params, growLists, fillCells, newAt, rdPtr, wrPtr, AV.cells, asVal, lenOf, boundOf, rowsOf, argIds, freshIn, scalar1, setAll, AV.isData, AV.isYld, Nat.reduceAdd, Nat.reduceMul, Nat.reduceSub, Nat.reduceEqDiff, Nat.reduceLeDiff, Nat.reduceLT, Int.reduceNeg, ↓reduceIte, reduceCtorEq, Int.reduceEq, Int.reduceLT, Int.reduceLE, Int.reduceBEq, Int.reduceBNe, Int.reduceToNat, IntKind.bits, Int.reduceAdd, Int.reduceSub, Int.reduceMul, Int.reduceTDiv, Int.reduceTMod, DB, DB2, DB3, R7B, h1]
  by_cases k1 : TalOk a x
  · by_cases k2 : TalOk b y
    · obtain ⟨e83, h83⟩ := r83 (ys := []) (pend := []) (bs := [.box 0 27 (.ro (drows b) :: nav y), .box 0 27 (.ro (drows a) :: nav x), .box 0 27 (.lis 3 0 0 0 :: nav zerN), .lst 0 0 60 20 [], .box 0 4 [.bool s], .dead, .dead] ++ [.box 0 27 (.ro (drows a) :: nav x), .box 0 27 (.ro (drows b) :: nav y), .box 0 27 (.lis 10 0 0 0 :: nav zerN), .lst 0 0 60 20 []]) (a := a) (b := b) (by omega) (by simp [LPB, nav_below, drows])
      simp only [List.cons_append, List.nil_append] at h83
      simp only [RB, pickV, eqbV, notV, negV, convV, faddrV, fldV, idxV, eqaggV, iaddrV, isnilV, nilckV, cloV, extrV, slenV, minV, sidxV, abin, cmpInt, params, growLists, fillCells, newAt, rdPtr, wrPtr, AV.cells, asVal, lenOf, boundOf, rowsOf, argIds, freshIn, scalar1, setAll, AV.isData, AV.isYld, Nat.reduceAdd, Nat.reduceMul, Nat.reduceSub, Nat.reduceEqDiff, Nat.reduceLeDiff, Nat.reduceLT, Int.reduceNeg, ↓reduceIte, reduceCtorEq, Int.reduceEq, Int.reduceLT, Int.reduceLE, Int.reduceBEq, Int.reduceBNe, Int.reduceToNat, IntKind.bits, Int.reduceAdd, Int.reduceSub, Int.reduceMul, Int.reduceTDiv, Int.reduceTMod, DB, DB2, DB3, R7B, take_add, List.append_assoc, List.length_append, Nat.add_assoc, shrink_lit, ball_app, RG, LPB, k1, k2, h1, h2, h83, bne_self_eq_false]
      by_cases k3 : a.map Cd.p = b.map Cd.p
      · have hl : a.length = b.length := by simpa using congrArg List.length k3
        obtain ⟨e1, hc1⟩ := hcb s [.box 0 27 (.ro (drows a) :: nav x), .box 0 27 (.ro (drows b) :: nav y), .box 0 27 (.lis 10 0 0 0 :: nav zerN), .lst 0 0 60 20 [], .dead, .dead, .dead] x y
        simp only [List.cons_append, List.nil_append] at hc1
        simp only [RB, pickV, eqbV, notV, negV, convV, faddrV, fldV, idxV, eqaggV, iaddrV, isnilV, nilckV, cloV, extrV, slenV, minV, sidxV, abin, cmpInt, params, growLists, fillCells, newAt, rdPtr, wrPtr, AV.cells, asVal, lenOf, boundOf, rowsOf, argIds, freshIn, scalar1, setAll, AV.isData, AV.isYld, Nat.reduceAdd, Nat.reduceMul, Nat.reduceSub, Nat.reduceEqDiff, Nat.reduceLeDiff, Nat.reduceLT, Int.reduceNeg, ↓reduceIte, reduceCtorEq, Int.reduceEq, Int.reduceLT, Int.reduceLE, Int.reduceBEq, Int.reduceBNe, Int.reduceToNat, IntKind.bits, Int.reduceAdd, Int.reduceSub, Int.reduceMul, Int.reduceTDiv, Int.reduceTMod, DB, DB2, DB3, R7B, take_add, List.append_assoc, List.length_append, Nat.add_assoc, shrink_lit, ball_app, RG, LPB, k3, hc1]
        refine (W_rec2 (ι := {k : Nat // k ≤ a.length}) (M := fun k => [(2, .clo 54 [.ptr 4 0 0 0]), (4, .ptr 8 0 0 0), (6, .ptr 9 0 0 0), (8, .ptr 12 0 0 0), (37, .ro (drows a)), (38, .int .i64 (a.length : Int)), (39, .int .i64 (k.1 : Int))])
          (H := fun k => ⟨(fun s : Bool => ([.box 0 27 (.ro (drows b) :: nav y), .box 0 27 (.ro (drows a) :: nav x), .box 0 27 (.lis 3 0 0 0 :: nav zerN), .lst 0 0 60 20 [], .box 0 4 [.bool s], .dead, .dead] : List Blk)) (bothF st a b (st s x y) k.1) ++ [.box 0 27 (.ro (drows a) :: nav x), .box 0 27 (.ro (drows b) :: nav y), .box 0 27 (.lis 10 0 0 0 :: nav zerN), .lst 0 0 60 20 [], .lst 0 k.1 60 20 (drows (bothR mk a b k.1)), .box 0 27 (.lis 11 k.1 0 k.1 :: nav (mk x y)), .lst 0 0 60 20 []], []⟩)
          (r := fun _ => some ((AV.tup [.agg (.lis 11 a.length 0 a.length :: nav (mk x y)), .int .i64 0], ⟨(fun s : Bool => ([.box 0 27 (.ro (drows b) :: nav y), .box 0 27 (.ro (drows a) :: nav x), .box 0 27 (.lis 3 0 0 0 :: nav zerN), .lst 0 0 60 20 [], .box 0 4 [.bool s], .dead, .dead] : List Blk)) (bothF st a b (st s x y) a.length) ++ [.box 0 27 (.ro (drows a) :: nav x), .box 0 27 (.ro (drows b) :: nav y), .box 0 27 (.lis 11 a.length 0 a.length :: nav (mk x y)), .lst 0 0 60 20 [], .lst 0 a.length 60 20 (drows (bothR mk a b a.length)), .box 0 27 (.lis 11 a.length 0 a.length :: nav (mk x y)), .lst 0 0 60 20 []], []⟩) : AV × Hp)) (μ := fun k => a.length - k.1) (fun k => ?_) (fun k ih => ?_) ⟨0, Nat.zero_le _⟩ rfl ?_)
        · simp [LPB, nav_below]
        · obtain ⟨k, hka⟩ := k
          simp only at ih ⊢
          by_cases hk : k < a.length
          · have f1 : (k : Int) < (a.length : Int) := by omega
            have f2 : (0 : Int) ≤ (k : Int) := by omega
            have f6 : IntKind.i64.wrap ((k : Int) + 1) = ((k + 1 : Nat) : Int) := by rw [IntWalk.i64_in _ (by omega)] <;> omega
            have g1 := drows_get a hk
            have g2 := drows_get b (show k < b.length by omega)
            have ih := ih ⟨k + 1, hk⟩ (by simp only; omega)
            obtain ⟨e2, hc2⟩ := hcb (bothF st a b (st s x y) k) [.box 0 27 (.ro (drows a) :: nav x), .box 0 27 (.ro (drows b) :: nav y), .box 0 27 (.lis 10 0 0 0 :: nav zerN), .lst 0 0 60 20 [], .lst 0 k 60 20 (drows (bothR mk a b k)), .box 0 27 (.lis 11 k 0 k :: nav (mk x y)), .lst 0 0 60 20 [], .box 0 60 (dav (dow a k))] (dow a k).c (dow b k).c
            simp only [List.cons_append, List.nil_append] at hc2
            simp only [bothR_succ, bothF_succ, List.cons_append, List.nil_append] at ih ⊢
            have hZ := bothR_len mk a b k
            generalize bothR mk a b k = Z at *
            have f7 : (k + 1) * 48 ≤ 140737488355328 := by omega
            have f8 : k ≤ 4611686018427387903 := by omega
            have f12 : ∀ r, headFits 20 [dav r] = true := fun r => drows_fit [r]
            have f13 : Z.take k = Z := by rw [← hZ, List.take_length]
            simp only [RB, pickV, eqbV, notV, negV, convV, faddrV, fldV, idxV, eqaggV, iaddrV, isnilV, nilckV, cloV, extrV, slenV, minV, sidxV, abin, cmpInt, params, growLists, fillCells, newAt, rdPtr, wrPtr, AV.cells, asVal, lenOf, boundOf, rowsOf, argIds, freshIn, scalar1, setAll, AV.isData, AV.isYld, Nat.reduceAdd, Nat.reduceMul, Nat.reduceSub, Nat.reduceEqDiff, Nat.reduceLeDiff, Nat.reduceLT, Int.reduceNeg, ↓reduceIte, reduceCtorEq, Int.reduceEq, Int.reduceLT, Int.reduceLE, Int.reduceBEq, Int.reduceBNe, Int.reduceToNat, IntKind.bits, Int.reduceAdd, Int.reduceSub, Int.reduceMul, Int.reduceTDiv, Int.reduceTMod, DB, DB2, DB3, R7B, take_add, List.append_assoc, List.length_append, Nat.add_assoc, shrink_lit, ball_app, RG, LPB, f1, f2, f6, g1, g2, hc2, O_buildSlq, quietOk, aop_buildSl, fillRows, asData, aappend, hZ, f7, f8, f12, f13, Nat.le_refl]
            exact ih
          · have e : k = a.length := by omega
            subst e
            simp only [RB, pickV, eqbV, notV, negV, convV, faddrV, fldV, idxV, eqaggV, iaddrV, isnilV, nilckV, cloV, extrV, slenV, minV, sidxV, abin, cmpInt, params, growLists, fillCells, newAt, rdPtr, wrPtr, AV.cells, asVal, lenOf, boundOf, rowsOf, argIds, freshIn, scalar1, setAll, AV.isData, AV.isYld, Nat.reduceAdd, Nat.reduceMul, Nat.reduceSub, Nat.reduceEqDiff, Nat.reduceLeDiff, Nat.reduceLT, Int.reduceNeg, ↓reduceIte, reduceCtorEq, Int.reduceEq, Int.reduceLT, Int.reduceLE, Int.reduceBEq, Int.reduceBNe, Int.reduceToNat, IntKind.bits, Int.reduceAdd, Int.reduceSub, Int.reduceMul, Int.reduceTDiv, Int.reduceTMod, DB, DB2, DB3, R7B, take_add, List.append_assoc, List.length_append, Nat.add_assoc, shrink_lit, ball_app, RG, LPB, show ¬ (a.length : Int) < (a.length : Int) by omega]
        · simp [bothR, bothF, drows]
      · simp only [RB, pickV, eqbV, notV, negV, convV, faddrV, fldV, idxV, eqaggV, iaddrV, isnilV, nilckV, cloV, extrV, slenV, minV, sidxV, abin, cmpInt, params, growLists, fillCells, newAt, rdPtr, wrPtr, AV.cells, asVal, lenOf, boundOf, rowsOf, argIds, freshIn, scalar1, setAll, AV.isData, AV.isYld, Nat.reduceAdd, Nat.reduceMul, Nat.reduceSub, Nat.reduceEqDiff, Nat.reduceLeDiff, Nat.reduceLT, Int.reduceNeg, ↓reduceIte, reduceCtorEq, Int.reduceEq, Int.reduceLT, Int.reduceLE, Int.reduceBEq, Int.reduceBNe, Int.reduceToNat, IntKind.bits, Int.reduceAdd, Int.reduceSub, Int.reduceMul, Int.reduceTDiv, Int.reduceTMod, DB, DB2, DB3, R7B, take_add, List.append_assoc, List.length_append, Nat.add_assoc, shrink_lit, ball_app, RG, LPB, k3]
    · simp only [RB, pickV, eqbV, notV, negV, convV, faddrV, fldV, idxV, eqaggV, iaddrV, isnilV, nilckV, cloV, extrV, slenV, minV, sidxV, abin, cmpInt, params, growLists, fillCells, newAt, rdPtr, wrPtr, AV.cells, asVal, lenOf, boundOf, rowsOf, argIds, freshIn, scalar1, setAll, AV.isData, AV.isYld, Nat.reduceAdd, Nat.reduceMul, Nat.reduceSub, Nat.reduceEqDiff, Nat.reduceLeDiff, Nat.reduceLT, Int.reduceNeg, ↓reduceIte, reduceCtorEq, Int.reduceEq, Int.reduceLT, Int.reduceLE, Int.reduceBEq, Int.reduceBNe, Int.reduceToNat, IntKind.bits, Int.reduceAdd, Int.reduceSub, Int.reduceMul, Int.reduceTDiv, Int.reduceTMod, DB, DB2, DB3, R7B, take_add, List.append_assoc, List.length_append, Nat.add_assoc, shrink_lit, ball_app, RG, LPB, k1, k2, h1, h2, bne_self_eq_false]
  · simp only [RB, pickV, eqbV, notV, negV, convV, faddrV, fldV, idxV, eqaggV, iaddrV, isnilV, nilckV, cloV, extrV, slenV, minV, sidxV, abin, cmpInt, params, growLists, fillCells, newAt, rdPtr, wrPtr, AV.cells, asVal, lenOf, boundOf, rowsOf, argIds, freshIn, scalar1, setAll, AV.isData, AV.isYld, Nat.reduceAdd, Nat.reduceMul, Nat.reduceSub, Nat.reduceEqDiff, Nat.reduceLeDiff, Nat.reduceLT, Int.reduceNeg, ↓reduceIte, reduceCtorEq, Int.reduceEq, Int.reduceLT, Int.reduceLE, Int.reduceBEq, Int.reduceBNe, Int.reduceToNat, IntKind.bits, Int.reduceAdd, Int.reduceSub, Int.reduceMul, Int.reduceTDiv, Int.reduceTMod, DB, DB2, DB3, R7B, take_add, List.append_assoc, List.length_append, Nat.add_assoc, shrink_lit, ball_app, RG, LPB, k1]
theorem r53c (a b : List Cd) (x y : Cnt) (R : List Cd) (z : Cnt) (s : Bool) (ha : a.length ≤ 1000000) (hb : b.length ≤ 1000000) (mk : Cnt → Cnt → Cnt) (st : Bool → Cnt → Cnt → Bool) (hcb : ∀ s ext c d, ∃ e, LR E [] 56 (.agg (nav c) :: .agg (nav d) :: []) ⟨[.box 0 27 (.ro (drows a) :: nav x), .box 0 27 (.ro (drows b) :: nav y), .box 0 27 (.lis 3 0 0 0 :: nav zerN), .lst 0 0 60 20 [], .box 0 4 [.bool s], .box 0 27 (.lis 11 R.length 0 R.length :: nav z), .lst 0 0 60 20 [], .box 0 27 (.ro (drows b) :: nav y), .box 0 27 (.ro (drows a) :: nav x), .box 0 27 (.lis 11 R.length 0 R.length :: nav z), .lst 0 0 60 20 [], .lst 0 R.length 60 20 (drows R), .box 0 27 (.lis 11 R.length 0 R.length :: nav z), .lst 0 0 60 20 []] ++ ext, []⟩ = some (.agg (nav (mk c d)), ⟨(fun s : Bool => ([.box 0 27 (.ro (drows a) :: nav x), .box 0 27 (.ro (drows b) :: nav y), .box 0 27 (.lis 3 0 0 0 :: nav zerN), .lst 0 0 60 20 [], .box 0 4 [.bool s], .box 0 27 (.lis 11 R.length 0 R.length :: nav z), .lst 0 0 60 20 [], .box 0 27 (.ro (drows b) :: nav y), .box 0 27 (.ro (drows a) :: nav x), .box 0 27 (.lis 11 R.length 0 R.length :: nav z), .lst 0 0 60 20 [], .lst 0 R.length 60 20 (drows R), .box 0 27 (.lis 11 R.length 0 R.length :: nav z), .lst 0 0 60 20 []] : List Blk)) (st s c d) ++ ext ++ e, []⟩)) :
    LR E [] 53 [.agg (.ro (drows a) :: nav x), .agg (.ro (drows b) :: nav y), .clo 56 []] ⟨[.box 0 27 (.ro (drows a) :: nav x), .box 0 27 (.ro (drows b) :: nav y), .box 0 27 (.lis 3 0 0 0 :: nav zerN), .lst 0 0 60 20 [], .box 0 4 [.bool s], .box 0 27 (.lis 11 R.length 0 R.length :: nav z), .lst 0 0 60 20 [], .box 0 27 (.ro (drows b) :: nav y), .box 0 27 (.ro (drows a) :: nav x), .box 0 27 (.lis 11 R.length 0 R.length :: nav z), .lst 0 0 60 20 [], .lst 0 R.length 60 20 (drows R), .box 0 27 (.lis 11 R.length 0 R.length :: nav z), .lst 0 0 60 20 []], []⟩ = some (if TalOk a x ∧ TalOk b y then if a.map Cd.p = b.map Cd.p then
        (.tup [.agg (.lis 18 a.length 0 a.length :: nav (mk x y)), .int .i64 0], ⟨(fun s : Bool => ([.box 0 27 (.ro (drows a) :: nav x), .box 0 27 (.ro (drows b) :: nav y), .box 0 27 (.lis 3 0 0 0 :: nav zerN), .lst 0 0 60 20 [], .box 0 4 [.bool s], .box 0 27 (.lis 11 R.length 0 R.length :: nav z), .lst 0 0 60 20 [], .box 0 27 (.ro (drows b) :: nav y), .box 0 27 (.ro (drows a) :: nav x), .box 0 27 (.lis 11 R.length 0 R.length :: nav z), .lst 0 0 60 20 [], .lst 0 R.length 60 20 (drows R), .box 0 27 (.lis 11 R.length 0 R.length :: nav z), .lst 0 0 60 20 []] : List Blk)) (bothF st a b (st s x y) a.length) ++ [.box 0 27 (.ro (drows a) :: nav x), .box 0 27 (.ro (drows b) :: nav y), .box 0 27 (.lis 18 a.length 0 a.length :: nav (mk x y)), .lst 0 0 60 20 [], .lst 0 a.length 60 20 (drows (bothR mk a b a.length)), .box 0 27 (.lis 18 a.length 0 a.length :: nav (mk x y)), .lst 0 0 60 20 []], []⟩)
      else (.tup [.agg (.lis 18 0 0 0 :: nav zerN), .int .i64 411], ⟨[.box 0 27 (.ro (drows a) :: nav x), .box 0 27 (.ro (drows b) :: nav y), .box 0 27 (.lis 3 0 0 0 :: nav zerN), .lst 0 0 60 20 [], .box 0 4 [.bool s], .box 0 27 (.lis 11 R.length 0 R.length :: nav z), .lst 0 0 60 20 [], .box 0 27 (.ro (drows b) :: nav y), .box 0 27 (.ro (drows a) :: nav x), .box 0 27 (.lis 11 R.length 0 R.length :: nav z), .lst 0 0 60 20 [], .lst 0 R.length 60 20 (drows R), .box 0 27 (.lis 11 R.length 0 R.length :: nav z), .lst 0 0 60 20 []] ++ [.box 0 27 (.ro (drows a) :: nav x), .box 0 27 (.ro (drows b) :: nav y), .box 0 27 (.lis 18 0 0 0 :: nav zerN), .lst 0 0 60 20 [], .lst 0 0 60 20 []], []⟩)
      else (.tup [.agg (.lis 18 0 0 0 :: nav zerN), .int .i64 410], ⟨[.box 0 27 (.ro (drows a) :: nav x), .box 0 27 (.ro (drows b) :: nav y), .box 0 27 (.lis 3 0 0 0 :: nav zerN), .lst 0 0 60 20 [], .box 0 4 [.bool s], .box 0 27 (.lis 11 R.length 0 R.length :: nav z), .lst 0 0 60 20 [], .box 0 27 (.ro (drows b) :: nav y), .box 0 27 (.ro (drows a) :: nav x), .box 0 27 (.lis 11 R.length 0 R.length :: nav z), .lst 0 0 60 20 [], .lst 0 R.length 60 20 (drows R), .box 0 27 (.lis 11 R.length 0 R.length :: nav z), .lst 0 0 60 20 []] ++ [.box 0 27 (.ro (drows a) :: nav x), .box 0 27 (.ro (drows b) :: nav y), .box 0 27 (.lis 18 0 0 0 :: nav zerN), .lst 0 0 60 20 [], .lst 0 0 60 20 []], []⟩)) := by
  rw [LR_R (fn := f53) rfl rfl rfl]
  have h1 := e31 a x (by omega)
  have h2 := e31 b y (by omega)
  simp only [f53, ← nav_zer, ← dav_zer, RB, pickV, eqbV, notV, negV, convV, faddrV, fldV, idxV, eqaggV, iaddrV, isnilV, nilckV, cloV, extrV, slenV, minV, sidxV, abin, cmpInt, params, growLists, fillCells, newAt, rdPtr, wrPtr, AV.cells, asVal, lenOf, boundOf, rowsOf, argIds, freshIn, scalar1, setAll, AV.isData, AV.isYld, Nat.reduceAdd, Nat.reduceMul, Nat.reduceSub, Nat.reduceEqDiff, Nat.reduceLeDiff, Nat.reduceLT, Int.reduceNeg, ↓reduceIte, reduceCtorEq, Int.reduceEq, Int.reduceLT, Int.reduceLE, Int.reduceBEq, Int.reduceBNe, Int.reduceToNat, IntKind.bits, Int.reduceAdd, Int.reduceSub, Int.reduceMul, Int.reduceTDiv, Int.reduceTMod, DB, DB2, DB3, R7B, h1]
  by_cases k1 : TalOk a x
  · by_cases k2 : TalOk b y
    · obtain ⟨e83, h83⟩ := r83 (ys := []) (pend := []) (bs := [.box 0 27 (.ro (drows a) :: nav x), .box 0 27 (.ro (drows b) :: nav y), .box 0 27 (.lis 3 0 0 0 :: nav zerN), .lst 0 0 60 20 [], .box 0 4 [.bool s], .box 0 27 (.lis 11 R.length 0 R.length :: nav z), .lst 0 0 60 20 [], .box 0 27 (.ro (drows b) :: nav y), .box 0 27 (.ro (drows a) :: nav x), .box 0 27 (.lis 11 R.length 0 R.length :: nav z), .lst 0 0 60 20 [], .lst 0 R.length 60 20 (drows R), .box 0 27 (.lis 11 R.length 0 R.length :: nav z), .lst 0 0 60 20 []] ++ [.box 0 27 (.ro (drows a) :: nav x), .box 0 27 (.ro (drows b) :: nav y), .box 0 27 (.lis 17 0 0 0 :: nav zerN), .lst 0 0 60 20 []]) (a := a) (b := b) (by omega) (by simp [LPB, nav_below, drows])
      simp only [List.cons_append, List.nil_append] at h83
      simp only [RB, pickV, eqbV, notV, negV, convV, faddrV, fldV, idxV, eqaggV, iaddrV, isnilV, nilckV, cloV, extrV, slenV, minV, sidxV, abin, cmpInt, params, growLists, fillCells, newAt, rdPtr, wrPtr, AV.cells, asVal, lenOf, boundOf, rowsOf, argIds, freshIn, scalar1, setAll, AV.isData, AV.isYld, Nat.reduceAdd, Nat.reduceMul, Nat.reduceSub, Nat.reduceEqDiff, Nat.reduceLeDiff, Nat.reduceLT, Int.reduceNeg, ↓reduceIte, reduceCtorEq, Int.reduceEq, Int.reduceLT, Int.reduceLE, Int.reduceBEq, Int.reduceBNe, Int.reduceToNat, IntKind.bits, Int.reduceAdd, Int.reduceSub, Int.reduceMul, Int.reduceTDiv, Int.reduceTMod, DB, DB2, DB3, R7B, take_add, List.append_assoc, List.length_append, Nat.add_assoc, shrink_lit, ball_app, RG, LPB, k1, k2, h1, h2, h83, bne_self_eq_false]
      by_cases k3 : a.map Cd.p = b.map Cd.p
      · have hl : a.length = b.length := by simpa using congrArg List.length k3
        obtain ⟨e1, hc1⟩ := hcb s [.box 0 27 (.ro (drows a) :: nav x), .box 0 27 (.ro (drows b) :: nav y), .box 0 27 (.lis 17 0 0 0 :: nav zerN), .lst 0 0 60 20 [], .dead, .dead, .dead] x y
        simp only [List.cons_append, List.nil_append] at hc1
        simp only [RB, pickV, eqbV, notV, negV, convV, faddrV, fldV, idxV, eqaggV, iaddrV, isnilV, nilckV, cloV, extrV, slenV, minV, sidxV, abin, cmpInt, params, growLists, fillCells, newAt, rdPtr, wrPtr, AV.cells, asVal, lenOf, boundOf, rowsOf, argIds, freshIn, scalar1, setAll, AV.isData, AV.isYld, Nat.reduceAdd, Nat.reduceMul, Nat.reduceSub, Nat.reduceEqDiff, Nat.reduceLeDiff, Nat.reduceLT, Int.reduceNeg, ↓reduceIte, reduceCtorEq, Int.reduceEq, Int.reduceLT, Int.reduceLE, Int.reduceBEq, Int.reduceBNe, Int.reduceToNat, IntKind.bits, Int.reduceAdd, Int.reduceSub, Int.reduceMul, Int.reduceTDiv, Int.reduceTMod, DB, DB2, DB3, R7B, take_add, List.append_assoc, List.length_append, Nat.add_assoc, shrink_lit, ball_app, RG, LPB, k3, hc1]
        refine (W_rec2 (ι := {k : Nat // k ≤ a.length}) (M := fun k => [(2, .clo 56 []), (4, .ptr 15 0 0 0), (6, .ptr 16 0 0 0), (8, .ptr 19 0 0 0), (37, .ro (drows a)), (38, .int .i64 (a.length : Int)), (39, .int .i64 (k.1 : Int))])
          (H := fun k => ⟨(fun s : Bool => ([.box 0 27 (.ro (drows a) :: nav x), .box 0 27 (.ro (drows b) :: nav y), .box 0 27 (.lis 3 0 0 0 :: nav zerN), .lst 0 0 60 20 [], .box 0 4 [.bool s], .box 0 27 (.lis 11 R.length 0 R.length :: nav z), .lst 0 0 60 20 [], .box 0 27 (.ro (drows b) :: nav y), .box 0 27 (.ro (drows a) :: nav x), .box 0 27 (.lis 11 R.length 0 R.length :: nav z), .lst 0 0 60 20 [], .lst 0 R.length 60 20 (drows R), .box 0 27 (.lis 11 R.length 0 R.length :: nav z), .lst 0 0 60 20 []] : List Blk)) (bothF st a b (st s x y) k.1) ++ [.box 0 27 (.ro (drows a) :: nav x), .box 0 27 (.ro (drows b) :: nav y), .box 0 27 (.lis 17 0 0 0 :: nav zerN), .lst 0 0 60 20 [], .lst 0 k.1 60 20 (drows (bothR mk a b k.1)), .box 0 27 (.lis 18 k.1 0 k.1 :: nav (mk x y)), .lst 0 0 60 20 []], []⟩)
          (r := fun _ => some ((AV.tup [.agg (.lis 18 a.length 0 a.length :: nav (mk x y)), .int .i64 0], ⟨(fun s : Bool => ([.box 0 27 (.ro (drows a) :: nav x), .box 0 27 (.ro (drows b) :: nav y), .box 0 27 (.lis 3 0 0 0 :: nav zerN), .lst 0 0 60 20 [], .box 0 4 [.bool s], .box 0 27 (.lis 11 R.length 0 R.length :: nav z), .lst 0 0 60 20 [], .box 0 27 (.ro (drows b) :: nav y), .box 0 27 (.ro (drows a) :: nav x), .box 0 27 (.lis 11 R.length 0 R.length :: nav z), .lst 0 0 60 20 [], .lst 0 R.length 60 20 (drows R), .box 0 27 (.lis 11 R.length 0 R.length :: nav z), .lst 0 0 60 20 []] : List Blk)) (bothF st a b (st s x y) a.length) ++ [.box 0 27 (.ro (drows a) :: nav x), .box 0 27 (.ro (drows b) :: nav y), .box 0 27 (.lis 18 a.length 0 a.length :: nav (mk x y)), .lst 0 0 60 20 [], .lst 0 a.length 60 20 (drows (bothR mk a b a.length)), .box 0 27 (.lis 18 a.length 0 a.length :: nav (mk x y)), .lst 0 0 60 20 []], []⟩) : AV × Hp)) (μ := fun k => a.length - k.1) (fun k => ?_) (fun k ih => ?_) ⟨0, Nat.zero_le _⟩ rfl ?_)
        · simp [LPB, nav_below]
        · obtain ⟨k, hka⟩ := k
          simp only at ih ⊢
          by_cases hk : k < a.length
          · have f1 : (k : Int) < (a.length : Int) := by omega
            have f2 : (0 : Int) ≤ (k : Int) := by omega
            have f6 : IntKind.i64.wrap ((k : Int) + 1) = ((k + 1 : Nat) : Int) := by rw [IntWalk.i64_in _ (by omega)] <;> omega
            have g1 := drows_get a hk
            have g2 := drows_get b (show k < b.length by omega)
            have ih := ih ⟨k + 1, hk⟩ (by simp only; omega)
            obtain ⟨e2, hc2⟩ := hcb (bothF st a b (st s x y) k) [.box 0 27 (.ro (drows a) :: nav x), .box 0 27 (.ro (drows b) :: nav y), .box 0 27 (.lis 17 0 0 0 :: nav zerN), .lst 0 0 60 20 [], .lst 0 k 60 20 (drows (bothR mk a b k)), .box 0 27 (.lis 18 k 0 k :: nav (mk x y)), .lst 0 0 60 20 [], .box 0 60 (dav (dow a k))] (dow a k).c (dow b k).c
            simp only [List.cons_append, List.nil_append] at hc2
            simp only [bothR_succ, bothF_succ, List.cons_append, List.nil_append] at ih ⊢
            have hZ := bothR_len mk a b k
            generalize bothR mk a b k = Z at *
            have f7 : (k + 1) * 48 ≤ 140737488355328 := by omega
            have f8 : k ≤ 4611686018427387903 := by omega
            have f12 : ∀ r, headFits 20 [dav r] = true := fun r => drows_fit [r]
            have f13 : Z.take k = Z := by rw [← hZ, List.take_length]
            simp only [RB, pickV, eqbV, notV, negV, convV, faddrV, fldV, idxV, eqaggV, iaddrV, isnilV, nilckV, cloV, extrV, slenV, minV, sidxV, abin, cmpInt, params, growLists, fillCells, newAt, rdPtr, wrPtr, AV.cells, asVal, lenOf, boundOf, rowsOf, argIds, freshIn, scalar1, setAll, AV.isData, AV.isYld, Nat.reduceAdd, Nat.reduceMul, Nat.reduceSub, Nat.reduceEqDiff, Nat.reduceLeDiff, Nat.reduceLT, Int.reduceNeg, ↓reduceIte, reduceCtorEq, Int.reduceEq, Int.reduceLT, Int.reduceLE, Int.reduceBEq, Int.reduceBNe, Int.reduceToNat, IntKind.bits, Int.reduceAdd, Int.reduceSub, Int.reduceMul, Int.reduceTDiv, Int.reduceTMod, DB, DB2, DB3, R7B, take_add, List.append_assoc, List.length_append, Nat.add_assoc, shrink_lit, ball_app, RG, LPB, f1, f2, f6, g1, g2, hc2, O_buildSlq, quietOk, aop_buildSl, fillRows, asData, aappend, hZ, f7, f8, f12, f13, Nat.le_refl]
            exact ih
          · have e : k = a.length := by omega
            subst e
            simp only [RB, pickV, eqbV, notV, negV, convV, faddrV, fldV, idxV, eqaggV, iaddrV, isnilV, nilckV, cloV, extrV, slenV, minV, sidxV, abin, cmpInt, params, growLists, fillCells, newAt, rdPtr, wrPtr, AV.cells, asVal, lenOf, boundOf, rowsOf, argIds, freshIn, scalar1, setAll, AV.isData, AV.isYld, Nat.reduceAdd, Nat.reduceMul, Nat.reduceSub, Nat.reduceEqDiff, Nat.reduceLeDiff, Nat.reduceLT, Int.reduceNeg, ↓reduceIte, reduceCtorEq, Int.reduceEq, Int.reduceLT, Int.reduceLE, Int.reduceBEq, Int.reduceBNe, Int.reduceToNat, IntKind.bits, Int.reduceAdd, Int.reduceSub, Int.reduceMul, Int.reduceTDiv, Int.reduceTMod, DB, DB2, DB3, R7B, take_add, List.append_assoc, List.length_append, Nat.add_assoc, shrink_lit, ball_app, RG, LPB, show ¬ (a.length : Int) < (a.length : Int) by omega]
        · simp [bothR, bothF, drows]
      · simp only [RB, pickV, eqbV, notV, negV, convV, faddrV, fldV, idxV, eqaggV, iaddrV, isnilV, nilckV, cloV, extrV, slenV, minV, sidxV, abin, cmpInt, params, growLists, fillCells, newAt, rdPtr, wrPtr, AV.cells, asVal, lenOf, boundOf, rowsOf, argIds, freshIn, scalar1, setAll, AV.isData, AV.isYld, Nat.reduceAdd, Nat.reduceMul, Nat.reduceSub, Nat.reduceEqDiff, Nat.reduceLeDiff, Nat.reduceLT, Int.reduceNeg, ↓reduceIte, reduceCtorEq, Int.reduceEq, Int.reduceLT, Int.reduceLE, Int.reduceBEq, Int.reduceBNe, Int.reduceToNat, IntKind.bits, Int.reduceAdd, Int.reduceSub, Int.reduceMul, Int.reduceTDiv, Int.reduceTMod, DB, DB2, DB3, R7B, take_add, List.append_assoc, List.length_append, Nat.add_assoc, shrink_lit, ball_app, RG, LPB, k3]
    · simp only [RB, pickV, eqbV, notV, negV, convV, faddrV, fldV, idxV, eqaggV, iaddrV, isnilV, nilckV, cloV, extrV, slenV, minV, sidxV, abin, cmpInt, params, growLists, fillCells, newAt, rdPtr, wrPtr, AV.cells, asVal, lenOf, boundOf, rowsOf, argIds, freshIn, scalar1, setAll, AV.isData, AV.isYld, Nat.reduceAdd, Nat.reduceMul, Nat.reduceSub, Nat.reduceEqDiff, Nat.reduceLeDiff, Nat.reduceLT, Int.reduceNeg, ↓reduceIte, reduceCtorEq, Int.reduceEq, Int.reduceLT, Int.reduceLE, Int.reduceBEq, Int.reduceBNe, Int.reduceToNat, IntKind.bits, Int.reduceAdd, Int.reduceSub, Int.reduceMul, Int.reduceTDiv, Int.reduceTMod, DB, DB2, DB3, R7B, take_add, List.append_assoc, List.length_append, Nat.add_assoc, shrink_lit, ball_app, RG, LPB, k1, k2, h1, h2, bne_self_eq_false]
  · simp only [RB, pickV, eqbV, notV, negV, convV, faddrV, fldV, idxV, eqaggV, iaddrV, isnilV, nilckV, cloV, extrV, slenV, minV, sidxV, abin, cmpInt, params, growLists, fillCells, newAt, rdPtr, wrPtr, AV.cells, asVal, lenOf, boundOf, rowsOf, argIds, freshIn, scalar1, setAll, AV.isData, AV.isYld, Nat.reduceAdd, Nat.reduceMul, Nat.reduceSub, Nat.reduceEqDiff, Nat.reduceLeDiff, Nat.reduceLT, Int.reduceNeg, ↓reduceIte, reduceCtorEq, Int.reduceEq, Int.reduceLT, Int.reduceLE, Int.reduceBEq, Int.reduceBNe, Int.reduceToNat, IntKind.bits, Int.reduceAdd, Int.reduceSub, Int.reduceMul, Int.reduceTDiv, Int.reduceTMod, DB, DB2, DB3, R7B, take_add, List.append_assoc, List.length_append, Nat.add_assoc, shrink_lit, ball_app, RG, LPB, k1]
end Go.Proofs.YtdllnneeopbmdaaDoor.F

/- Join, Since. No condition. -/
set_option linter.unusedSimpArgs false
namespace Go.Proofs.YtdllnneeopbmdaaDoor.D
open Go Go.Proofs.YtdllnneeopbmdaaDoor.A
def bothS (mk : Cnt → Cnt → Cnt) (a : List Cd) (x : Cnt) (b : List Cd) (y : Cnt) : (List Cd × Cnt) × Int :=
  if TalOk a x ∧ TalOk b y then if a.map Cd.p = b.map Cd.p then ((bothR mk a b a.length, mk x y), 0) else (([], zerN), 411) else (([], zerN), 410)
def stB (s : Bool) (c d : Cnt) : Bool := s && decide (Bel c d)
def fitsS (a : List Cd) (x : Cnt) (b : List Cd) (y : Cnt) : Bool := bothF stB b a (stB true y x) b.length
def sinceS (a : List Cd) (x : Cnt) (b : List Cd) (y : Cnt) : (List Cd × Cnt) × Int :=
  if TalOk b y ∧ TalOk a x then if b.map Cd.p = a.map Cd.p then if fitsS a x b y = true then ((bothR lessN a b a.length, lessN x y), 0) else (([], zerN), 2) else (([], zerN), 411) else (([], zerN), 410)
end Go.Proofs.YtdllnneeopbmdaaDoor.D
namespace Go.Proofs.YtdllnneeopbmdaaDoor.F
open Go Go.Proofs.YtdllnneeopbmdaaDoor.A Go.Proofs.YtdllnneeopbmdaaDoor.D
theorem e23 (a b : List Cd) (x y : Cnt) (ha : a.length ≤ 1000000) (hb : b.length ≤ 1000000) : LV E 23 [.agg (.ro (drows a) :: nav x), .agg (.ro (drows b) :: nav y)] = some (tupS (bothS plusN a x b y)) := by
  rw [LV_R (fn := f23) rfl rfl rfl]
  have h := r53a a b x y [] zerN true ha hb plusN (fun s _ _ => s) (fun s ext c d => r51 _ c d)
  have hR := bothR_len plusN a b a.length
  have hT : (drows (bothR plusN a b a.length)).take a.length = drows (bothR plusN a b a.length) := List.take_of_length_le (by rw [drows_len, hR]; exact Nat.le_refl _)
  simp only [f23, ← nav_zer, RB, pickV, eqbV, notV, negV, convV, faddrV, fldV, idxV, eqaggV, iaddrV, isnilV, nilckV, cloV, extrV, slenV, minV, sidxV, abin, cmpInt, params, growLists, fillCells, newAt, rdPtr, wrPtr, AV.cells, asVal, lenOf, boundOf, rowsOf, argIds, freshIn, scalar1, setAll, AV.isData, AV.isYld, Nat.reduceAdd, Nat.reduceMul, Nat.reduceSub, Nat.reduceEqDiff, Nat.reduceLeDiff, Nat.reduceLT, Int.reduceNeg, ↓reduceIte, reduceCtorEq, Int.reduceEq, Int.reduceLT, Int.reduceLE, Int.reduceBEq, Int.reduceBNe, Int.reduceToNat, IntKind.bits, Int.reduceAdd, Int.reduceSub, Int.reduceMul, Int.reduceTDiv, Int.reduceTMod, DB, DB2, DB3, R7B, take_add, List.append_assoc, List.length_append, Nat.add_assoc, shrink_lit, ball_app, RG, LPB, h]
  unfold bothS
  by_cases k1 : TalOk a x ∧ TalOk b y
  · by_cases k2 : a.map Cd.p = b.map Cd.p
    · simp only [RB, pickV, eqbV, notV, negV, convV, faddrV, fldV, idxV, eqaggV, iaddrV, isnilV, nilckV, cloV, extrV, slenV, minV, sidxV, abin, cmpInt, params, growLists, fillCells, newAt, rdPtr, wrPtr, AV.cells, asVal, lenOf, boundOf, rowsOf, argIds, freshIn, scalar1, setAll, AV.isData, AV.isYld, Nat.reduceAdd, Nat.reduceMul, Nat.reduceSub, Nat.reduceEqDiff, Nat.reduceLeDiff, Nat.reduceLT, Int.reduceNeg, ↓reduceIte, reduceCtorEq, Int.reduceEq, Int.reduceLT, Int.reduceLE, Int.reduceBEq, Int.reduceBNe, Int.reduceToNat, IntKind.bits, Int.reduceAdd, Int.reduceSub, Int.reduceMul, Int.reduceTDiv, Int.reduceTMod, DB, DB2, DB3, R7B, take_add, List.append_assoc, List.length_append, Nat.add_assoc, shrink_lit, ball_app, RG, LPB, k1, k2, tupS, expCell, List.nodup_cons, List.nodup_nil, List.not_mem_nil, not_false_eq_true, not_true_eq_false, and_true, and_false, if_false, List.mem_cons, mutIds, hR, hT]
    · simp only [RB, pickV, eqbV, notV, negV, convV, faddrV, fldV, idxV, eqaggV, iaddrV, isnilV, nilckV, cloV, extrV, slenV, minV, sidxV, abin, cmpInt, params, growLists, fillCells, newAt, rdPtr, wrPtr, AV.cells, asVal, lenOf, boundOf, rowsOf, argIds, freshIn, scalar1, setAll, AV.isData, AV.isYld, Nat.reduceAdd, Nat.reduceMul, Nat.reduceSub, Nat.reduceEqDiff, Nat.reduceLeDiff, Nat.reduceLT, Int.reduceNeg, ↓reduceIte, reduceCtorEq, Int.reduceEq, Int.reduceLT, Int.reduceLE, Int.reduceBEq, Int.reduceBNe, Int.reduceToNat, IntKind.bits, Int.reduceAdd, Int.reduceSub, Int.reduceMul, Int.reduceTDiv, Int.reduceTMod, DB, DB2, DB3, R7B, take_add, List.append_assoc, List.length_append, Nat.add_assoc, shrink_lit, ball_app, RG, LPB, k1, k2, tupS, expCell, List.nodup_cons, List.nodup_nil, List.not_mem_nil, not_false_eq_true, not_true_eq_false, and_true, and_false, if_false, List.mem_cons, mutIds]
  · simp only [RB, pickV, eqbV, notV, negV, convV, faddrV, fldV, idxV, eqaggV, iaddrV, isnilV, nilckV, cloV, extrV, slenV, minV, sidxV, abin, cmpInt, params, growLists, fillCells, newAt, rdPtr, wrPtr, AV.cells, asVal, lenOf, boundOf, rowsOf, argIds, freshIn, scalar1, setAll, AV.isData, AV.isYld, Nat.reduceAdd, Nat.reduceMul, Nat.reduceSub, Nat.reduceEqDiff, Nat.reduceLeDiff, Nat.reduceLT, Int.reduceNeg, ↓reduceIte, reduceCtorEq, Int.reduceEq, Int.reduceLT, Int.reduceLE, Int.reduceBEq, Int.reduceBNe, Int.reduceToNat, IntKind.bits, Int.reduceAdd, Int.reduceSub, Int.reduceMul, Int.reduceTDiv, Int.reduceTMod, DB, DB2, DB3, R7B, take_add, List.append_assoc, List.length_append, Nat.add_assoc, shrink_lit, ball_app, RG, LPB, k1, tupS, expCell, List.nodup_cons, List.nodup_nil, List.not_mem_nil, not_false_eq_true, not_true_eq_false, and_true, and_false, if_false, List.mem_cons, mutIds]
theorem e24 (a b : List Cd) (x y : Cnt) (ha : a.length ≤ 1000000) (hb : b.length ≤ 1000000) : LV E 24 [.agg (.ro (drows a) :: nav x), .agg (.ro (drows b) :: nav y)] = some (tupS (sinceS a x b y)) := by
  rw [LV_R (fn := f24) rfl rfl rfl]
  have h := r53b b a y x [] zerN true hb ha (fun c _ => c) stB (fun s ext c d => by
    obtain ⟨e, h⟩ := r54 (ys := []) (pend := []) ([.box 0 27 (.ro (drows a) :: nav x), .box 0 27 (.ro (drows b) :: nav y), .box 0 27 (.lis 3 0 0 0 :: nav zerN), .lst 0 0 60 20 [], .box 0 4 [.bool s], .dead, .dead] ++ ext) (a := 4) (s := s) rfl c d
    exact ⟨e, h⟩)
  simp only [f24, ← nav_zer, RB, pickV, eqbV, notV, negV, convV, faddrV, fldV, idxV, eqaggV, iaddrV, isnilV, nilckV, cloV, extrV, slenV, minV, sidxV, abin, cmpInt, params, growLists, fillCells, newAt, rdPtr, wrPtr, AV.cells, asVal, lenOf, boundOf, rowsOf, argIds, freshIn, scalar1, setAll, AV.isData, AV.isYld, Nat.reduceAdd, Nat.reduceMul, Nat.reduceSub, Nat.reduceEqDiff, Nat.reduceLeDiff, Nat.reduceLT, Int.reduceNeg, ↓reduceIte, reduceCtorEq, Int.reduceEq, Int.reduceLT, Int.reduceLE, Int.reduceBEq, Int.reduceBNe, Int.reduceToNat, IntKind.bits, Int.reduceAdd, Int.reduceSub, Int.reduceMul, Int.reduceTDiv, Int.reduceTMod, DB, DB2, DB3, R7B, take_add, List.append_assoc, List.length_append, Nat.add_assoc, shrink_lit, ball_app, RG, LPB, h]
  unfold sinceS
  by_cases k1 : TalOk b y ∧ TalOk a x
  · by_cases k2 : b.map Cd.p = a.map Cd.p
    · have hl : b.length = a.length := by simpa using congrArg List.length k2
      have h2 := r53c a b x y (bothR (fun c _ => c) b a b.length) y (fitsS a x b y) ha hb lessN (fun s _ _ => s) (fun s ext c d => r56 _ c d)
      have hR := bothR_len lessN a b a.length
      have hT : (drows (bothR lessN a b a.length)).take a.length = drows (bothR lessN a b a.length) := List.take_of_length_le (by rw [drows_len, hR]; exact Nat.le_refl _)
      have e1 : (TalOk a x ∧ TalOk b y) = True := by simp [k1]
      have e2 : (a.map Cd.p = b.map Cd.p) = True := by simp [k2]
      simp only [bothR_len (fun c _ => c), e1, e2, if_true, List.cons_append, List.nil_append] at h2
      simp only [RB, pickV, eqbV, notV, negV, convV, faddrV, fldV, idxV, eqaggV, iaddrV, isnilV, nilckV, cloV, extrV, slenV, minV, sidxV, abin, cmpInt, params, growLists, fillCells, newAt, rdPtr, wrPtr, AV.cells, asVal, lenOf, boundOf, rowsOf, argIds, freshIn, scalar1, setAll, AV.isData, AV.isYld, Nat.reduceAdd, Nat.reduceMul, Nat.reduceSub, Nat.reduceEqDiff, Nat.reduceLeDiff, Nat.reduceLT, Int.reduceNeg, ↓reduceIte, reduceCtorEq, Int.reduceEq, Int.reduceLT, Int.reduceLE, Int.reduceBEq, Int.reduceBNe, Int.reduceToNat, IntKind.bits, Int.reduceAdd, Int.reduceSub, Int.reduceMul, Int.reduceTDiv, Int.reduceTMod, DB, DB2, DB3, R7B, take_add, List.append_assoc, List.length_append, Nat.add_assoc, shrink_lit, ball_app, RG, LPB, k1, k2, bne_self_eq_false]
      cases hf : fitsS a x b y with
      | true =>
        have hf' := hf
        unfold fitsS at hf'
        rw [hf] at h2
        simp only [RB, pickV, eqbV, notV, negV, convV, faddrV, fldV, idxV, eqaggV, iaddrV, isnilV, nilckV, cloV, extrV, slenV, minV, sidxV, abin, cmpInt, params, growLists, fillCells, newAt, rdPtr, wrPtr, AV.cells, asVal, lenOf, boundOf, rowsOf, argIds, freshIn, scalar1, setAll, AV.isData, AV.isYld, Nat.reduceAdd, Nat.reduceMul, Nat.reduceSub, Nat.reduceEqDiff, Nat.reduceLeDiff, Nat.reduceLT, Int.reduceNeg, ↓reduceIte, reduceCtorEq, Int.reduceEq, Int.reduceLT, Int.reduceLE, Int.reduceBEq, Int.reduceBNe, Int.reduceToNat, IntKind.bits, Int.reduceAdd, Int.reduceSub, Int.reduceMul, Int.reduceTDiv, Int.reduceTMod, DB, DB2, DB3, R7B, take_add, List.append_assoc, List.length_append, Nat.add_assoc, shrink_lit, ball_app, RG, LPB, hf', h2, bne_self_eq_false, tupS, expCell, List.nodup_cons, List.nodup_nil, List.not_mem_nil, not_false_eq_true, not_true_eq_false, and_true, and_false, if_false, List.mem_cons, mutIds, hR, hT]
      | false =>
        have hf' := hf
        unfold fitsS at hf'
        simp only [RB, pickV, eqbV, notV, negV, convV, faddrV, fldV, idxV, eqaggV, iaddrV, isnilV, nilckV, cloV, extrV, slenV, minV, sidxV, abin, cmpInt, params, growLists, fillCells, newAt, rdPtr, wrPtr, AV.cells, asVal, lenOf, boundOf, rowsOf, argIds, freshIn, scalar1, setAll, AV.isData, AV.isYld, Nat.reduceAdd, Nat.reduceMul, Nat.reduceSub, Nat.reduceEqDiff, Nat.reduceLeDiff, Nat.reduceLT, Int.reduceNeg, ↓reduceIte, reduceCtorEq, Int.reduceEq, Int.reduceLT, Int.reduceLE, Int.reduceBEq, Int.reduceBNe, Int.reduceToNat, IntKind.bits, Int.reduceAdd, Int.reduceSub, Int.reduceMul, Int.reduceTDiv, Int.reduceTMod, DB, DB2, DB3, R7B, take_add, List.append_assoc, List.length_append, Nat.add_assoc, shrink_lit, ball_app, RG, LPB, hf', bne_self_eq_false, tupS, expCell, List.nodup_cons, List.nodup_nil, List.not_mem_nil, not_false_eq_true, not_true_eq_false, and_true, and_false, if_false, List.mem_cons, mutIds]
    · simp only [RB, pickV, eqbV, notV, negV, convV, faddrV, fldV, idxV, eqaggV, iaddrV, isnilV, nilckV, cloV, extrV, slenV, minV, sidxV, abin, cmpInt, params, growLists, fillCells, newAt, rdPtr, wrPtr, AV.cells, asVal, lenOf, boundOf, rowsOf, argIds, freshIn, scalar1, setAll, AV.isData, AV.isYld, Nat.reduceAdd, Nat.reduceMul, Nat.reduceSub, Nat.reduceEqDiff, Nat.reduceLeDiff, Nat.reduceLT, Int.reduceNeg, ↓reduceIte, reduceCtorEq, Int.reduceEq, Int.reduceLT, Int.reduceLE, Int.reduceBEq, Int.reduceBNe, Int.reduceToNat, IntKind.bits, Int.reduceAdd, Int.reduceSub, Int.reduceMul, Int.reduceTDiv, Int.reduceTMod, DB, DB2, DB3, R7B, take_add, List.append_assoc, List.length_append, Nat.add_assoc, shrink_lit, ball_app, RG, LPB, k1, k2, tupS, expCell, List.nodup_cons, List.nodup_nil, List.not_mem_nil, not_false_eq_true, not_true_eq_false, and_true, and_false, if_false, List.mem_cons, mutIds]
  · simp only [RB, pickV, eqbV, notV, negV, convV, faddrV, fldV, idxV, eqaggV, iaddrV, isnilV, nilckV, cloV, extrV, slenV, minV, sidxV, abin, cmpInt, params, growLists, fillCells, newAt, rdPtr, wrPtr, AV.cells, asVal, lenOf, boundOf, rowsOf, argIds, freshIn, scalar1, setAll, AV.isData, AV.isYld, Nat.reduceAdd, Nat.reduceMul, Nat.reduceSub, Nat.reduceEqDiff, Nat.reduceLeDiff, Nat.reduceLT, Int.reduceNeg, ↓reduceIte, reduceCtorEq, Int.reduceEq, Int.reduceLT, Int.reduceLE, Int.reduceBEq, Int.reduceBNe, Int.reduceToNat, IntKind.bits, Int.reduceAdd, Int.reduceSub, Int.reduceMul, Int.reduceTDiv, Int.reduceTMod, DB, DB2, DB3, R7B, take_add, List.append_assoc, List.length_append, Nat.add_assoc, shrink_lit, ball_app, RG, LPB, k1, tupS, expCell, List.nodup_cons, List.nodup_nil, List.not_mem_nil, not_false_eq_true, not_true_eq_false, and_true, and_false, if_false, List.mem_cons, mutIds]
end Go.Proofs.YtdllnneeopbmdaaDoor.F

/- TallyJoins: the law. No condition. -/
set_option linter.unusedSimpArgs false
namespace Go.Proofs.YtdllnneeopbmdaaDoor.F
open Go Go.Proofs.YtdllnneeopbmdaaDoor.A Go.Proofs.YtdllnneeopbmdaaDoor.D
theorem c2_len (c d : Cnt) : (nav c ++ nav d).length = 4 := rfl
theorem c2_p (c d : Cnt) : piece (nav c ++ nav d) 0 4 = some (nav c ++ nav d) := rfl
theorem c2_0 (c d : Cnt) : piece (nav c ++ nav d) 0 2 = some (nav c) := rfl
theorem c2_2 (c d : Cnt) : piece (nav c ++ nav d) 2 2 = some (nav d) := rfl
theorem c2_below (m : Nat) (c d : Cnt) : belowL m (nav c ++ nav d) = true := by rw [below_append]; simp [nav_below]
theorem eq_plus {c d : Cnt} : (NOk c ∧ NOk d) → (if NOk c ∧ NOk d then plusN c d else zerN) = plusN c d := fun h => if_pos h
theorem tn_0 (v : AV) (c : Cnt) : piece (v :: nav c) 1 1 = some [.int .u64 c.pk] := rfl
theorem tn_1 (v : AV) (c : Cnt) : piece (v :: nav c) 2 1 = some [.int .u64 c.by'] := rfl
/-- Of a row of statements: from the n-th on. -/
def dropS : Nat → ACode → ACode
  | n + 1, .seq _ t => dropS n t
  | _, c => c
/-- The loop that the first statement ends in. -/
def loopS : ACode → ACode
  | .seq (.seq _ (.block _ (.loop _ c))) _ => c
  | c => c
/-- Whether the rows' prefixes are the same. -/
def sameP (a b : List Cd) : Bool := decide (a.map Cd.p = b.map Cd.p)
def sameK (a b : List Cd) (k : Nat) : Bool := decide (a.length = b.length) && (List.range k).all fun i => decide ((dow a i).p = (dow b i).p)
theorem sameK_zero (a b : List Cd) : sameK a b 0 = ((a.length : Int) == (b.length : Int)) := by
  rw [Bool.eq_iff_iff]; simp [sameK]; omega
theorem sameK_len {a b : List Cd} {k : Nat} (h : sameK a b k = true) : a.length = b.length := by
  simp only [sameK, Bool.and_eq_true, decide_eq_true_eq] at h; exact h.1
theorem sameK_succ (a b : List Cd) (k : Nat) : sameK a b (k + 1) = (sameK a b k && decide ((dow a k).p = (dow b k).p)) := by
  simp only [sameK, List.range_succ, List.all_append, List.all_cons, List.all_nil, Bool.and_true, Bool.and_assoc]
theorem sameK_end (a b : List Cd) : sameK a b a.length = sameP a b := by
  unfold sameK sameP
  rw [Bool.eq_iff_iff, Bool.and_eq_true, decide_eq_true_eq, decide_eq_true_eq, List.all_eq_true]
  constructor
  · rintro ⟨h1, h2⟩
    exact (dof_iff h1).1 fun i _ hi => by simpa using h2 i (List.mem_range.2 hi)
  · intro h
    have h1 : a.length = b.length := by simpa using congrArg List.length h
    exact ⟨h1, fun i hi => by simpa using (dof_iff h1).2 h i (Nat.zero_le _) (List.mem_range.1 hi)⟩
theorem sameK_false {a b : List Cd} {k : Nat} (hk : k ≤ a.length) (h : sameK a b k = false) : sameP a b = false := by
  rw [← sameK_end]
  unfold sameK at *
  rw [Bool.and_eq_false_iff] at *
  rcases h with h | h
  · exact .inl h
  · refine .inr ?_
    rw [List.all_eq_false] at *
    obtain ⟨i, hi, h⟩ := h
    exact ⟨i, List.mem_range.2 (Nat.lt_of_lt_of_le (List.mem_range.1 hi) hk), h⟩
set_option maxRecDepth 4000 in
theorem joins2 (a : List Cd) (x : Cnt) (b : List Cd) (y : Cnt) (ws : List AV) (p : Cnt) (f0 : Bool) (ha : a.length ≤ 200) (hb : b.length ≤ 200) (hws : belowL 10 ws = true) (k1 : TalOk a x) (k2 : TalOk b y) (k3 : a.map Cd.p = b.map Cd.p) (hf : f0 = stB true y x) :
    W E [] (ZV [.t 6] false) 10 [4, 10, 11, 12, 13, 17, 18, 19, 213, 214, 215] (loopS (dropS 15 f5.body)) [(4, .ptr 1 0 0 0), (10, .ptr 4 0 0 0), (11, .int .i64 0), (12, .ptr 5 0 0 0), (13, .int .i64 (sinceS a x b y).2), (17, .ptr 8 0 0 0), (18, .ptr 9 0 0 0), (19, .bool f0), (213, .ro (drows a)), (214, .int .i64 (a.length : Int)), (215, .int .i64 0)]
      ⟨[.box 0 27 (.ro (drows a) :: nav x), .box 0 27 (.ro (drows b) :: nav y), .box 0 50 ws, .box 0 25 (nav p), .box 0 27 (.ro (drows (bothR plusN a b a.length)) :: nav (plusN x y)), .box 0 27 (.ro (drows (sinceS a x b y).1.1) :: nav (sinceS a x b y).1.2), .lst 0 0 60 20 [], .lst 0 0 60 20 [], .box 0 27 (.lis 6 0 0 0 :: nav (plusN x y)), .box 0 27 (.lis 7 0 0 0 :: nav (lessN x y))], []⟩ [.blk 2, .code (dropS 16 f5.body)] = some (.bool true) := by
  simp only [f5, dropS, loopS, ← nav_zer, ← dav_zer]
  have hl : a.length = b.length := by simpa using congrArg List.length k3
  refine (W_rec2 (β := AV) (ι := {k : Nat // k ≤ a.length}) (M := fun k => [(4, .ptr 1 0 0 0), (10, .ptr 4 0 0 0), (11, .int .i64 0), (12, .ptr 5 0 0 0), (13, .int .i64 (sinceS a x b y).2), (17, .ptr 8 0 0 0), (18, .ptr 9 0 0 0), (19, .bool (bothF stB b a (stB true y x) k.1)), (213, .ro (drows a)), (214, .int .i64 (a.length : Int)), (215, .int .i64 (k.1 : Int))])
    (H := fun k => ⟨[.box 0 27 (.ro (drows a) :: nav x), .box 0 27 (.ro (drows b) :: nav y), .box 0 50 ws, .box 0 25 (nav p), .box 0 27 (.ro (drows (bothR plusN a b a.length)) :: nav (plusN x y)), .box 0 27 (.ro (drows (sinceS a x b y).1.1) :: nav (sinceS a x b y).1.2), .lst 0 k.1 60 20 (drows (bothR plusN a b k.1)), .lst 0 k.1 60 20 (drows (bothR lessN a b k.1)), .box 0 27 (.lis 6 k.1 0 k.1 :: nav (plusN x y)), .box 0 27 (.lis 7 k.1 0 k.1 :: nav (lessN x y))], []⟩)
    (r := fun _ => some (AV.bool true)) (μ := fun k => a.length - k.1) (fun k => ?_) (fun k ih => ?_) ⟨0, Nat.zero_le _⟩ (by rw [hf]; rfl) rfl)
  · simp [LPB, nav_below, hws]
  · obtain ⟨k, hka⟩ := k
    simp only at ih ⊢
    by_cases hk : k < a.length
    · have f1 : (k : Int) < (a.length : Int) := by omega
      have f2 : (0 : Int) ≤ (k : Int) := by omega
      have f6 : IntKind.i64.wrap ((k : Int) + 1) = ((k + 1 : Nat) : Int) := by rw [IntWalk.i64_in _ (by omega)] <;> omega
      have g1 := drows_get a hk
      have g2 := drows_get b (show k < b.length by omega)
      have ih := ih ⟨k + 1, hk⟩ (by simp only; omega)
      simp only [bothR_succ, bothF_succ] at ih
      have hZ := bothR_len plusN a b k
      have hY := bothR_len lessN a b k
      generalize bothR plusN a b k = Z at *
      generalize bothR lessN a b k = Y at *
      generalize bothF stB b a (stB true y x) k = s at *
      have f7 : (k + 1) * 48 ≤ 140737488355328 := by omega
      have f8 : k ≤ 4611686018427387903 := by omega
      have f12 : ∀ r, headFits 20 [dav r] = true := fun r => drows_fit [r]
      have f13 : Z.take k = Z := by rw [← hZ, List.take_length]
      have f14 : Y.take k = Y := by rw [← hY, List.take_length]
      have hL : ∀ c d : Cnt, nav (⟨IntKind.u64.wrap (c.pk - d.pk), IntKind.u64.wrap (c.by' - d.by')⟩) = nav (lessN c d) := fun _ _ => rfl
      have hst : stB s (dow b k).c (dow a k).c = (s && (decide ((dow b k).c.pk ≤ (dow a k).c.pk) && decide ((dow b k).c.by' ≤ (dow a k).c.by'))) := by
        unfold stB
        congr 1
        refine Bool.eq_iff_iff.2 ⟨fun h => ?_, fun h => ?_⟩
        · have h := of_decide_eq_true h
          simp only [Bool.and_eq_true, decide_eq_true_eq]; exact h
        · rw [Bool.and_eq_true, decide_eq_true_eq, decide_eq_true_eq] at h; exact decide_eq_true h
      rw [hst] at ih
      by_cases hs : s = true
      · by_cases hq : (dow b k).c.pk ≤ (dow a k).c.pk
        · simp only [hs, hq, decide_true, Bool.true_and] at ih
          simp only [RB, pickV, eqbV, notV, negV, convV, faddrV, fldV, idxV, eqaggV, iaddrV, isnilV, nilckV, cloV, extrV, slenV, minV, sidxV, abin, cmpInt, params, growLists, fillCells, newAt, rdPtr, wrPtr, AV.cells, asVal, lenOf, boundOf, rowsOf, argIds, freshIn, scalar1, setAll, AV.isData, AV.isYld, Nat.reduceAdd, Nat.reduceMul, Nat.reduceSub, Nat.reduceEqDiff, Nat.reduceLeDiff, Nat.reduceLT, Int.reduceNeg, ↓reduceIte, reduceCtorEq, Int.reduceEq, Int.reduceLT, Int.reduceLE, Int.reduceBEq, Int.reduceBNe, Int.reduceToNat, IntKind.bits, Int.reduceAdd, Int.reduceSub, Int.reduceMul, Int.reduceTDiv, Int.reduceTMod, DB, DB2, DB3, R7B, take_add, List.append_assoc, List.length_append, Nat.add_assoc, shrink_lit, ball_app, RG, LPB, f1, f2, f6, g1, g2, hs, hq, e22, tn_0, tn_1, hL, O_buildSlq, quietOk, aop_buildSl, fillRows, asData, aappend, hZ, hY, f7, f8, f12, f13, f14, Nat.le_refl]
          exact ih
        · simp only [hs, hq, decide_false, Bool.true_and, Bool.false_and] at ih
          simp only [RB, pickV, eqbV, notV, negV, convV, faddrV, fldV, idxV, eqaggV, iaddrV, isnilV, nilckV, cloV, extrV, slenV, minV, sidxV, abin, cmpInt, params, growLists, fillCells, newAt, rdPtr, wrPtr, AV.cells, asVal, lenOf, boundOf, rowsOf, argIds, freshIn, scalar1, setAll, AV.isData, AV.isYld, Nat.reduceAdd, Nat.reduceMul, Nat.reduceSub, Nat.reduceEqDiff, Nat.reduceLeDiff, Nat.reduceLT, Int.reduceNeg, ↓reduceIte, reduceCtorEq, Int.reduceEq, Int.reduceLT, Int.reduceLE, Int.reduceBEq, Int.reduceBNe, Int.reduceToNat, IntKind.bits, Int.reduceAdd, Int.reduceSub, Int.reduceMul, Int.reduceTDiv, Int.reduceTMod, DB, DB2, DB3, R7B, take_add, List.append_assoc, List.length_append, Nat.add_assoc, shrink_lit, ball_app, RG, LPB, f1, f2, f6, g1, g2, hs, hq, e22, tn_0, tn_1, hL, O_buildSlq, quietOk, aop_buildSl, fillRows, asData, aappend, hZ, hY, f7, f8, f12, f13, f14, Nat.le_refl]
          exact ih
      · rw [Bool.not_eq_true] at hs
        simp only [hs, Bool.false_and] at ih
        simp only [RB, pickV, eqbV, notV, negV, convV, faddrV, fldV, idxV, eqaggV, iaddrV, isnilV, nilckV, cloV, extrV, slenV, minV, sidxV, abin, cmpInt, params, growLists, fillCells, newAt, rdPtr, wrPtr, AV.cells, asVal, lenOf, boundOf, rowsOf, argIds, freshIn, scalar1, setAll, AV.isData, AV.isYld, Nat.reduceAdd, Nat.reduceMul, Nat.reduceSub, Nat.reduceEqDiff, Nat.reduceLeDiff, Nat.reduceLT, Int.reduceNeg, ↓reduceIte, reduceCtorEq, Int.reduceEq, Int.reduceLT, Int.reduceLE, Int.reduceBEq, Int.reduceBNe, Int.reduceToNat, IntKind.bits, Int.reduceAdd, Int.reduceSub, Int.reduceMul, Int.reduceTDiv, Int.reduceTMod, DB, DB2, DB3, R7B, take_add, List.append_assoc, List.length_append, Nat.add_assoc, shrink_lit, ball_app, RG, LPB, f1, f2, f6, g1, g2, hs, e22, tn_0, tn_1, hL, O_buildSlq, quietOk, aop_buildSl, fillRows, asData, aappend, hZ, hY, f7, f8, f12, f13, f14, Nat.le_refl]
        exact ih
    · have e : k = a.length := by omega
      subst e
      have hR := bothR_len plusN a b a.length
      have hT : (drows (bothR plusN a b a.length)).take a.length = drows (bothR plusN a b a.length) := List.take_of_length_le (by rw [drows_len, hR]; exact Nat.le_refl _)
      have hR' := bothR_len lessN a b a.length
      have hT' : (drows (bothR lessN a b a.length)).take a.length = drows (bothR lessN a b a.length) := List.take_of_length_le (by rw [drows_len, hR']; exact Nat.le_refl _)
      have q1 := e16 (bothR plusN a b a.length) (bothR plusN a b a.length) (plusN x y) (plusN x y) (by omega)
      have q2 := e16 (bothR lessN a b a.length) (bothR lessN a b a.length) (lessN x y) (lessN x y) (by omega)
      have k4 : b.map Cd.p = a.map Cd.p := k3.symm
      cases hF : bothF stB b a (stB true y x) a.length with
      | true =>
        have hs : sinceS a x b y = ((bothR lessN a b a.length, lessN x y), 0) := by
          unfold sinceS fitsS; simp only [k1, k2, k4, and_self, if_true, ← hl, hF]
        simp only [RB, pickV, eqbV, notV, negV, convV, faddrV, fldV, idxV, eqaggV, iaddrV, isnilV, nilckV, cloV, extrV, slenV, minV, sidxV, abin, cmpInt, params, growLists, fillCells, newAt, rdPtr, wrPtr, AV.cells, asVal, lenOf, boundOf, rowsOf, argIds, freshIn, scalar1, setAll, AV.isData, AV.isYld, Nat.reduceAdd, Nat.reduceMul, Nat.reduceSub, Nat.reduceEqDiff, Nat.reduceLeDiff, Nat.reduceLT, Int.reduceNeg, ↓reduceIte, reduceCtorEq, Int.reduceEq, Int.reduceLT, Int.reduceLE, Int.reduceBEq, Int.reduceBNe, Int.reduceToNat, IntKind.bits, Int.reduceAdd, Int.reduceSub, Int.reduceMul, Int.reduceTDiv, Int.reduceTMod, DB, DB2, DB3, R7B, take_add, List.append_assoc, List.length_append, Nat.add_assoc, shrink_lit, ball_app, RG, LPB, show ¬ (a.length : Int) < (a.length : Int) by omega, hs, hF, hR, hT, hR', hT', q1, q2, Nat.le_refl, CW_some, scalar, scalar1, lockAll, lockAt, reduceCtorEq, extrV, List.all_cons, List.all_nil, pairOk, AV.ids, List.contains_cons, List.contains_nil, Nat.reduceBEq, List.all_cons, List.all_nil, Bool.or_self, Bool.not_false, Bool.and_self, Bool.or_false, mutIds]
      | false =>
        have hs : sinceS a x b y = (([], zerN), 2) := by
          unfold sinceS fitsS; simp only [k1, k2, k4, and_self, if_true, ← hl, hF, Bool.false_eq_true, if_false]
        simp only [RB, pickV, eqbV, notV, negV, convV, faddrV, fldV, idxV, eqaggV, iaddrV, isnilV, nilckV, cloV, extrV, slenV, minV, sidxV, abin, cmpInt, params, growLists, fillCells, newAt, rdPtr, wrPtr, AV.cells, asVal, lenOf, boundOf, rowsOf, argIds, freshIn, scalar1, setAll, AV.isData, AV.isYld, Nat.reduceAdd, Nat.reduceMul, Nat.reduceSub, Nat.reduceEqDiff, Nat.reduceLeDiff, Nat.reduceLT, Int.reduceNeg, ↓reduceIte, reduceCtorEq, Int.reduceEq, Int.reduceLT, Int.reduceLE, Int.reduceBEq, Int.reduceBNe, Int.reduceToNat, IntKind.bits, Int.reduceAdd, Int.reduceSub, Int.reduceMul, Int.reduceTDiv, Int.reduceTMod, DB, DB2, DB3, R7B, take_add, List.append_assoc, List.length_append, Nat.add_assoc, shrink_lit, ball_app, RG, LPB, show ¬ (a.length : Int) < (a.length : Int) by omega, hs, hF, hR, hT, q1, Nat.le_refl, CW_some, scalar, scalar1, lockAll, lockAt, reduceCtorEq, extrV, List.all_cons, List.all_nil, pairOk, AV.ids, List.contains_cons, List.contains_nil, Nat.reduceBEq, List.all_cons, List.all_nil, Bool.or_self, Bool.not_false, Bool.and_self, Bool.or_false, mutIds]
end Go.Proofs.YtdllnneeopbmdaaDoor.F

/- TallyJoins: the first loop. No condition. -/
set_option linter.unusedSimpArgs false
namespace Go.Proofs.YtdllnneeopbmdaaDoor.F
open Go Go.Proofs.YtdllnneeopbmdaaDoor.A Go.Proofs.YtdllnneeopbmdaaDoor.D
set_option maxRecDepth 4000 in
theorem joins1 (a : List Cd) (x : Cnt) (b : List Cd) (y : Cnt) (c d p : Cnt) (ha : a.length ≤ 200) (hb : b.length ≤ 200) (k0 : TalOk a x ∧ TalOk b y) :
    W E [] (ZV [.t 6] false) 6 [3, 4, 10, 11, 12, 13, 14, 15, 16] (loopS (dropS 10 f5.body)) [(3, .ptr 0 0 0 0), (4, .ptr 1 0 0 0), (10, .ptr 4 0 0 0), (11, .int .i64 (bothS plusN a x b y).2), (12, .ptr 5 0 0 0), (13, .int .i64 (sinceS a x b y).2), (14, .int .i64 0), (15, .bool ((a.length : Int) == (b.length : Int))), (16, .int .i64 0)]
      ⟨[.box 0 27 (.ro (drows a) :: nav x), .box 0 27 (.ro (drows b) :: nav y), .box 0 50 (nav c ++ nav d), .box 0 25 (nav p), .box 0 27 (.ro (drows (bothS plusN a x b y).1.1) :: nav (bothS plusN a x b y).1.2), .box 0 27 (.ro (drows (sinceS a x b y).1.1) :: nav (sinceS a x b y).1.2)], []⟩ [.blk 0, .code (dropS 11 f5.body)] = some (.bool true) := by
  simp only [f5, dropS, loopS, ← nav_zer, ← dav_zer]
  generalize hr1 : bothS plusN a x b y = r1
  generalize hr2 : sinceS a x b y = r2
  have k1 := k0.1
  have k2 := k0.2
  refine (W_rec2 (β := AV) (ι := {k : Nat // k ≤ a.length}) (M := fun k => [(3, .ptr 0 0 0 0), (4, .ptr 1 0 0 0), (10, .ptr 4 0 0 0), (11, .int .i64 r1.2), (12, .ptr 5 0 0 0), (13, .int .i64 r2.2), (14, .int .i64 0), (15, .bool (sameK a b k.1)), (16, .int .i64 (k.1 : Int))]) (H := fun _ => ⟨[.box 0 27 (.ro (drows a) :: nav x), .box 0 27 (.ro (drows b) :: nav y), .box 0 50 (nav c ++ nav d), .box 0 25 (nav p), .box 0 27 (.ro (drows r1.1.1) :: nav r1.1.2), .box 0 27 (.ro (drows r2.1.1) :: nav r2.1.2)], []⟩) (r := fun _ => some (AV.bool true)) (μ := fun k => a.length - k.1) (fun k => ?_) (fun k ih => ?_) ⟨0, Nat.zero_le _⟩ (by rw [sameK_zero]; rfl) rfl)
  · simp [LPB, nav_below, c2_below]
  · obtain ⟨k, hka⟩ := k
    simp only at ih ⊢
    by_cases hs : sameK a b k = true
    · by_cases hk : k < a.length
      · have f1 : (k : Int) < (a.length : Int) := by omega
        have f2 : (0 : Int) ≤ (k : Int) := by omega
        have f6 : IntKind.i64.wrap ((k : Int) + 1) = ((k + 1 : Nat) : Int) := by rw [IntWalk.i64_in _ (by omega)] <;> omega
        have g1 := drows_get a hk
        have g2 := drows_get b (show k < b.length by have := sameK_len hs; omega)
        have ih := ih ⟨k + 1, hk⟩ (by simp only; omega)
        simp only [sameK_succ, hs, Bool.true_and] at ih
        simp only [RB, pickV, eqbV, notV, negV, convV, faddrV, fldV, idxV, eqaggV, iaddrV, isnilV, nilckV, cloV, extrV, slenV, minV, sidxV, abin, cmpInt, params, growLists, fillCells, newAt, rdPtr, wrPtr, AV.cells, asVal, lenOf, boundOf, rowsOf, argIds, freshIn, scalar1, setAll, AV.isData, AV.isYld, Nat.reduceAdd, Nat.reduceMul, Nat.reduceSub, Nat.reduceEqDiff, Nat.reduceLeDiff, Nat.reduceLT, Int.reduceNeg, ↓reduceIte, reduceCtorEq, Int.reduceEq, Int.reduceLT, Int.reduceLE, Int.reduceBEq, Int.reduceBNe, Int.reduceToNat, IntKind.bits, Int.reduceAdd, Int.reduceSub, Int.reduceMul, Int.reduceTDiv, Int.reduceTMod, DB, DB2, DB3, R7B, take_add, List.append_assoc, List.length_append, Nat.add_assoc, shrink_lit, ball_app, RG, LPB, f1, f2, f6, g1, g2, hs]
        exact ih
      · have e : k = a.length := by omega
        subst e
        have k3 : a.map Cd.p = b.map Cd.p := by have := (sameK_end a b).symm.trans hs; unfold sameP at this; simpa using this
        have k4 : b.map Cd.p = a.map Cd.p := k3.symm
        have hl : a.length = b.length := sameK_len hs
        have hr : bothS plusN a x b y = ((bothR plusN a b a.length, plusN x y), 0) := by
          unfold bothS; simp only [k1, k2, k3, and_self, if_true]
        subst hr1 hr2
        have hL : ∀ c d : Cnt, nav (⟨IntKind.u64.wrap (c.pk - d.pk), IntKind.u64.wrap (c.by' - d.by')⟩) = nav (lessN c d) := fun _ _ => rfl
        by_cases hq : y.pk ≤ x.pk
        · simp only [RB, pickV, eqbV, notV, negV, convV, faddrV, fldV, idxV, eqaggV, iaddrV, isnilV, nilckV, cloV, extrV, slenV, minV, sidxV, abin, cmpInt, params, growLists, fillCells, newAt, rdPtr, wrPtr, AV.cells, asVal, lenOf, boundOf, rowsOf, argIds, freshIn, scalar1, setAll, AV.isData, AV.isYld, Nat.reduceAdd, Nat.reduceMul, Nat.reduceSub, Nat.reduceEqDiff, Nat.reduceLeDiff, Nat.reduceLT, Int.reduceNeg, ↓reduceIte, reduceCtorEq, Int.reduceEq, Int.reduceLT, Int.reduceLE, Int.reduceBEq, Int.reduceBNe, Int.reduceToNat, IntKind.bits, Int.reduceAdd, Int.reduceSub, Int.reduceMul, Int.reduceTDiv, Int.reduceTMod, DB, DB2, DB3, R7B, take_add, List.append_assoc, List.length_append, Nat.add_assoc, shrink_lit, ball_app, RG, LPB, show ¬ (a.length : Int) < (a.length : Int) by omega, hs, e22, tn_0, tn_1, hL, hq, hr]
          exact joins2 a x b y _ p _ (by omega) (by omega) (c2_below _ _ _) k1 k2 k3 (by unfold stB Bel; simp [hq])
        · simp only [RB, pickV, eqbV, notV, negV, convV, faddrV, fldV, idxV, eqaggV, iaddrV, isnilV, nilckV, cloV, extrV, slenV, minV, sidxV, abin, cmpInt, params, growLists, fillCells, newAt, rdPtr, wrPtr, AV.cells, asVal, lenOf, boundOf, rowsOf, argIds, freshIn, scalar1, setAll, AV.isData, AV.isYld, Nat.reduceAdd, Nat.reduceMul, Nat.reduceSub, Nat.reduceEqDiff, Nat.reduceLeDiff, Nat.reduceLT, Int.reduceNeg, ↓reduceIte, reduceCtorEq, Int.reduceEq, Int.reduceLT, Int.reduceLE, Int.reduceBEq, Int.reduceBNe, Int.reduceToNat, IntKind.bits, Int.reduceAdd, Int.reduceSub, Int.reduceMul, Int.reduceTDiv, Int.reduceTMod, DB, DB2, DB3, R7B, take_add, List.append_assoc, List.length_append, Nat.add_assoc, shrink_lit, ball_app, RG, LPB, show ¬ (a.length : Int) < (a.length : Int) by omega, hs, e22, tn_0, tn_1, hL, hq, hr]
          exact joins2 a x b y _ p _ (by omega) (by omega) (c2_below _ _ _) k1 k2 k3 (by unfold stB Bel; simp [hq])
    · rw [Bool.not_eq_true] at hs
      have hs' := sameK_false hka hs
      have k3 : ¬ (a.map Cd.p = b.map Cd.p) := by unfold sameP at hs'; simpa using hs'
      have k4 : ¬ (b.map Cd.p = a.map Cd.p) := fun h => k3 h.symm
      subst hr1 hr2
      simp only [bothS, sinceS, k1, k2, k3, k4, and_self, if_true, if_false]
      by_cases hk : k < a.length
      · simp only [RB, pickV, eqbV, notV, negV, convV, faddrV, fldV, idxV, eqaggV, iaddrV, isnilV, nilckV, cloV, extrV, slenV, minV, sidxV, abin, cmpInt, params, growLists, fillCells, newAt, rdPtr, wrPtr, AV.cells, asVal, lenOf, boundOf, rowsOf, argIds, freshIn, scalar1, setAll, AV.isData, AV.isYld, Nat.reduceAdd, Nat.reduceMul, Nat.reduceSub, Nat.reduceEqDiff, Nat.reduceLeDiff, Nat.reduceLT, Int.reduceNeg, ↓reduceIte, reduceCtorEq, Int.reduceEq, Int.reduceLT, Int.reduceLE, Int.reduceBEq, Int.reduceBNe, Int.reduceToNat, IntKind.bits, Int.reduceAdd, Int.reduceSub, Int.reduceMul, Int.reduceTDiv, Int.reduceTMod, DB, DB2, DB3, R7B, take_add, List.append_assoc, List.length_append, Nat.add_assoc, shrink_lit, ball_app, RG, LPB, show (k : Int) < (a.length : Int) by omega, hs]
        done
      · simp only [RB, pickV, eqbV, notV, negV, convV, faddrV, fldV, idxV, eqaggV, iaddrV, isnilV, nilckV, cloV, extrV, slenV, minV, sidxV, abin, cmpInt, params, growLists, fillCells, newAt, rdPtr, wrPtr, AV.cells, asVal, lenOf, boundOf, rowsOf, argIds, freshIn, scalar1, setAll, AV.isData, AV.isYld, Nat.reduceAdd, Nat.reduceMul, Nat.reduceSub, Nat.reduceEqDiff, Nat.reduceLeDiff, Nat.reduceLT, Int.reduceNeg, ↓reduceIte, reduceCtorEq, Int.reduceEq, Int.reduceLT, Int.reduceLE, Int.reduceBEq, Int.reduceBNe, Int.reduceToNat, IntKind.bits, Int.reduceAdd, Int.reduceSub, Int.reduceMul, Int.reduceTDiv, Int.reduceTMod, DB, DB2, DB3, R7B, take_add, List.append_assoc, List.length_append, Nat.add_assoc, shrink_lit, ball_app, RG, LPB, show ¬ (k : Int) < (a.length : Int) by omega, hs]
        done
set_option maxRecDepth 4000 in
theorem joins0 (a : List Cd) (x : Cnt) (b : List Cd) (y : Cnt) (c d p : Cnt) (ha : a.length ≤ 200) (hb : b.length ≤ 200) (k0 : ¬ (TalOk a x ∧ TalOk b y)) :
    W E [] (ZV [.t 6] false) 6 [3, 4, 10, 11, 12, 13, 14, 15, 16] (loopS (dropS 10 f5.body)) [(3, .ptr 0 0 0 0), (4, .ptr 1 0 0 0), (10, .ptr 4 0 0 0), (11, .int .i64 (bothS plusN a x b y).2), (12, .ptr 5 0 0 0), (13, .int .i64 (sinceS a x b y).2), (14, .int .i64 410), (15, .bool ((a.length : Int) == (b.length : Int))), (16, .int .i64 0)]
      ⟨[.box 0 27 (.ro (drows a) :: nav x), .box 0 27 (.ro (drows b) :: nav y), .box 0 50 (nav c ++ nav d), .box 0 25 (nav p), .box 0 27 (.ro (drows (bothS plusN a x b y).1.1) :: nav (bothS plusN a x b y).1.2), .box 0 27 (.ro (drows (sinceS a x b y).1.1) :: nav (sinceS a x b y).1.2)], []⟩ [.blk 0, .code (dropS 11 f5.body)] = some (.bool true) := by
  simp only [f5, dropS, loopS, ← nav_zer, ← dav_zer]
  generalize hr1 : bothS plusN a x b y = r1
  generalize hr2 : sinceS a x b y = r2
  refine (W_rec2 (β := AV) (ι := {k : Nat // k ≤ a.length}) (M := fun k => [(3, .ptr 0 0 0 0), (4, .ptr 1 0 0 0), (10, .ptr 4 0 0 0), (11, .int .i64 r1.2), (12, .ptr 5 0 0 0), (13, .int .i64 r2.2), (14, .int .i64 410), (15, .bool (sameK a b k.1)), (16, .int .i64 (k.1 : Int))]) (H := fun _ => ⟨[.box 0 27 (.ro (drows a) :: nav x), .box 0 27 (.ro (drows b) :: nav y), .box 0 50 (nav c ++ nav d), .box 0 25 (nav p), .box 0 27 (.ro (drows r1.1.1) :: nav r1.1.2), .box 0 27 (.ro (drows r2.1.1) :: nav r2.1.2)], []⟩) (r := fun _ => some (AV.bool true)) (μ := fun k => a.length - k.1) (fun k => ?_) (fun k ih => ?_) ⟨0, Nat.zero_le _⟩ (by rw [sameK_zero]; rfl) rfl)
  · simp [LPB, nav_below, c2_below]
  · obtain ⟨k, hka⟩ := k
    simp only at ih ⊢
    by_cases hs : k < a.length ∧ sameK a b k = true
    · obtain ⟨hk, hs⟩ := hs
      have f1 : (k : Int) < (a.length : Int) := by omega
      have f2 : (0 : Int) ≤ (k : Int) := by omega
      have f6 : IntKind.i64.wrap ((k : Int) + 1) = ((k + 1 : Nat) : Int) := by rw [IntWalk.i64_in _ (by omega)] <;> omega
      have g1 := drows_get a hk
      have g2 := drows_get b (show k < b.length by have := sameK_len hs; omega)
      have ih := ih ⟨k + 1, hk⟩ (by simp only; omega)
      simp only [sameK_succ, hs, Bool.true_and] at ih
      simp only [RB, pickV, eqbV, notV, negV, convV, faddrV, fldV, idxV, eqaggV, iaddrV, isnilV, nilckV, cloV, extrV, slenV, minV, sidxV, abin, cmpInt, params, growLists, fillCells, newAt, rdPtr, wrPtr, AV.cells, asVal, lenOf, boundOf, rowsOf, argIds, freshIn, scalar1, setAll, AV.isData, AV.isYld, Nat.reduceAdd, Nat.reduceMul, Nat.reduceSub, Nat.reduceEqDiff, Nat.reduceLeDiff, Nat.reduceLT, Int.reduceNeg, ↓reduceIte, reduceCtorEq, Int.reduceEq, Int.reduceLT, Int.reduceLE, Int.reduceBEq, Int.reduceBNe, Int.reduceToNat, IntKind.bits, Int.reduceAdd, Int.reduceSub, Int.reduceMul, Int.reduceTDiv, Int.reduceTMod, DB, DB2, DB3, R7B, take_add, List.append_assoc, List.length_append, Nat.add_assoc, shrink_lit, ball_app, RG, LPB, f1, f2, f6, g1, g2, hs]
      exact ih
    · have k4 : ¬ (TalOk b y ∧ TalOk a x) := fun h => k0 ⟨h.2, h.1⟩
      subst hr1 hr2
      simp only [bothS, sinceS, k0, k4, if_false]
      by_cases hk : k < a.length
      · have hs : sameK a b k = false := by simpa [hk] using hs
        simp only [RB, pickV, eqbV, notV, negV, convV, faddrV, fldV, idxV, eqaggV, iaddrV, isnilV, nilckV, cloV, extrV, slenV, minV, sidxV, abin, cmpInt, params, growLists, fillCells, newAt, rdPtr, wrPtr, AV.cells, asVal, lenOf, boundOf, rowsOf, argIds, freshIn, scalar1, setAll, AV.isData, AV.isYld, Nat.reduceAdd, Nat.reduceMul, Nat.reduceSub, Nat.reduceEqDiff, Nat.reduceLeDiff, Nat.reduceLT, Int.reduceNeg, ↓reduceIte, reduceCtorEq, Int.reduceEq, Int.reduceLT, Int.reduceLE, Int.reduceBEq, Int.reduceBNe, Int.reduceToNat, IntKind.bits, Int.reduceAdd, Int.reduceSub, Int.reduceMul, Int.reduceTDiv, Int.reduceTMod, DB, DB2, DB3, R7B, take_add, List.append_assoc, List.length_append, Nat.add_assoc, shrink_lit, ball_app, RG, LPB, show (k : Int) < (a.length : Int) by omega, hs]
      · simp only [RB, pickV, eqbV, notV, negV, convV, faddrV, fldV, idxV, eqaggV, iaddrV, isnilV, nilckV, cloV, extrV, slenV, minV, sidxV, abin, cmpInt, params, growLists, fillCells, newAt, rdPtr, wrPtr, AV.cells, asVal, lenOf, boundOf, rowsOf, argIds, freshIn, scalar1, setAll, AV.isData, AV.isYld, Nat.reduceAdd, Nat.reduceMul, Nat.reduceSub, Nat.reduceEqDiff, Nat.reduceLeDiff, Nat.reduceLT, Int.reduceNeg, ↓reduceIte, reduceCtorEq, Int.reduceEq, Int.reduceLT, Int.reduceLE, Int.reduceBEq, Int.reduceBNe, Int.reduceToNat, IntKind.bits, Int.reduceAdd, Int.reduceSub, Int.reduceMul, Int.reduceTDiv, Int.reduceTMod, DB, DB2, DB3, R7B, take_add, List.append_assoc, List.length_append, Nat.add_assoc, shrink_lit, ball_app, RG, LPB, show ¬ (k : Int) < (a.length : Int) by omega]
end Go.Proofs.YtdllnneeopbmdaaDoor.F

/- TallyJoins: the run. No condition. -/
set_option linter.unusedSimpArgs false
namespace Go.Proofs.YtdllnneeopbmdaaDoor.F
open Go Go.Proofs.YtdllnneeopbmdaaDoor.A Go.Proofs.YtdllnneeopbmdaaDoor.D
set_option maxRecDepth 4000 in
theorem joins (a : List Cd) (x : Cnt) (b : List Cd) (y : Cnt) (c d : Cnt) : LV E 5 [.agg (.ro (drows a) :: nav x), .agg (.ro (drows b) :: nav y), .agg (nav c ++ nav d)] = some (.bool true) := by
  rw [LV_R (fn := f5) rfl rfl rfl]
  simp only [f5, ← nav_zer, ← dav_zer, RB, pickV, eqbV, notV, negV, convV, faddrV, fldV, idxV, eqaggV, iaddrV, isnilV, nilckV, cloV, extrV, slenV, minV, sidxV, abin, cmpInt, params, growLists, fillCells, newAt, rdPtr, wrPtr, AV.cells, asVal, lenOf, boundOf, rowsOf, argIds, freshIn, scalar1, setAll, AV.isData, AV.isYld, Nat.reduceAdd, Nat.reduceMul, Nat.reduceSub, Nat.reduceEqDiff, Nat.reduceLeDiff, Nat.reduceLT, Int.reduceNeg, ↓reduceIte, reduceCtorEq, Int.reduceEq, Int.reduceLT, Int.reduceLE, Int.reduceBEq, Int.reduceBNe, Int.reduceToNat, IntKind.bits, Int.reduceAdd, Int.reduceSub, Int.reduceMul, Int.reduceTDiv, Int.reduceTMod, DB, DB2, DB3, R7B, e10, c2_len]
  by_cases ha : 200 < a.length
  · simp only [RB, pickV, eqbV, notV, negV, convV, faddrV, fldV, idxV, eqaggV, iaddrV, isnilV, nilckV, cloV, extrV, slenV, minV, sidxV, abin, cmpInt, params, growLists, fillCells, newAt, rdPtr, wrPtr, AV.cells, asVal, lenOf, boundOf, rowsOf, argIds, freshIn, scalar1, setAll, AV.isData, AV.isYld, Nat.reduceAdd, Nat.reduceMul, Nat.reduceSub, Nat.reduceEqDiff, Nat.reduceLeDiff, Nat.reduceLT, Int.reduceNeg, ↓reduceIte, reduceCtorEq, Int.reduceEq, Int.reduceLT, Int.reduceLE, Int.reduceBEq, Int.reduceBNe, Int.reduceToNat, IntKind.bits, Int.reduceAdd, Int.reduceSub, Int.reduceMul, Int.reduceTDiv, Int.reduceTMod, DB, DB2, DB3, R7B, show (200 : Int) < (a.length : Int) by omega, expCell, List.nodup_cons, List.nodup_nil, List.not_mem_nil, not_false_eq_true, not_true_eq_false, and_true, and_false, if_false, List.mem_cons, mutIds]
  by_cases hb : 200 < b.length
  · simp only [RB, pickV, eqbV, notV, negV, convV, faddrV, fldV, idxV, eqaggV, iaddrV, isnilV, nilckV, cloV, extrV, slenV, minV, sidxV, abin, cmpInt, params, growLists, fillCells, newAt, rdPtr, wrPtr, AV.cells, asVal, lenOf, boundOf, rowsOf, argIds, freshIn, scalar1, setAll, AV.isData, AV.isYld, Nat.reduceAdd, Nat.reduceMul, Nat.reduceSub, Nat.reduceEqDiff, Nat.reduceLeDiff, Nat.reduceLT, Int.reduceNeg, ↓reduceIte, reduceCtorEq, Int.reduceEq, Int.reduceLT, Int.reduceLE, Int.reduceBEq, Int.reduceBNe, Int.reduceToNat, IntKind.bits, Int.reduceAdd, Int.reduceSub, Int.reduceMul, Int.reduceTDiv, Int.reduceTMod, DB, DB2, DB3, R7B, show ¬ (200 : Int) < (a.length : Int) by omega, show (200 : Int) < (b.length : Int) by omega, expCell, List.nodup_cons, List.nodup_nil, List.not_mem_nil, not_false_eq_true, not_true_eq_false, and_true, and_false, if_false, List.mem_cons, mutIds]
  have ha1 : a.length ≤ 1000000 := by omega
  have hb1 : b.length ≤ 1000000 := by omega
  have ha4 : a.length ≤ 4611686018427387904 := by omega
  have hb4 : b.length ≤ 4611686018427387904 := by omega
  obtain ⟨p, q20, hp1, hp0⟩ : ∃ p, LV E 20 [.agg (nav c), .agg (nav d)] = some (.tup [.agg (nav p), .int .i64 (if NOk c ∧ NOk d then 0 else 2)]) ∧ (NOk c → NOk d → (p = plusN c d) = True) ∧ (¬ (NOk c ∧ NOk d) → (p = zerN) = True) :=
    ⟨_, e20 c d, fun h1 h2 => by simp [h1, h2], fun h => by simp [h]⟩
  simp only [RB, pickV, eqbV, notV, negV, convV, faddrV, fldV, idxV, eqaggV, iaddrV, isnilV, nilckV, cloV, extrV, slenV, minV, sidxV, abin, cmpInt, params, growLists, fillCells, newAt, rdPtr, wrPtr, AV.cells, asVal, lenOf, boundOf, rowsOf, argIds, freshIn, scalar1, setAll, AV.isData, AV.isYld, Nat.reduceAdd, Nat.reduceMul, Nat.reduceSub, Nat.reduceEqDiff, Nat.reduceLeDiff, Nat.reduceLT, Int.reduceNeg, ↓reduceIte, reduceCtorEq, Int.reduceEq, Int.reduceLT, Int.reduceLE, Int.reduceBEq, Int.reduceBNe, Int.reduceToNat, IntKind.bits, Int.reduceAdd, Int.reduceSub, Int.reduceMul, Int.reduceTDiv, Int.reduceTMod, DB, DB2, DB3, R7B, show ¬ (200 : Int) < (a.length : Int) by omega, show ¬ (200 : Int) < (b.length : Int) by omega, c2_0, c2_2, q20, e21]
  by_cases h1 : NOk c <;> by_cases h2 : NOk d
  all_goals simp only [h1, h2, and_true, true_and, and_false, false_and, not_true_eq_false, not_false_eq_true, true_imp_iff, false_imp_iff, forall_const, if_true, if_false] at hp1 hp0 q20
  all_goals simp only [RB, pickV, eqbV, notV, negV, convV, faddrV, fldV, idxV, eqaggV, iaddrV, isnilV, nilckV, cloV, extrV, slenV, minV, sidxV, abin, cmpInt, params, growLists, fillCells, newAt, rdPtr, wrPtr, AV.cells, asVal, lenOf, boundOf, rowsOf, argIds, freshIn, scalar1, setAll, AV.isData, AV.isYld, Nat.reduceAdd, Nat.reduceMul, Nat.reduceSub, Nat.reduceEqDiff, Nat.reduceLeDiff, Nat.reduceLT, Int.reduceNeg, ↓reduceIte, reduceCtorEq, Int.reduceEq, Int.reduceLT, Int.reduceLE, Int.reduceBEq, Int.reduceBNe, Int.reduceToNat, IntKind.bits, Int.reduceAdd, Int.reduceSub, Int.reduceMul, Int.reduceTDiv, Int.reduceTMod, DB, DB2, DB3, R7B, h1, h2, hp1, hp0, e21, e22, c2_0, c2_2, e11 a x ha1, e11 b y hb1, e23 a b x y ha1 hb1, e24 a b x y ha1 hb1, e25 a x ha4, e25 b y hb4, CW_some, scalar, scalar1, lockAll, lockAt, reduceCtorEq, extrV, List.all_cons, List.all_nil, pairOk, AV.ids, List.contains_cons, List.contains_nil, Nat.reduceBEq, List.all_cons, List.all_nil, Bool.or_self, Bool.not_false, Bool.and_self, Bool.or_false, mutIds, bne_self_eq_false]
  all_goals
    generalize hr1 : bothS plusN a x b y = r1
    generalize hr2 : sinceS a x b y = r2
    simp only [RB, pickV, eqbV, notV, negV, convV, faddrV, fldV, idxV, eqaggV, iaddrV, isnilV, nilckV, cloV, extrV, slenV, minV, sidxV, abin, cmpInt, params, growLists, fillCells, newAt, rdPtr, wrPtr, AV.cells, asVal, lenOf, boundOf, rowsOf, argIds, freshIn, scalar1, setAll, AV.isData, AV.isYld, Nat.reduceAdd, Nat.reduceMul, Nat.reduceSub, Nat.reduceEqDiff, Nat.reduceLeDiff, Nat.reduceLT, Int.reduceNeg, ↓reduceIte, reduceCtorEq, Int.reduceEq, Int.reduceLT, Int.reduceLE, Int.reduceBEq, Int.reduceBNe, Int.reduceToNat, IntKind.bits, Int.reduceAdd, Int.reduceSub, Int.reduceMul, Int.reduceTDiv, Int.reduceTMod, DB, DB2, DB3, R7B, tupS, e11 a x ha1, e11 b y hb1, e24 a b x y ha1 hb1, hr2, e25 a x ha4, e25 b y hb4, CW_some, scalar, scalar1, lockAll, lockAt, reduceCtorEq, extrV, List.all_cons, List.all_nil, pairOk, AV.ids, List.contains_cons, List.contains_nil, Nat.reduceBEq, List.all_cons, List.all_nil, Bool.or_self, Bool.not_false, Bool.and_self, Bool.or_false, mutIds, bne_self_eq_false]
    by_cases k1 : TalOk a x
    · by_cases k2 : TalOk b y
      · simp only [RB, pickV, eqbV, notV, negV, convV, faddrV, fldV, idxV, eqaggV, iaddrV, isnilV, nilckV, cloV, extrV, slenV, minV, sidxV, abin, cmpInt, params, growLists, fillCells, newAt, rdPtr, wrPtr, AV.cells, asVal, lenOf, boundOf, rowsOf, argIds, freshIn, scalar1, setAll, AV.isData, AV.isYld, Nat.reduceAdd, Nat.reduceMul, Nat.reduceSub, Nat.reduceEqDiff, Nat.reduceLeDiff, Nat.reduceLT, Int.reduceNeg, ↓reduceIte, reduceCtorEq, Int.reduceEq, Int.reduceLT, Int.reduceLE, Int.reduceBEq, Int.reduceBNe, Int.reduceToNat, IntKind.bits, Int.reduceAdd, Int.reduceSub, Int.reduceMul, Int.reduceTDiv, Int.reduceTMod, DB, DB2, DB3, R7B, k1, k2, tupS, e11 a x ha1, e11 b y hb1, e24 a b x y ha1 hb1, hr2, e25 a x ha4, e25 b y hb4, CW_some, scalar, scalar1, lockAll, lockAt, reduceCtorEq, extrV, List.all_cons, List.all_nil, pairOk, AV.ids, List.contains_cons, List.contains_nil, Nat.reduceBEq, List.all_cons, List.all_nil, Bool.or_self, Bool.not_false, Bool.and_self, Bool.or_false, mutIds, bne_self_eq_false]
        subst hr1 hr2
        exact joins1 a x b y c d p (by omega) (by omega) ⟨k1, k2⟩
      · simp only [RB, pickV, eqbV, notV, negV, convV, faddrV, fldV, idxV, eqaggV, iaddrV, isnilV, nilckV, cloV, extrV, slenV, minV, sidxV, abin, cmpInt, params, growLists, fillCells, newAt, rdPtr, wrPtr, AV.cells, asVal, lenOf, boundOf, rowsOf, argIds, freshIn, scalar1, setAll, AV.isData, AV.isYld, Nat.reduceAdd, Nat.reduceMul, Nat.reduceSub, Nat.reduceEqDiff, Nat.reduceLeDiff, Nat.reduceLT, Int.reduceNeg, ↓reduceIte, reduceCtorEq, Int.reduceEq, Int.reduceLT, Int.reduceLE, Int.reduceBEq, Int.reduceBNe, Int.reduceToNat, IntKind.bits, Int.reduceAdd, Int.reduceSub, Int.reduceMul, Int.reduceTDiv, Int.reduceTMod, DB, DB2, DB3, R7B, k1, k2, tupS, e11 a x ha1, e11 b y hb1, e24 a b x y ha1 hb1, hr2, e25 a x ha4, e25 b y hb4, CW_some, scalar, scalar1, lockAll, lockAt, reduceCtorEq, extrV, List.all_cons, List.all_nil, pairOk, AV.ids, List.contains_cons, List.contains_nil, Nat.reduceBEq, List.all_cons, List.all_nil, Bool.or_self, Bool.not_false, Bool.and_self, Bool.or_false, mutIds, bne_self_eq_false]
        subst hr1 hr2
        exact joins0 a x b y c d p (by omega) (by omega) fun h => k2 h.2
    · simp only [RB, pickV, eqbV, notV, negV, convV, faddrV, fldV, idxV, eqaggV, iaddrV, isnilV, nilckV, cloV, extrV, slenV, minV, sidxV, abin, cmpInt, params, growLists, fillCells, newAt, rdPtr, wrPtr, AV.cells, asVal, lenOf, boundOf, rowsOf, argIds, freshIn, scalar1, setAll, AV.isData, AV.isYld, Nat.reduceAdd, Nat.reduceMul, Nat.reduceSub, Nat.reduceEqDiff, Nat.reduceLeDiff, Nat.reduceLT, Int.reduceNeg, ↓reduceIte, reduceCtorEq, Int.reduceEq, Int.reduceLT, Int.reduceLE, Int.reduceBEq, Int.reduceBNe, Int.reduceToNat, IntKind.bits, Int.reduceAdd, Int.reduceSub, Int.reduceMul, Int.reduceTDiv, Int.reduceTMod, DB, DB2, DB3, R7B, k1, tupS, e11 a x ha1, e11 b y hb1, e24 a b x y ha1 hb1, hr2, e25 a x ha4, e25 b y hb4, CW_some, scalar, scalar1, lockAll, lockAt, reduceCtorEq, extrV, List.all_cons, List.all_nil, pairOk, AV.ids, List.contains_cons, List.contains_nil, Nat.reduceBEq, List.all_cons, List.all_nil, Bool.or_self, Bool.not_false, Bool.and_self, Bool.or_false, mutIds, bne_self_eq_false]
      subst hr1 hr2
      exact joins0 a x b y c d p (by omega) (by omega) fun h => k1 h.1
end Go.Proofs.YtdllnneeopbmdaaDoor.F

/- Two counts that are read. No condition. -/
set_option linter.unusedSimpArgs false
set_option maxRecDepth 20000
namespace Go.Proofs.YtdllnneeopbmdaaDoor.D
open Go Go.RowKit Go.Proofs.YtdllnneeopbmdaaDoor.A Go.Proofs.YtdllnneeopbmdaaDoor.J
variable {w : World} {P : Program} {t : TypeId} {v : Value}
theorem okWide_array {m : Nat} {e : TypeId} {r : Reach} {base : Nat} (ht : P.underlying t = some (.array m e)) (h : Value.okWide P w r base t v) : ∃ cs, v = .agg cs ∧ cs.size = P.cellsOf t := by
  simp only [Value.okWide, ht] at h
  obtain ⟨cs, h1, h2, _⟩ := h
  exact ⟨cs, h1, h2⟩
theorem reads_cnts {m n : Nat} {e : TypeId} (h : Reads P w t v) (ht : P.underlying t = some (.array m e)) (hf : flat P n t = some [.i .u64, .i .u64, .i .u64, .i .u64]) : ∃ c d : Cnt, Rep w (Old w) [] [] [] (.agg (nav c ++ nav d)) v := by
  obtain ⟨⟨base, hb⟩, h⟩ := h
  obtain ⟨cs, rfl, _⟩ := okWide_array ht hb
  have h1 : Fits _ cs.toList := RdC.flat h hf
  obtain ⟨cs, rfl⟩ : ∃ l : List Value, cs = l.toArray := ⟨cs.toList, by simp⟩
  simp only at h1
  match cs, h1 with
  | [a, b, c, d], h1 =>
    have h2 := rep_flat (w := w) h1
    obtain ⟨⟨x, ha, _⟩, ⟨y, hb2, _⟩, ⟨z, hc', _⟩, ⟨u, hd, _⟩, _⟩ := h1
    subst ha hb2 hc' hd
    exact ⟨⟨x, y⟩, ⟨z, u⟩, h2⟩
end Go.Proofs.YtdllnneeopbmdaaDoor.D
