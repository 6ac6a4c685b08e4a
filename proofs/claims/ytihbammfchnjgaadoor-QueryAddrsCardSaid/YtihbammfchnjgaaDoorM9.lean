/- Part 9 of the proofs of these statements. No condition. -/
import Derived.Test.YtihbammfchnjgaaDoorM8
set_option linter.unusedVariables false
set_option linter.unusedSimpArgs false
/- QueryAddrs: who stands behind an address. No condition. -/
set_option linter.unusedSimpArgs false
namespace Go.Proofs.YtihbammfchnjgaaDoor.D
open Go Go.Proofs.YtihbammfchnjgaaDoor.A
theorem lex_less : ∀ (l r : List Nat), l.length = r.length → (∀ x ∈ l, x < 256) → (∀ x ∈ r, x < 256) → Op.bytesLess (l.map UInt8.ofNat) (r.map UInt8.ofNat) = decide (lexL (l.map fun x : Nat => (x : Int)) (r.map fun x : Nat => (x : Int)) < 0) ∧ ((l.map UInt8.ofNat) == (r.map UInt8.ofNat)) = decide (lexL (l.map fun x : Nat => (x : Int)) (r.map fun x : Nat => (x : Int)) = 0)
  | [], [], _, _, _ => ⟨rfl, rfl⟩
  | a :: l, b :: r, h, h1, h2 => by
    obtain ⟨i1, i2⟩ := lex_less l r (by simpa using h) (fun x hx => h1 x (List.mem_cons_of_mem _ hx)) (fun x hx => h2 x (List.mem_cons_of_mem _ hx))
    have ha := h1 a List.mem_cons_self
    have hb := h2 b List.mem_cons_self
    have e1 : (UInt8.ofNat a < UInt8.ofNat b) ↔ (a : Int) < (b : Int) := by
      rw [UInt8.lt_iff_toNat_lt]
      simp only [UInt8.toNat_ofNat', Nat.reducePow]
      rw [Nat.mod_eq_of_lt ha, Nat.mod_eq_of_lt hb]; omega
    have e2 : (UInt8.ofNat a == UInt8.ofNat b) = decide ((a : Int) = (b : Int)) := by
      rw [Bool.eq_iff_iff, beq_iff_eq, decide_eq_true_eq, ← UInt8.toNat_inj]
      simp only [UInt8.toNat_ofNat', Nat.reducePow]
      rw [Nat.mod_eq_of_lt ha, Nat.mod_eq_of_lt hb]; omega
    simp only [List.map_cons, Op.bytesLess, lexL, List.cons_beq_cons, i1, i2, e1, e2]
    by_cases c1 : (a : Int) < (b : Int)
    · simp only [c1, if_true, decide_true, Bool.true_or, show ¬ (a : Int) = b by omega, decide_false, Bool.false_and]; exact ⟨by decide, by decide⟩
    · by_cases c2 : (b : Int) < (a : Int)
      · simp only [c1, c2, if_true, if_false, decide_false, Bool.false_or, show ¬ (a : Int) = b by omega, Bool.false_and]; exact ⟨by decide, by decide⟩
      · simp only [c1, c2, if_false, decide_false, Bool.false_or, show (a : Int) = b by omega, decide_true, Bool.true_and]; refine ⟨?_, ?_⟩ <;> first | trivial | rfl | simp
  | [], _ :: _, h, _, _ => by simp at h
  | _ :: _, [], h, _, _ => by simp at h
theorem brows_of (b : B16) : bytesOf (brows b) = some (b.l.map UInt8.ofNat) := by
  unfold brows bav
  rw [List.map_map]
  have : ∀ l : List Nat, bytesOf (l.map ((fun c => [c]) ∘ u8c)) = some (l.map UInt8.ofNat) := fun l => by
    induction l with
    | nil => rfl
    | cons a l ih => 
      show bytesOf ([AV.int .u8 (a : Int)] :: _) = _
      simp only [bytesOf, ih, List.map_cons, Option.map_some, Int.toNat_natCast]
  exact this b.l
/-- An address's bytes as a text. -/
def str16 (b : B16) : ByteArray := ⟨(b.l.map UInt8.ofNat).toArray⟩
theorem str_gtr (a b : B16) : (!(Op.bytesLess (str16 a).toList (str16 b).toList || (str16 a).toList == (str16 b).toList)) = decide (0 < lexL (ints a) (ints b)) := by
  rw [Lib.toList_data, Lib.toList_data]
  obtain ⟨h1, h2⟩ := lex_less a.l b.l (by rw [a.len, b.len]) a.rng b.rng
  simp only [str16, h1, h2]
  unfold ints
  generalize lexL _ _ = x
  by_cases h3 : 0 < x
  · simp [h3, show ¬ x < 0 by omega, show ¬ x = 0 by omega]
  · by_cases h4 : x = 0
    · simp [h4]
    · simp [h3, show x < 0 by omega]
def Past (a : Adr) (r : Rw) : Bool := decide (r.p.adr.ver = a.ver) && decide (0 < lexL (ints r.p.adr.b) (ints a.b))
/-- Rows handed on, where what asks of them may change something itself. -/
def foldP {σ : Type} (pre : σ → Rw → σ) (P : Rw → Bool) (step : σ → Rw → σ × Bool) : List Rw → σ → σ
  | [], s => s
  | r :: l, s => if P r then (if (step (pre s r) r).2 then foldP pre P step l (step (pre s r) r).1 else (step (pre s r) r).1) else foldP pre P step l (pre s r)
end Go.Proofs.YtihbammfchnjgaaDoor.D
namespace Go.Proofs.YtihbammfchnjgaaDoor.F
open Go Go.Proofs.YtihbammfchnjgaaDoor.A Go.Proofs.YtihbammfchnjgaaDoor.D
structure IterP {σ : Type} (ys : List Hd) (d : Nat) (S : σ → Hp) (m a b : Nat) (l : List Rw) (P : Rw → Bool) (pre : σ → Rw → σ) (step : σ → Rw → σ × Bool) (ok : σ → Prop) where
  h : Hd
  hy : ys[d]? = some h
  g : FuncId
  caps : List AV
  len : ∀ s, (S s).bs.length = m
  low : ∀ s, belowAll m (S s).bs = true
  la : a < m
  lb : b < m
  ba : ∀ s, ∃ lk e, (S s).bs[a]? = some (.box lk e [.ro (rrows l)])
  bb : ∀ s, ∃ lk e, (S s).bs[b]? = some (.box lk e [.clo g caps])
  pr : ∀ s r x, ∃ ext, LR E ys g (.agg (pav r.p) :: caps) ⟨(S s).bs ++ [x], (S s).pend⟩ = some (.bool (P r), ⟨((S (pre s r)).bs ++ [x]) ++ ext, (S (pre s r)).pend⟩)
  okp : ∀ s r, ok s → ok (pre s r)
  oks : ∀ s r, ok s → (step s r).2 = true → ok (step s r).1
  hd : ∀ s k, k < l.length → ok s → P (row l k) = true → ∃ x', h [.agg (rav (row l k))] ⟨(S (pre s (row l k))).bs ++ [.box 0 59 (rav (row l k))], (S (pre s (row l k))).pend⟩ = some ((step (pre s (row l k)) (row l k)).2, ⟨(S (step (pre s (row l k)) (row l k)).1).bs ++ [x'], (S (step (pre s (row l k)) (row l k)).1).pend⟩)
theorem r76p {σ : Type} {ys : List Hd} {d : Nat} {S : σ → Hp} {m a b : Nat} {l : List Rw} {P : Rw → Bool} {pre : σ → Rw → σ} {step : σ → Rw → σ × Bool} {ok : σ → Prop} (I : IterP ys d S m a b l P pre step ok) (hl : l.length ≤ 4611686018427387904) (s : σ) (h0 : ok s) :
    ∃ ext, LR E ys 76 [.yld d, .ptr a 0 0 0, .ptr b 0 0 0] (S s) = some (.tup [], ⟨(S (foldP pre P step l s)).bs ++ ext, (S (foldP pre P step l s)).pend⟩) := by
  obtain ⟨h, hy, g, caps, len, low, la, lb, ba, bb, pr, okp, oks, hd⟩ := I
  rw [LR_R (fn := f76) rfl rfl rfl]
  obtain ⟨lk, e, ba0⟩ := ba s
  simp only [f76, RB, pickV, eqbV, notV, negV, convV, faddrV, fldV, idxV, eqaggV, iaddrV, isnilV, nilckV, cloV, extrV, slenV, minV, sidxV, abin, cmpInt, params, growLists, fillCells, newAt, rdPtr, wrPtr, AV.cells, asVal, lenOf, boundOf, rowsOf, argIds, freshIn, scalar1, setAll, AV.isData, AV.isYld, Nat.reduceAdd, Nat.reduceMul, Nat.reduceSub, Nat.reduceEqDiff, Nat.reduceLeDiff, Nat.reduceLT, Int.reduceNeg, ↓reduceIte, reduceCtorEq, Int.reduceEq, Int.reduceLT, Int.reduceLE, Int.reduceBEq, Int.reduceBNe, Int.reduceToNat, IntKind.bits, Int.reduceAdd, Int.reduceSub, Int.reduceMul, Int.reduceTDiv, Int.reduceTMod, DB, DB2, R7B, ba0]
  rw [len s]
  refine W_recP (ι := Nat × σ) (Q := fun i x => ok i.2 → ∃ ext, x = some (AV.tup [], (⟨(S (foldP pre P step (l.drop i.1) i.2)).bs ++ ext, (S (foldP pre P step (l.drop i.1) i.2)).pend⟩ : Hp))) (M := fun i => [(0, .yld d), (2, .ptr b 0 0 0), (7, .ro (rrows l)), (8, .int .i64 (l.length : Int)), (9, .int .i64 (i.1 : Int))]) (H := fun i => S i.2) (μ := fun i => l.length - i.1) (fun i => ?_) (fun i ih => ?_) (0, s) h0
  · exact ⟨by simp only [List.map_cons, List.map_nil, LPB, lb, decide_true, Bool.and_self], low _⟩
  · obtain ⟨k, s⟩ := i
    simp only at ih ⊢
    intro hok
    by_cases hk : k < l.length
    · have f1 : (k : Int) < (l.length : Int) := by omega
      have f2 : (0 : Int) ≤ (k : Int) := by omega
      have f6 : IntKind.i64.wrap ((k : Int) + 1) = ((k + 1 : Nat) : Int) := by rw [IntWalk.i64_in _ (by omega)] <;> omega
      have g1 := rrows_get l hk
      have edrop := row_drop l hk
      obtain ⟨lk', e', bb0⟩ := bb s
      have bb1 : ∀ r, ((S s).bs ++ r)[b]? = some (.box lk' e' [.clo g caps]) := fun r => get_lt bb0
      obtain ⟨ext, hpr⟩ := pr s (row l k) (.box 0 59 (rav (row l k)))
      have hlen : ∀ (s : σ) (x : Blk), ((S s).bs ++ [x]).length = m + 1 := fun s x => by simp [len]
      have hlow : belowAll (m + 1) ((S (pre s (row l k))).bs ++ [.box 0 59 (rav (row l k))]) = true := by
        rw [ball_app, belowAll_mono (by omega) (low _)]; simp only [LPB, Bool.and_self]
      have hsh : shrink false (m + 1) (.bool (P (row l k))) ⟨((S (pre s (row l k))).bs ++ [.box 0 59 (rav (row l k))]) ++ ext, (S (pre s (row l k))).pend⟩ = some ⟨(S (pre s (row l k))).bs ++ [.box 0 59 (rav (row l k))], (S (pre s (row l k))).pend⟩ := shrink_app (hlen _ _) rfl hlow
      have bx : ∀ s' : σ, ((S s').bs ++ [Blk.box 0 59 (rav (row l k))])[m]? = some (.box 0 59 (rav (row l k))) := fun s' => by
        rw [List.getElem?_append_right (by rw [len]; exact Nat.le_refl _), len, Nat.sub_self]; rfl
      cases hP : P (row l k) with
      | true =>
        obtain ⟨x', hh⟩ := hd s k hk hok hP
        cases hst : (step (pre s (row l k)) (row l k)).2 with
        | true =>
          rw [hP] at hpr hsh
          rw [hst] at hh
          have ih := ih (k + 1, (step (pre s (row l k)) (row l k)).1) (by simp only; omega) (oks _ _ (okp _ _ hok) hst)
          simp only [RB, pickV, eqbV, notV, negV, convV, faddrV, fldV, idxV, eqaggV, iaddrV, isnilV, nilckV, cloV, extrV, slenV, minV, sidxV, abin, cmpInt, params, growLists, fillCells, newAt, rdPtr, wrPtr, AV.cells, asVal, lenOf, boundOf, rowsOf, argIds, freshIn, scalar1, setAll, AV.isData, AV.isYld, Nat.reduceAdd, Nat.reduceMul, Nat.reduceSub, Nat.reduceEqDiff, Nat.reduceLeDiff, Nat.reduceLT, Int.reduceNeg, ↓reduceIte, reduceCtorEq, Int.reduceEq, Int.reduceLT, Int.reduceLE, Int.reduceBEq, Int.reduceBNe, Int.reduceToNat, IntKind.bits, Int.reduceAdd, Int.reduceSub, Int.reduceMul, Int.reduceTDiv, Int.reduceTMod, DB, DB2, R7B, f1, f2, f6, g1, len s, bb1, hpr, hsh, hlen, bx, CR_yld' hy, hh, take_at (len _), edrop, foldP, hP, hst]
          exact ih
        | false =>
          rw [hP] at hpr hsh
          rw [hst] at hh
          simp only [RB, pickV, eqbV, notV, negV, convV, faddrV, fldV, idxV, eqaggV, iaddrV, isnilV, nilckV, cloV, extrV, slenV, minV, sidxV, abin, cmpInt, params, growLists, fillCells, newAt, rdPtr, wrPtr, AV.cells, asVal, lenOf, boundOf, rowsOf, argIds, freshIn, scalar1, setAll, AV.isData, AV.isYld, Nat.reduceAdd, Nat.reduceMul, Nat.reduceSub, Nat.reduceEqDiff, Nat.reduceLeDiff, Nat.reduceLT, Int.reduceNeg, ↓reduceIte, reduceCtorEq, Int.reduceEq, Int.reduceLT, Int.reduceLE, Int.reduceBEq, Int.reduceBNe, Int.reduceToNat, IntKind.bits, Int.reduceAdd, Int.reduceSub, Int.reduceMul, Int.reduceTDiv, Int.reduceTMod, DB, DB2, R7B, f1, f2, f6, g1, len s, bb1, hpr, hsh, hlen, bx, CR_yld' hy, hh, take_at (len _), edrop, foldP, hP, hst, Bool.false_eq_true]
          exact ⟨_, rfl⟩
      | false =>
        rw [hP] at hpr hsh
        have ih := ih (k + 1, pre s (row l k)) (by simp only; omega) (okp _ _ hok)
        simp only [RB, pickV, eqbV, notV, negV, convV, faddrV, fldV, idxV, eqaggV, iaddrV, isnilV, nilckV, cloV, extrV, slenV, minV, sidxV, abin, cmpInt, params, growLists, fillCells, newAt, rdPtr, wrPtr, AV.cells, asVal, lenOf, boundOf, rowsOf, argIds, freshIn, scalar1, setAll, AV.isData, AV.isYld, Nat.reduceAdd, Nat.reduceMul, Nat.reduceSub, Nat.reduceEqDiff, Nat.reduceLeDiff, Nat.reduceLT, Int.reduceNeg, ↓reduceIte, reduceCtorEq, Int.reduceEq, Int.reduceLT, Int.reduceLE, Int.reduceBEq, Int.reduceBNe, Int.reduceToNat, IntKind.bits, Int.reduceAdd, Int.reduceSub, Int.reduceMul, Int.reduceTDiv, Int.reduceTMod, DB, DB2, R7B, f1, f2, f6, g1, len s, bb1, hpr, hsh, hlen, bx, take_at (len _), edrop, foldP, hP, Bool.false_eq_true]
        exact ih
    · simp only [RB, pickV, eqbV, notV, negV, convV, faddrV, fldV, idxV, eqaggV, iaddrV, isnilV, nilckV, cloV, extrV, slenV, minV, sidxV, abin, cmpInt, params, growLists, fillCells, newAt, rdPtr, wrPtr, AV.cells, asVal, lenOf, boundOf, rowsOf, argIds, freshIn, scalar1, setAll, AV.isData, AV.isYld, Nat.reduceAdd, Nat.reduceMul, Nat.reduceSub, Nat.reduceEqDiff, Nat.reduceLeDiff, Nat.reduceLT, Int.reduceNeg, ↓reduceIte, reduceCtorEq, Int.reduceEq, Int.reduceLT, Int.reduceLE, Int.reduceBEq, Int.reduceBNe, Int.reduceToNat, IntKind.bits, Int.reduceAdd, Int.reduceSub, Int.reduceMul, Int.reduceTDiv, Int.reduceTMod, DB, DB2, R7B, show ¬ (k : Int) < (l.length : Int) by omega, List.drop_eq_nil_of_le (show l.length ≤ k by omega), foldP]
      exact ⟨[], by rw [List.append_nil]⟩
end Go.Proofs.YtihbammfchnjgaaDoor.F
namespace Go.Proofs.YtihbammfchnjgaaDoor.F
open Go Go.Proofs.YtihbammfchnjgaaDoor.A Go.Proofs.YtihbammfchnjgaaDoor.D
theorem r76p_bind {σ β : Type} {ys : List Hd} {d : Nat} {S : σ → Hp} {m a b : Nat} {l : List Rw} {P : Rw → Bool} {pre : σ → Rw → σ} {step : σ → Rw → σ × Bool} {ok : σ → Prop} {F : AV × Hp → Option β} {x : Option β} (s : σ) (h0 : ok s) (hl : l.length ≤ 4611686018427387904) (I : IterP ys d S m a b l P pre step ok)
    (hF : ∀ ext, F (.tup [], ⟨(S (foldP pre P step l s)).bs ++ ext, (S (foldP pre P step l s)).pend⟩) = x) : (LR E ys 76 [.yld d, .ptr a 0 0 0, .ptr b 0 0 0] (S s)).bind F = x := by
  obtain ⟨ext, h⟩ := r76p I hl s h0
  rw [h]
  exact hF ext
theorem bav_col (b : B16) : (bav b).map (fun c => [c]) = brows b := rfl
theorem adr_b16 (a : Adr) : piece (aav a) 1 16 = some (bav a.b) := aav_b a
/-- What asks whether a prefix stands behind an address: it locks the address. -/
theorem r63 {ys : List Hd} {bs : List Blk} {pend : List (Option AExit)} {i lk e : Nat} (p : Pfx) (a : Adr) (h : bs[i]? = some (.box lk e (aav a))) (hl : lk ≠ 1) :
    ∃ x, LR E ys 63 [.agg (pav p), .ptr i 0 0 0] ⟨bs, pend⟩ = some (.bool (decide (p.adr.ver = a.ver) && decide (0 < lexL (ints p.adr.b) (ints a.b))), ⟨(if p.adr.ver = a.ver then bs.set i (.box 2 e (aav a)) else bs) ++ [x], pend⟩) := by
  have hi := (List.getElem?_eq_some_iff.1 h).1
  have g : ∀ r, (bs ++ r)[i]? = some (.box lk e (aav a)) := fun r => get_lt h
  have gn : ∀ x : Blk, (bs ++ [x])[bs.length]? = some x := fun x => by simp
  have sn : ∀ x y : Blk, (bs ++ [x]).set bs.length y = bs ++ [y] := fun x y => by simp
  have si : ∀ x y : Blk, (bs ++ [x]).set i y = bs.set i y ++ [x] := fun x y => by rw [List.set_append_left _ _ hi]
  rw [LR_R (fn := f63) rfl rfl rfl]
  by_cases hv : p.adr.ver = a.ver
  · simp only [f63, RB, pickV, eqbV, notV, negV, convV, faddrV, fldV, idxV, eqaggV, iaddrV, isnilV, nilckV, cloV, extrV, slenV, minV, sidxV, abin, cmpInt, params, growLists, fillCells, newAt, rdPtr, wrPtr, AV.cells, asVal, lenOf, boundOf, rowsOf, argIds, freshIn, scalar1, setAll, AV.isData, AV.isYld, Nat.reduceAdd, Nat.reduceMul, Nat.reduceSub, Nat.reduceEqDiff, Nat.reduceLeDiff, Nat.reduceLT, Int.reduceNeg, ↓reduceIte, reduceCtorEq, Int.reduceEq, Int.reduceLT, Int.reduceLE, Int.reduceBEq, Int.reduceBNe, Int.reduceToNat, IntKind.bits, Int.reduceAdd, Int.reduceSub, Int.reduceMul, Int.reduceTDiv, Int.reduceTMod, DB, DB2, R7B, g, gn, sn, si, hv, aop, hl, bav_col, e64, CW_some, scalar, scalar1, lockAll, lockAt, reduceCtorEq, extrV, List.all_cons, List.all_nil, pairOk, AV.ids, List.contains_cons, List.contains_nil, Nat.reduceBEq, List.all_cons, List.all_nil, Bool.or_self, Bool.not_false, Bool.and_self, Bool.or_false]
    exact ⟨_, rfl⟩
  · have hv' : (p.adr.ver == a.ver) = false := beq_eq_false_iff_ne.2 hv
    simp only [f63, RB, pickV, eqbV, notV, negV, convV, faddrV, fldV, idxV, eqaggV, iaddrV, isnilV, nilckV, cloV, extrV, slenV, minV, sidxV, abin, cmpInt, params, growLists, fillCells, newAt, rdPtr, wrPtr, AV.cells, asVal, lenOf, boundOf, rowsOf, argIds, freshIn, scalar1, setAll, AV.isData, AV.isYld, Nat.reduceAdd, Nat.reduceMul, Nat.reduceSub, Nat.reduceEqDiff, Nat.reduceLeDiff, Nat.reduceLT, Int.reduceNeg, ↓reduceIte, reduceCtorEq, Int.reduceEq, Int.reduceLT, Int.reduceLE, Int.reduceBEq, Int.reduceBNe, Int.reduceToNat, IntKind.bits, Int.reduceAdd, Int.reduceSub, Int.reduceMul, Int.reduceTDiv, Int.reduceTMod, DB, DB2, R7B, g, hv, hv', pairOk, AV.ids, List.contains_cons, List.contains_nil, Nat.reduceBEq, List.all_cons, List.all_nil, Bool.or_self, Bool.not_false, Bool.and_self, Bool.or_false]
    exact ⟨_, rfl⟩
def lkOf (b : Bool) : Nat := if b then 2 else 0
theorem lkOf_ne (b : Bool) : lkOf b ≠ 1 := by cases b <;> decide
def behP (a : Adr) (s : Option Rw × Bool) (r : Rw) : Option Rw × Bool := (s.1, s.2 || decide (r.p.adr.ver = a.ver))
def behT (s : Option Rw × Bool) (r : Rw) : (Option Rw × Bool) × Bool := ((some r, s.2), false)
theorem beh_fold (a : Adr) : ∀ (l : List Rw) (b : Bool), ∃ b', foldP (behP a) (Past a) behT l (none, b) = (l.find? (Past a), b')
  | [], b => ⟨b, rfl⟩
  | r :: l, b => by
    cases h : Past a r with
    | true => exact ⟨b || decide (r.p.adr.ver = a.ver), by simp [foldP, h, behT, behP]⟩
    | false =>
      obtain ⟨b', h'⟩ := beh_fold a l (b || decide (r.p.adr.ver = a.ver))
      exact ⟨b', by simp [foldP, h, behP, h']⟩
theorem e31 (l : List Rw) (hl : l.length ≤ 1000000) (a : Adr) : LV E 31 [.agg [.ro (rrows l)], .agg (aav a)] = some (if TabOk l then if AddrOk a then .tup [.agg (rav ((l.find? (Past a)).getD zerR)), .bool (l.find? (Past a)).isSome, .int .i64 0] else .tup [.agg (rav zerR), .bool false, .int .i64 150] else .tup [.agg (rav zerR), .bool false, .int .i64 190]) := by
  rw [LV_R (fn := f31) rfl rfl rfl]
  simp only [f31, ← rav_zer, RB, pickV, eqbV, notV, negV, convV, faddrV, fldV, idxV, eqaggV, iaddrV, isnilV, nilckV, cloV, extrV, slenV, minV, sidxV, abin, cmpInt, params, growLists, fillCells, newAt, rdPtr, wrPtr, AV.cells, asVal, lenOf, boundOf, rowsOf, argIds, freshIn, scalar1, setAll, AV.isData, AV.isYld, Nat.reduceAdd, Nat.reduceMul, Nat.reduceSub, Nat.reduceEqDiff, Nat.reduceLeDiff, Nat.reduceLT, Int.reduceNeg, ↓reduceIte, reduceCtorEq, Int.reduceEq, Int.reduceLT, Int.reduceLE, Int.reduceBEq, Int.reduceBNe, Int.reduceToNat, IntKind.bits, Int.reduceAdd, Int.reduceSub, Int.reduceMul, Int.reduceTDiv, Int.reduceTMod, DB, DB2, e60 l (show l.length ≤ 4611686018427387904 by omega)]
  by_cases h1 : TabOk l
  · by_cases h2 : AddrOk a
    · simp only [RB, pickV, eqbV, notV, negV, convV, faddrV, fldV, idxV, eqaggV, iaddrV, isnilV, nilckV, cloV, extrV, slenV, minV, sidxV, abin, cmpInt, params, growLists, fillCells, newAt, rdPtr, wrPtr, AV.cells, asVal, lenOf, boundOf, rowsOf, argIds, freshIn, scalar1, setAll, AV.isData, AV.isYld, Nat.reduceAdd, Nat.reduceMul, Nat.reduceSub, Nat.reduceEqDiff, Nat.reduceLeDiff, Nat.reduceLT, Int.reduceNeg, ↓reduceIte, reduceCtorEq, Int.reduceEq, Int.reduceLT, Int.reduceLE, Int.reduceBEq, Int.reduceBNe, Int.reduceToNat, IntKind.bits, Int.reduceAdd, Int.reduceSub, Int.reduceMul, Int.reduceTDiv, Int.reduceTMod, DB, DB2, h1, h2, e61, bne_self_eq_false, r46, R7B]
      rw [R_range (g := 76) (caps := [.ptr 5 0 0 0, .ptr 6 0 0 0]) (by simp only [RB, pickV, eqbV, notV, negV, convV, faddrV, fldV, idxV, eqaggV, iaddrV, isnilV, nilckV, cloV, extrV, slenV, minV, sidxV, abin, cmpInt, params, growLists, fillCells, newAt, rdPtr, wrPtr, AV.cells, asVal, lenOf, boundOf, rowsOf, argIds, freshIn, scalar1, setAll, AV.isData, AV.isYld, Nat.reduceAdd, Nat.reduceMul, Nat.reduceSub, Nat.reduceEqDiff, Nat.reduceLeDiff, Nat.reduceLT, Int.reduceNeg, ↓reduceIte, reduceCtorEq, Int.reduceEq, Int.reduceLT, Int.reduceLE, Int.reduceBEq, Int.reduceBNe, Int.reduceToNat, IntKind.bits, Int.reduceAdd, Int.reduceSub, Int.reduceMul, Int.reduceTDiv, Int.reduceTMod]) rfl]
      simp only [RB, pickV, eqbV, notV, negV, convV, faddrV, fldV, idxV, eqaggV, iaddrV, isnilV, nilckV, cloV, extrV, slenV, minV, sidxV, abin, cmpInt, params, growLists, fillCells, newAt, rdPtr, wrPtr, AV.cells, asVal, lenOf, boundOf, rowsOf, argIds, freshIn, scalar1, setAll, AV.isData, AV.isYld, Nat.reduceAdd, Nat.reduceMul, Nat.reduceSub, Nat.reduceEqDiff, Nat.reduceLeDiff, Nat.reduceLT, Int.reduceNeg, ↓reduceIte, reduceCtorEq, Int.reduceEq, Int.reduceLT, Int.reduceLE, Int.reduceBEq, Int.reduceBNe, Int.reduceToNat, IntKind.bits, Int.reduceAdd, Int.reduceSub, Int.reduceMul, Int.reduceTDiv, Int.reduceTMod, R7B]
      obtain ⟨b', hb'⟩ := beh_fold a l false
      refine r76p_bind (σ := Option Rw × Bool) (d := 0) (S := fun s => ⟨[.box 0 24 [.ro (rrows l)], .box (lkOf s.2) 30 (aav a), .box 0 59 (rav (s.1.getD zerR)), .box 0 4 [.bool s.1.isSome], .box 0 37 [.int .i64 0], .box 0 24 [.ro (rrows l)], .box 0 88 [.clo 63 [.ptr 1 0 0 0]]], [if s.1.isSome then some .ret else none]⟩)
        (m := 7) (a := 5) (b := 6) (l := l) (P := Past a) (pre := behP a) (step := behT) (ok := fun s => s.1 = none) (none, false) rfl (by omega) ⟨_, rfl, 63, [.ptr 1 0 0 0], fun s => rfl, fun s => by simp only [RB, pickV, eqbV, notV, negV, convV, faddrV, fldV, idxV, eqaggV, iaddrV, isnilV, nilckV, cloV, extrV, slenV, minV, sidxV, abin, cmpInt, params, growLists, fillCells, newAt, rdPtr, wrPtr, AV.cells, asVal, lenOf, boundOf, rowsOf, argIds, freshIn, scalar1, setAll, AV.isData, AV.isYld, Nat.reduceAdd, Nat.reduceMul, Nat.reduceSub, Nat.reduceEqDiff, Nat.reduceLeDiff, Nat.reduceLT, Int.reduceNeg, ↓reduceIte, reduceCtorEq, Int.reduceEq, Int.reduceLT, Int.reduceLE, Int.reduceBEq, Int.reduceBNe, Int.reduceToNat, IntKind.bits, Int.reduceAdd, Int.reduceSub, Int.reduceMul, Int.reduceTDiv, Int.reduceTMod, LPB], by omega, by omega, fun s => ⟨_, _, rfl⟩, fun s => ⟨_, _, rfl⟩, fun s r x => ?_, fun s r h => h, fun s r _ h => (by cases h), ?_⟩ fun ext => ?_
      · obtain ⟨y, hy⟩ := r63 (ys := _) (pend := [if s.1.isSome then some .ret else none]) (bs := [.box 0 24 [.ro (rrows l)], .box (lkOf s.2) 30 (aav a), .box 0 59 (rav (s.1.getD zerR)), .box 0 4 [.bool s.1.isSome], .box 0 37 [.int .i64 0], .box 0 24 [.ro (rrows l)], .box 0 88 [.clo 63 [.ptr 1 0 0 0]], x]) (i := 1) r.p a rfl (lkOf_ne s.2)
        refine ⟨[y], ?_⟩
        simp only [List.cons_append, List.nil_append]
        rw [hy]
        unfold Past behP
        by_cases hv : r.p.adr.ver = a.ver
        · simp [hv, lkOf]
        · simp [hv]
      · rintro ⟨o, b⟩ k hk ho hP
        simp only at ho; subst ho
        rw [handler_run rfl rfl]
        simp only [RB, pickV, eqbV, notV, negV, convV, faddrV, fldV, idxV, eqaggV, iaddrV, isnilV, nilckV, cloV, extrV, slenV, minV, sidxV, abin, cmpInt, params, growLists, fillCells, newAt, rdPtr, wrPtr, AV.cells, asVal, lenOf, boundOf, rowsOf, argIds, freshIn, scalar1, setAll, AV.isData, AV.isYld, Nat.reduceAdd, Nat.reduceMul, Nat.reduceSub, Nat.reduceEqDiff, Nat.reduceLeDiff, Nat.reduceLT, Int.reduceNeg, ↓reduceIte, reduceCtorEq, Int.reduceEq, Int.reduceLT, Int.reduceLE, Int.reduceBEq, Int.reduceBNe, Int.reduceToNat, IntKind.bits, Int.reduceAdd, Int.reduceSub, Int.reduceMul, Int.reduceTDiv, Int.reduceTMod, DB, DB2, R7B, take_add, List.append_assoc, List.length_append, Nat.add_assoc, shrink_lit, ball_app, RG, LPB, behT, behP, Option.isSome_some, Option.getD_some]
        exact ⟨_, rfl⟩
      · rw [hb']
        cases hf : l.find? (Past a) with
        | none => simp only [RB, pickV, eqbV, notV, negV, convV, faddrV, fldV, idxV, eqaggV, iaddrV, isnilV, nilckV, cloV, extrV, slenV, minV, sidxV, abin, cmpInt, params, growLists, fillCells, newAt, rdPtr, wrPtr, AV.cells, asVal, lenOf, boundOf, rowsOf, argIds, freshIn, scalar1, setAll, AV.isData, AV.isYld, Nat.reduceAdd, Nat.reduceMul, Nat.reduceSub, Nat.reduceEqDiff, Nat.reduceLeDiff, Nat.reduceLT, Int.reduceNeg, ↓reduceIte, reduceCtorEq, Int.reduceEq, Int.reduceLT, Int.reduceLE, Int.reduceBEq, Int.reduceBNe, Int.reduceToNat, IntKind.bits, Int.reduceAdd, Int.reduceSub, Int.reduceMul, Int.reduceTDiv, Int.reduceTMod, DB, DB2, R7B, take_add, List.append_assoc, List.length_append, Nat.add_assoc, shrink_lit, ball_app, RG, LPB, Option.isSome_none, Option.getD_none, expCell, List.nodup_cons, List.nodup_nil, List.not_mem_nil, not_false_eq_true, not_true_eq_false, and_true, and_false, if_false, List.mem_cons, mutIds]
        | some r => simp only [RB, pickV, eqbV, notV, negV, convV, faddrV, fldV, idxV, eqaggV, iaddrV, isnilV, nilckV, cloV, extrV, slenV, minV, sidxV, abin, cmpInt, params, growLists, fillCells, newAt, rdPtr, wrPtr, AV.cells, asVal, lenOf, boundOf, rowsOf, argIds, freshIn, scalar1, setAll, AV.isData, AV.isYld, Nat.reduceAdd, Nat.reduceMul, Nat.reduceSub, Nat.reduceEqDiff, Nat.reduceLeDiff, Nat.reduceLT, Int.reduceNeg, ↓reduceIte, reduceCtorEq, Int.reduceEq, Int.reduceLT, Int.reduceLE, Int.reduceBEq, Int.reduceBNe, Int.reduceToNat, IntKind.bits, Int.reduceAdd, Int.reduceSub, Int.reduceMul, Int.reduceTDiv, Int.reduceTMod, DB, DB2, R7B, take_add, List.append_assoc, List.length_append, Nat.add_assoc, shrink_lit, ball_app, RG, LPB, Option.isSome_some, Option.getD_some, expCell, List.nodup_cons, List.nodup_nil, List.not_mem_nil, not_false_eq_true, not_true_eq_false, and_true, and_false, if_false, List.mem_cons, mutIds]
    · simp only [RB, pickV, eqbV, notV, negV, convV, faddrV, fldV, idxV, eqaggV, iaddrV, isnilV, nilckV, cloV, extrV, slenV, minV, sidxV, abin, cmpInt, params, growLists, fillCells, newAt, rdPtr, wrPtr, AV.cells, asVal, lenOf, boundOf, rowsOf, argIds, freshIn, scalar1, setAll, AV.isData, AV.isYld, Nat.reduceAdd, Nat.reduceMul, Nat.reduceSub, Nat.reduceEqDiff, Nat.reduceLeDiff, Nat.reduceLT, Int.reduceNeg, ↓reduceIte, reduceCtorEq, Int.reduceEq, Int.reduceLT, Int.reduceLE, Int.reduceBEq, Int.reduceBNe, Int.reduceToNat, IntKind.bits, Int.reduceAdd, Int.reduceSub, Int.reduceMul, Int.reduceTDiv, Int.reduceTMod, DB, DB2, h1, h2, e61, bne_self_eq_false, expCell, List.nodup_cons, List.nodup_nil, List.not_mem_nil, not_false_eq_true, not_true_eq_false, and_true, and_false, if_false, List.mem_cons, mutIds]
  · simp only [RB, pickV, eqbV, notV, negV, convV, faddrV, fldV, idxV, eqaggV, iaddrV, isnilV, nilckV, cloV, extrV, slenV, minV, sidxV, abin, cmpInt, params, growLists, fillCells, newAt, rdPtr, wrPtr, AV.cells, asVal, lenOf, boundOf, rowsOf, argIds, freshIn, scalar1, setAll, AV.isData, AV.isYld, Nat.reduceAdd, Nat.reduceMul, Nat.reduceSub, Nat.reduceEqDiff, Nat.reduceLeDiff, Nat.reduceLT, Int.reduceNeg, ↓reduceIte, reduceCtorEq, Int.reduceEq, Int.reduceLT, Int.reduceLE, Int.reduceBEq, Int.reduceBNe, Int.reduceToNat, IntKind.bits, Int.reduceAdd, Int.reduceSub, Int.reduceMul, Int.reduceTDiv, Int.reduceTMod, DB, DB2, h1, expCell, List.nodup_cons, List.nodup_nil, List.not_mem_nil, not_false_eq_true, not_true_eq_false, and_true, and_false, if_false, List.mem_cons, mutIds]
end Go.Proofs.YtihbammfchnjgaaDoor.F

/- QueryLongest. No condition. -/
set_option linter.unusedSimpArgs false
namespace Go.Proofs.YtihbammfchnjgaaDoor.F
open Go Go.Proofs.YtihbammfchnjgaaDoor.A Go.Proofs.YtihbammfchnjgaaDoor.D
def arows (l : List Adr) : List (List AV) := l.map aav
theorem arows_len (l : List Adr) : (arows l).length = l.length := by simp [arows]
theorem arows_get (l : List Adr) {i : Nat} (h : i < l.length) : (arows l)[i]? = some (aav l[i]) := by simp [arows, h]
theorem longest (x : List Rw) (l : List Adr) (hl : l.length ≤ 9223372036854775807) : LV E 8 [.agg [.ro (rrows x)], .ro (arows l)] = some (.bool true) := by
  have hT : (x.take 41).length ≤ 1000000 := by simp; omega
  rw [LV_R (fn := f8) rfl rfl rfl]
  simp only [f8, ← rav_zer]
  simp only [← aav_zer, RB, pickV, eqbV, notV, negV, convV, faddrV, fldV, idxV, eqaggV, iaddrV, isnilV, nilckV, cloV, extrV, slenV, minV, sidxV, abin, cmpInt, params, growLists, fillCells, newAt, rdPtr, wrPtr, AV.cells, asVal, lenOf, boundOf, rowsOf, argIds, freshIn, scalar1, setAll, AV.isData, AV.isYld, Nat.reduceAdd, Nat.reduceMul, Nat.reduceSub, Nat.reduceEqDiff, Nat.reduceLeDiff, Nat.reduceLT, Int.reduceNeg, ↓reduceIte, reduceCtorEq, Int.reduceEq, Int.reduceLT, Int.reduceLE, Int.reduceBEq, Int.reduceBNe, Int.reduceToNat, IntKind.bits, Int.reduceAdd, Int.reduceSub, Int.reduceMul, Int.reduceTDiv, Int.reduceTMod, DB, DB2, R7B, e11, e12, arows_len]
  generalize x.take 41 = T at *
  refine (W_rec2 (β := AV) (ι := {k : Nat // k ≤ 12}) (M := fun s => [(5, .ptr 1 0 0 0), (18, .ro (arows l)), (19, .int .i64 (l.length : Int)), (20, .int .i64 (s.1 : Int))])
    (H := fun _ => ⟨[.box 0 24 [.ro (rrows x)], .box 0 24 [.ro (rrows T)], .lst 0 0 59 19 []], []⟩)
    (r := fun _ => some (AV.bool true)) (μ := fun s => 13 - s.1) (fun s => ?_) (fun s ih => ?_) ⟨0, by omega⟩ rfl rfl)
  · simp [LPB]
  · obtain ⟨k, hk12⟩ := s
    simp only at ih ⊢
    by_cases hk : k < l.length
    · have f1 : (k : Int) < (l.length : Int) := by omega
      have f2 : (0 : Int) ≤ (k : Int) := by omega
      have g1 := arows_get l hk
      generalize l[k] = a at g1
      by_cases h12 : k = 12
      · have f3 : ((k : Int) == 12) = true := by rw [beq_iff_eq]; omega
        simp only [RB, pickV, eqbV, notV, negV, convV, faddrV, fldV, idxV, eqaggV, iaddrV, isnilV, nilckV, cloV, extrV, slenV, minV, sidxV, abin, cmpInt, params, growLists, fillCells, newAt, rdPtr, wrPtr, AV.cells, asVal, lenOf, boundOf, rowsOf, argIds, freshIn, scalar1, setAll, AV.isData, AV.isYld, Nat.reduceAdd, Nat.reduceMul, Nat.reduceSub, Nat.reduceEqDiff, Nat.reduceLeDiff, Nat.reduceLT, Int.reduceNeg, ↓reduceIte, reduceCtorEq, Int.reduceEq, Int.reduceLT, Int.reduceLE, Int.reduceBEq, Int.reduceBNe, Int.reduceToNat, IntKind.bits, Int.reduceAdd, Int.reduceSub, Int.reduceMul, Int.reduceTDiv, Int.reduceTMod, DB, DB2, R7B, f1, f2, f3, g1]
      · have f3 : ((k : Int) == 12) = false := by rw [beq_eq_false_iff_ne]; omega
        have f6 : IntKind.i64.wrap ((k : Int) + 1) = ((k + 1 : Nat) : Int) := by rw [IntWalk.i64_in _ (by omega)] <;> omega
        have ih := ih ⟨k + 1, by omega⟩ (by simp only; omega)
        simp only at ih
        by_cases h1 : TabOk T
        · by_cases h2 : AddrOk a
          · simp only [RB, pickV, eqbV, notV, negV, convV, faddrV, fldV, idxV, eqaggV, iaddrV, isnilV, nilckV, cloV, extrV, slenV, minV, sidxV, abin, cmpInt, params, growLists, fillCells, newAt, rdPtr, wrPtr, AV.cells, asVal, lenOf, boundOf, rowsOf, argIds, freshIn, scalar1, setAll, AV.isData, AV.isYld, Nat.reduceAdd, Nat.reduceMul, Nat.reduceSub, Nat.reduceEqDiff, Nat.reduceLeDiff, Nat.reduceLT, Int.reduceNeg, ↓reduceIte, reduceCtorEq, Int.reduceEq, Int.reduceLT, Int.reduceLE, Int.reduceBEq, Int.reduceBNe, Int.reduceToNat, IntKind.bits, Int.reduceAdd, Int.reduceSub, Int.reduceMul, Int.reduceTDiv, Int.reduceTMod, DB, DB2, R7B, f1, f2, f3, f6, g1, e30 T hT, e36 T hT, h1, h2, bne_self_eq_false, CW_some, scalar, scalar1, lockAll, lockAt, reduceCtorEq, extrV, List.all_cons, List.all_nil]
            have hr : Rise (T.filter fun r => decide (Has r.p a)) := h1.rise.filter _
            have hlong : longS a T none = (T.filter fun r => decide (Has r.p a)).getLast? := by
              rw [long_last T none h1.rise (fun b hb => by cases hb)]
              cases (T.filter fun r => decide (Has r.p a)).getLast? <;> rfl
            have hhas : ∀ j, j < (T.filter fun r => decide (Has r.p a)).length → Has (row (T.filter fun r => decide (Has r.p a)) j).p a := fun j hj => by
              have := List.mem_of_getElem? (row_some _ hj)
              simpa using (List.mem_filter.1 this).2
            have hFl : (T.filter fun r => decide (Has r.p a)).length ≤ 1000000 := Nat.le_trans (List.length_filter_le _ _) hT
            rw [hlong]
            generalize (T.filter fun r => decide (Has r.p a)) = F at *
            refine (W_rec2 (β := AV) (ι := {j : Nat // j ≤ F.length})
              (M := fun s => [(5, .ptr 1 0 0 0), (8, .lis 4 0 0 F.length), (10, .ptr 5 0 0 0), (11, .bool F.getLast?.isSome), (18, .ro (arows l)), (19, .int .i64 (l.length : Int)), (20, .int .i64 (k : Int)), (46, .int .i64 (F.length : Int)), (47, .int .i64 (s.1 : Int))])
              (H := fun _ => ⟨[.box 0 24 [.ro (rrows x)], .box 0 24 [.ro (rrows T)], .lst 0 0 59 19 [], .box 0 30 (aav a), .lst 0 0 59 19 (rrows F), .box 0 59 (rav (F.getLast?.getD zerR))], []⟩)
              (r := fun _ => some (AV.bool true)) (μ := fun s => F.length - s.1) (fun s => ?_) (fun s ihj => ?_) ⟨0, by omega⟩ rfl rfl)
            · simp [LPB]
            · obtain ⟨j, hj⟩ := s
              simp only at ihj ⊢
              by_cases hjF : j < F.length
              · have ihj := ihj ⟨j + 1, by omega⟩ (by simp only; omega)
                simp only at ihj
                have d1 : (j : Int) < (F.length : Int) := by omega
                have d2 : (0 : Int) ≤ (j : Int) := by omega
                have d6 : IntKind.i64.wrap ((j : Int) + 1) = ((j + 1 : Nat) : Int) := by rw [IntWalk.i64_in _ (by omega)] <;> omega
                by_cases hj0 : 0 < j
                · have d3 : (0 : Int) < (j : Int) := by omega
                  have d4 : IntKind.i64.wrap ((j : Int) - 1) = ((j - 1 : Nat) : Int) := by rw [IntWalk.i64_in _ (by omega)] <;> omega
                  have d5 : j - 1 < F.length := by omega
                  have c1 := rrows_get F hjF
                  have c2 := rrows_get F d5
                  have hlt : cmpP (row F (j - 1)).p (row F j).p < 0 := by
                    have k1 := row_some F d5
                    have k2 := row_some F hjF
                    rw [List.getElem?_eq_getElem d5] at k1
                    rw [List.getElem?_eq_getElem hjF] at k2
                    have := List.pairwise_iff_getElem.1 hr (j - 1) j d5 hjF (by omega)
                    rw [Option.some.inj k1, Option.some.inj k2] at this
                    exact this
                  obtain ⟨b1, b2⟩ := has_lt (hhas _ d5) (hhas _ hjF) hlt
                  simp only [RB, pickV, eqbV, notV, negV, convV, faddrV, fldV, idxV, eqaggV, iaddrV, isnilV, nilckV, cloV, extrV, slenV, minV, sidxV, abin, cmpInt, params, growLists, fillCells, newAt, rdPtr, wrPtr, AV.cells, asVal, lenOf, boundOf, rowsOf, argIds, freshIn, scalar1, setAll, AV.isData, AV.isYld, Nat.reduceAdd, Nat.reduceMul, Nat.reduceSub, Nat.reduceEqDiff, Nat.reduceLeDiff, Nat.reduceLT, Int.reduceNeg, ↓reduceIte, reduceCtorEq, Int.reduceEq, Int.reduceLT, Int.reduceLE, Int.reduceBEq, Int.reduceBNe, Int.reduceToNat, IntKind.bits, Int.reduceAdd, Int.reduceSub, Int.reduceMul, Int.reduceTDiv, Int.reduceTMod, DB, DB2, R7B, d1, d2, d3, d4, d5, d6, hjF, c1, c2, lisFits, show ¬ (row F j).p.bits ≤ (row F (j - 1)).p.bits by omega, e37, b2]
                  exact ihj
                · have d3 : ¬ (0 : Int) < (j : Int) := by omega
                  simp only [RB, pickV, eqbV, notV, negV, convV, faddrV, fldV, idxV, eqaggV, iaddrV, isnilV, nilckV, cloV, extrV, slenV, minV, sidxV, abin, cmpInt, params, growLists, fillCells, newAt, rdPtr, wrPtr, AV.cells, asVal, lenOf, boundOf, rowsOf, argIds, freshIn, scalar1, setAll, AV.isData, AV.isYld, Nat.reduceAdd, Nat.reduceMul, Nat.reduceSub, Nat.reduceEqDiff, Nat.reduceLeDiff, Nat.reduceLT, Int.reduceNeg, ↓reduceIte, reduceCtorEq, Int.reduceEq, Int.reduceLT, Int.reduceLE, Int.reduceBEq, Int.reduceBNe, Int.reduceToNat, IntKind.bits, Int.reduceAdd, Int.reduceSub, Int.reduceMul, Int.reduceTDiv, Int.reduceTMod, DB, DB2, R7B, d1, d3, d6]
                  exact ihj
              · have d1 : ¬ (j : Int) < (F.length : Int) := by omega
                cases hF : F.getLast? with
                | none =>
                  have : F = [] := by simpa using hF
                  subst this
                  simp only [RB, pickV, eqbV, notV, negV, convV, faddrV, fldV, idxV, eqaggV, iaddrV, isnilV, nilckV, cloV, extrV, slenV, minV, sidxV, abin, cmpInt, params, growLists, fillCells, newAt, rdPtr, wrPtr, AV.cells, asVal, lenOf, boundOf, rowsOf, argIds, freshIn, scalar1, setAll, AV.isData, AV.isYld, Nat.reduceAdd, Nat.reduceMul, Nat.reduceSub, Nat.reduceEqDiff, Nat.reduceLeDiff, Nat.reduceLT, Int.reduceNeg, ↓reduceIte, reduceCtorEq, Int.reduceEq, Int.reduceLT, Int.reduceLE, Int.reduceBEq, Int.reduceBNe, Int.reduceToNat, IntKind.bits, Int.reduceAdd, Int.reduceSub, Int.reduceMul, Int.reduceTDiv, Int.reduceTMod, DB, DB2, R7B, show ¬ (j : Int) < 0 by omega, f6, Option.isSome_none, Int.cast_ofNat_Int, Option.getD_none]
                  exact ih
                | some r =>
                  have hne : 0 < F.length := by
                    cases F with
                    | nil => simp at hF
                    | cons => simp
                  have c0 : (0 : Int) < (F.length : Int) := by omega
                  have c1 : IntKind.i64.wrap ((F.length : Int) - 1) = ((F.length - 1 : Nat) : Int) := by rw [IntWalk.i64_in _ (by omega)] <;> omega
                  have c2 : F.length - 1 < F.length := by omega
                  have c3 := rrows_get F c2
                  have c4 : row F (F.length - 1) = r := by
                    have := row_some F c2
                    rw [List.getLast?_eq_getElem?] at hF
                    rw [hF] at this; exact (Option.some.inj this).symm
                  rw [c4] at c3
                  simp only [RB, pickV, eqbV, notV, negV, convV, faddrV, fldV, idxV, eqaggV, iaddrV, isnilV, nilckV, cloV, extrV, slenV, minV, sidxV, abin, cmpInt, params, growLists, fillCells, newAt, rdPtr, wrPtr, AV.cells, asVal, lenOf, boundOf, rowsOf, argIds, freshIn, scalar1, setAll, AV.isData, AV.isYld, Nat.reduceAdd, Nat.reduceMul, Nat.reduceSub, Nat.reduceEqDiff, Nat.reduceLeDiff, Nat.reduceLT, Int.reduceNeg, ↓reduceIte, reduceCtorEq, Int.reduceEq, Int.reduceLT, Int.reduceLE, Int.reduceBEq, Int.reduceBNe, Int.reduceToNat, IntKind.bits, Int.reduceAdd, Int.reduceSub, Int.reduceMul, Int.reduceTDiv, Int.reduceTMod, DB, DB2, R7B, d1, f6, c0, c1, c2, c3, lisFits, Option.isSome_some, Option.getD_some]
                  exact ih
          · simp only [RB, pickV, eqbV, notV, negV, convV, faddrV, fldV, idxV, eqaggV, iaddrV, isnilV, nilckV, cloV, extrV, slenV, minV, sidxV, abin, cmpInt, params, growLists, fillCells, newAt, rdPtr, wrPtr, AV.cells, asVal, lenOf, boundOf, rowsOf, argIds, freshIn, scalar1, setAll, AV.isData, AV.isYld, Nat.reduceAdd, Nat.reduceMul, Nat.reduceSub, Nat.reduceEqDiff, Nat.reduceLeDiff, Nat.reduceLT, Int.reduceNeg, ↓reduceIte, reduceCtorEq, Int.reduceEq, Int.reduceLT, Int.reduceLE, Int.reduceBEq, Int.reduceBNe, Int.reduceToNat, IntKind.bits, Int.reduceAdd, Int.reduceSub, Int.reduceMul, Int.reduceTDiv, Int.reduceTMod, DB, DB2, R7B, f1, f2, f3, f6, g1, e30 T hT, e36 T hT, h1, h2, bne_self_eq_false, CW_some, scalar, scalar1, lockAll, lockAt, reduceCtorEq, extrV, List.all_cons, List.all_nil]
            exact ih
        · simp only [RB, pickV, eqbV, notV, negV, convV, faddrV, fldV, idxV, eqaggV, iaddrV, isnilV, nilckV, cloV, extrV, slenV, minV, sidxV, abin, cmpInt, params, growLists, fillCells, newAt, rdPtr, wrPtr, AV.cells, asVal, lenOf, boundOf, rowsOf, argIds, freshIn, scalar1, setAll, AV.isData, AV.isYld, Nat.reduceAdd, Nat.reduceMul, Nat.reduceSub, Nat.reduceEqDiff, Nat.reduceLeDiff, Nat.reduceLT, Int.reduceNeg, ↓reduceIte, reduceCtorEq, Int.reduceEq, Int.reduceLT, Int.reduceLE, Int.reduceBEq, Int.reduceBNe, Int.reduceToNat, IntKind.bits, Int.reduceAdd, Int.reduceSub, Int.reduceMul, Int.reduceTDiv, Int.reduceTMod, DB, DB2, R7B, f1, f2, f3, f6, g1, e30 T hT, e36 T hT, h1, bne_self_eq_false, CW_some, scalar, scalar1, lockAll, lockAt, reduceCtorEq, extrV, List.all_cons, List.all_nil]
          exact ih
    · simp only [RB, pickV, eqbV, notV, negV, convV, faddrV, fldV, idxV, eqaggV, iaddrV, isnilV, nilckV, cloV, extrV, slenV, minV, sidxV, abin, cmpInt, params, growLists, fillCells, newAt, rdPtr, wrPtr, AV.cells, asVal, lenOf, boundOf, rowsOf, argIds, freshIn, scalar1, setAll, AV.isData, AV.isYld, Nat.reduceAdd, Nat.reduceMul, Nat.reduceSub, Nat.reduceEqDiff, Nat.reduceLeDiff, Nat.reduceLT, Int.reduceNeg, ↓reduceIte, reduceCtorEq, Int.reduceEq, Int.reduceLT, Int.reduceLE, Int.reduceBEq, Int.reduceBNe, Int.reduceToNat, IntKind.bits, Int.reduceAdd, Int.reduceSub, Int.reduceMul, Int.reduceTDiv, Int.reduceTMod, DB, DB2, R7B, show ¬ (k : Int) < (l.length : Int) by omega]
end Go.Proofs.YtihbammfchnjgaaDoor.F

/- QueryAddrs: the law. No condition. -/
set_option linter.unusedSimpArgs false
namespace Go.Proofs.YtihbammfchnjgaaDoor.F
open Go Go.Proofs.YtihbammfchnjgaaDoor.A Go.Proofs.YtihbammfchnjgaaDoor.D
theorem e35 (l : List Rw) (hl : l.length ≤ 1000000) (a : Adr) : LV E 35 [.agg [.ro (rrows l)], .agg (aav a)] = some (.ro (rrows (l.filter fun r => decide (Has r.p a)))) := by
  rw [LV_R (fn := f35) rfl rfl rfl]
  simp only [f35, ← rav_zer, RB, pickV, eqbV, notV, negV, convV, faddrV, fldV, idxV, eqaggV, iaddrV, isnilV, nilckV, cloV, extrV, slenV, minV, sidxV, abin, cmpInt, params, growLists, fillCells, newAt, rdPtr, wrPtr, AV.cells, asVal, lenOf, boundOf, rowsOf, argIds, freshIn, scalar1, setAll, AV.isData, AV.isYld, Nat.reduceAdd, Nat.reduceMul, Nat.reduceSub, Nat.reduceEqDiff, Nat.reduceLeDiff, Nat.reduceLT, Int.reduceNeg, ↓reduceIte, reduceCtorEq, Int.reduceEq, Int.reduceLT, Int.reduceLE, Int.reduceBEq, Int.reduceBNe, Int.reduceToNat, IntKind.bits, Int.reduceAdd, Int.reduceSub, Int.reduceMul, Int.reduceTDiv, Int.reduceTMod, DB, DB2, R7B]
  refine (W_rec2 (β := AV) (ι := {s : Nat × List Rw // s.2.length ≤ s.1}) (M := fun s => [(3, .ptr 1 0 0 0), (5, .lis 3 s.1.2.length 0 s.1.2.length), (9, .ro (rrows l)), (10, .int .i64 (l.length : Int)), (11, .int .i64 (s.1.1 : Int))])
    (H := fun s => ⟨[.box 0 24 [.ro (rrows l)], .box 0 30 (aav a), .lst 0 0 59 19 [], .lst 0 s.1.2.length 59 19 (rrows s.1.2)], []⟩)
    (r := fun s => some (AV.ro (rrows (s.1.2 ++ (l.drop s.1.1).filter fun r => decide (Has r.p a))))) (μ := fun s => l.length - s.1.1) (fun s => ?_) (fun s ih => ?_) ⟨(0, []), Nat.le_refl _⟩ rfl rfl)
  · simp [LPB]
  · obtain ⟨⟨k, F⟩, hF⟩ := s
    simp only at ih hF ⊢
    by_cases hk : k < l.length
    · have f1 : (k : Int) < (l.length : Int) := by omega
      have f2 : (0 : Int) ≤ (k : Int) := by omega
      have f6 : IntKind.i64.wrap ((k : Int) + 1) = ((k + 1 : Nat) : Int) := by rw [IntWalk.i64_in _ (by omega)] <;> omega
      have g1 := rrows_get l hk
      rw [row_drop l hk]
      generalize row l k = x at *
      by_cases hp : Has x.p a
      · have f7 : (F.length + 1) * 40 ≤ 140737488355328 := by omega
        have f8 : F.length ≤ 4611686018427387903 := by omega
        have f12 : headFits 19 [rav x] = true := rrows_fit [x]
        have ih := ih ⟨(k + 1, F ++ [x]), by simp; omega⟩ (by simp only; omega)
        simp only [List.length_append, List.length_cons, List.length_nil, Nat.zero_add, List.append_assoc, List.singleton_append] at ih
        simp only [RB, pickV, eqbV, notV, negV, convV, faddrV, fldV, idxV, eqaggV, iaddrV, isnilV, nilckV, cloV, extrV, slenV, minV, sidxV, abin, cmpInt, params, growLists, fillCells, newAt, rdPtr, wrPtr, AV.cells, asVal, lenOf, boundOf, rowsOf, argIds, freshIn, scalar1, setAll, AV.isData, AV.isYld, Nat.reduceAdd, Nat.reduceMul, Nat.reduceSub, Nat.reduceEqDiff, Nat.reduceLeDiff, Nat.reduceLT, Int.reduceNeg, ↓reduceIte, reduceCtorEq, Int.reduceEq, Int.reduceLT, Int.reduceLE, Int.reduceBEq, Int.reduceBNe, Int.reduceToNat, IntKind.bits, Int.reduceAdd, Int.reduceSub, Int.reduceMul, Int.reduceTDiv, Int.reduceTMod, DB, DB2, R7B, f1, f2, f6, g1, e66, hp, CW_some, scalar, scalar1, lockAll, lockAt, reduceCtorEq, extrV, List.all_cons, List.all_nil, aop_buildSl, fillRows, asData, aappend, f7, f8, f12, List.take_length, List.filter_cons, decide_true]
        exact ih
      · have ih := ih ⟨(k + 1, F), by simp only; omega⟩ (by simp only; omega)
        simp only at ih
        simp only [RB, pickV, eqbV, notV, negV, convV, faddrV, fldV, idxV, eqaggV, iaddrV, isnilV, nilckV, cloV, extrV, slenV, minV, sidxV, abin, cmpInt, params, growLists, fillCells, newAt, rdPtr, wrPtr, AV.cells, asVal, lenOf, boundOf, rowsOf, argIds, freshIn, scalar1, setAll, AV.isData, AV.isYld, Nat.reduceAdd, Nat.reduceMul, Nat.reduceSub, Nat.reduceEqDiff, Nat.reduceLeDiff, Nat.reduceLT, Int.reduceNeg, ↓reduceIte, reduceCtorEq, Int.reduceEq, Int.reduceLT, Int.reduceLE, Int.reduceBEq, Int.reduceBNe, Int.reduceToNat, IntKind.bits, Int.reduceAdd, Int.reduceSub, Int.reduceMul, Int.reduceTDiv, Int.reduceTMod, DB, DB2, R7B, f1, f2, f6, g1, e66, hp, CW_some, scalar, scalar1, lockAll, lockAt, reduceCtorEq, extrV, List.all_cons, List.all_nil, List.filter_cons, decide_false]
        exact ih
    · simp only [RB, pickV, eqbV, notV, negV, convV, faddrV, fldV, idxV, eqaggV, iaddrV, isnilV, nilckV, cloV, extrV, slenV, minV, sidxV, abin, cmpInt, params, growLists, fillCells, newAt, rdPtr, wrPtr, AV.cells, asVal, lenOf, boundOf, rowsOf, argIds, freshIn, scalar1, setAll, AV.isData, AV.isYld, Nat.reduceAdd, Nat.reduceMul, Nat.reduceSub, Nat.reduceEqDiff, Nat.reduceLeDiff, Nat.reduceLT, Int.reduceNeg, ↓reduceIte, reduceCtorEq, Int.reduceEq, Int.reduceLT, Int.reduceLE, Int.reduceBEq, Int.reduceBNe, Int.reduceToNat, IntKind.bits, Int.reduceAdd, Int.reduceSub, Int.reduceMul, Int.reduceTDiv, Int.reduceTMod, DB, DB2, R7B, show ¬ (k : Int) < (l.length : Int) by omega, List.drop_eq_nil_of_le (show l.length ≤ k by omega), List.filter_nil, List.append_nil, expCell, List.nodup_cons, List.nodup_nil, List.not_mem_nil, not_false_eq_true, not_true_eq_false, and_true, and_false, if_false, List.mem_cons, mutIds, List.take_length]

theorem e34 (l : List Rw) (hl : l.length ≤ 1000000) (a : Adr) : LV E 34 [.agg [.ro (rrows l)], .agg (aav a)] = some (.tup [.agg (rav ((l.find? (Past a)).getD zerR)), .bool (l.find? (Past a)).isSome]) := by
  rw [LV_R (fn := f34) rfl rfl rfl]
  simp only [f34, ← rav_zer, RB, pickV, eqbV, notV, negV, convV, faddrV, fldV, idxV, eqaggV, iaddrV, isnilV, nilckV, cloV, extrV, slenV, minV, sidxV, abin, cmpInt, params, growLists, fillCells, newAt, rdPtr, wrPtr, AV.cells, asVal, lenOf, boundOf, rowsOf, argIds, freshIn, scalar1, setAll, AV.isData, AV.isYld, Nat.reduceAdd, Nat.reduceMul, Nat.reduceSub, Nat.reduceEqDiff, Nat.reduceLeDiff, Nat.reduceLT, Int.reduceNeg, ↓reduceIte, reduceCtorEq, Int.reduceEq, Int.reduceLT, Int.reduceLE, Int.reduceBEq, Int.reduceBNe, Int.reduceToNat, IntKind.bits, Int.reduceAdd, Int.reduceSub, Int.reduceMul, Int.reduceTDiv, Int.reduceTMod, DB, DB2, R7B]
  refine (W_rec2 (β := AV) (ι := Nat × Bool) (M := fun s => [(3, .ptr 1 0 0 0), (4, .ptr 2 0 0 0), (9, .ro (rrows l)), (10, .int .i64 (l.length : Int)), (11, .int .i64 (s.1 : Int))])
    (H := fun s => ⟨[.box 0 24 [.ro (rrows l)], .box (lkOf s.2) 30 (aav a), .box 0 59 (rav zerR)], []⟩)
    (r := fun s => some (AV.tup [.agg (rav (((l.drop s.1).find? (Past a)).getD zerR)), .bool ((l.drop s.1).find? (Past a)).isSome])) (μ := fun s => l.length - s.1) (fun s => ?_) (fun s ih => ?_) (0, false) rfl rfl)
  · simp [LPB]
  · obtain ⟨k, b⟩ := s
    simp only at ih ⊢
    by_cases hk : k < l.length
    · have f1 : (k : Int) < (l.length : Int) := by omega
      have f2 : (0 : Int) ≤ (k : Int) := by omega
      have f6 : IntKind.i64.wrap ((k : Int) + 1) = ((k + 1 : Nat) : Int) := by rw [IntWalk.i64_in _ (by omega)] <;> omega
      have g1 := rrows_get l hk
      rw [row_drop l hk, List.find?_cons]
      generalize row l k = x at *
      have hs : ∀ b : B16, (⟨(b.l.map UInt8.ofNat).toArray⟩ : ByteArray) = str16 b := fun _ => rfl
      have hlk := lkOf_ne b
      by_cases hv : x.p.adr.ver = a.ver
      · have ih := ih (k + 1, true) (by simp only; omega)
        simp only [lkOf] at ih
        cases hp : decide (0 < lexL (ints x.p.adr.b) (ints a.b)) with
        | true =>
          have hP : Past a x = true := by simp [Past, hv, hp]
          simp only [RB, pickV, eqbV, notV, negV, convV, faddrV, fldV, idxV, eqaggV, iaddrV, isnilV, nilckV, cloV, extrV, slenV, minV, sidxV, abin, cmpInt, params, growLists, fillCells, newAt, rdPtr, wrPtr, AV.cells, asVal, lenOf, boundOf, rowsOf, argIds, freshIn, scalar1, setAll, AV.isData, AV.isYld, Nat.reduceAdd, Nat.reduceMul, Nat.reduceSub, Nat.reduceEqDiff, Nat.reduceLeDiff, Nat.reduceLT, Int.reduceNeg, ↓reduceIte, reduceCtorEq, Int.reduceEq, Int.reduceLT, Int.reduceLE, Int.reduceBEq, Int.reduceBNe, Int.reduceToNat, IntKind.bits, Int.reduceAdd, Int.reduceSub, Int.reduceMul, Int.reduceTDiv, Int.reduceTMod, DB, DB2, R7B, f1, f2, f6, g1, hv, aop, hlk, bav_col, brows_of, hs, str_gtr, hp, hP, pairOk, AV.ids, List.contains_cons, List.contains_nil, Nat.reduceBEq, List.all_cons, List.all_nil, Bool.or_self, Bool.not_false, Bool.and_self, Bool.or_false, expCell, List.nodup_cons, List.nodup_nil, List.not_mem_nil, not_false_eq_true, not_true_eq_false, and_true, and_false, if_false, List.mem_cons, mutIds, Option.getD_some, Option.isSome_some]
        | false =>
          have hP : Past a x = false := by simp [Past, hv, hp]
          simp only [RB, pickV, eqbV, notV, negV, convV, faddrV, fldV, idxV, eqaggV, iaddrV, isnilV, nilckV, cloV, extrV, slenV, minV, sidxV, abin, cmpInt, params, growLists, fillCells, newAt, rdPtr, wrPtr, AV.cells, asVal, lenOf, boundOf, rowsOf, argIds, freshIn, scalar1, setAll, AV.isData, AV.isYld, Nat.reduceAdd, Nat.reduceMul, Nat.reduceSub, Nat.reduceEqDiff, Nat.reduceLeDiff, Nat.reduceLT, Int.reduceNeg, ↓reduceIte, reduceCtorEq, Int.reduceEq, Int.reduceLT, Int.reduceLE, Int.reduceBEq, Int.reduceBNe, Int.reduceToNat, IntKind.bits, Int.reduceAdd, Int.reduceSub, Int.reduceMul, Int.reduceTDiv, Int.reduceTMod, DB, DB2, R7B, f1, f2, f6, g1, hv, aop, hlk, bav_col, brows_of, hs, str_gtr, hp, hP, pairOk, AV.ids, List.contains_cons, List.contains_nil, Nat.reduceBEq, List.all_cons, List.all_nil, Bool.or_self, Bool.not_false, Bool.and_self, Bool.or_false]
          exact ih
      · have ih := ih (k + 1, b) (by simp only; omega)
        simp only at ih
        have hv' : (x.p.adr.ver == a.ver) = false := beq_eq_false_iff_ne.2 hv
        have hP : Past a x = false := by simp [Past, hv]
        simp only [RB, pickV, eqbV, notV, negV, convV, faddrV, fldV, idxV, eqaggV, iaddrV, isnilV, nilckV, cloV, extrV, slenV, minV, sidxV, abin, cmpInt, params, growLists, fillCells, newAt, rdPtr, wrPtr, AV.cells, asVal, lenOf, boundOf, rowsOf, argIds, freshIn, scalar1, setAll, AV.isData, AV.isYld, Nat.reduceAdd, Nat.reduceMul, Nat.reduceSub, Nat.reduceEqDiff, Nat.reduceLeDiff, Nat.reduceLT, Int.reduceNeg, ↓reduceIte, reduceCtorEq, Int.reduceEq, Int.reduceLT, Int.reduceLE, Int.reduceBEq, Int.reduceBNe, Int.reduceToNat, IntKind.bits, Int.reduceAdd, Int.reduceSub, Int.reduceMul, Int.reduceTDiv, Int.reduceTMod, DB, DB2, R7B, f1, f2, f6, g1, hv, hv', hP, pairOk, AV.ids, List.contains_cons, List.contains_nil, Nat.reduceBEq, List.all_cons, List.all_nil, Bool.or_self, Bool.not_false, Bool.and_self, Bool.or_false]
        exact ih
    · simp only [RB, pickV, eqbV, notV, negV, convV, faddrV, fldV, idxV, eqaggV, iaddrV, isnilV, nilckV, cloV, extrV, slenV, minV, sidxV, abin, cmpInt, params, growLists, fillCells, newAt, rdPtr, wrPtr, AV.cells, asVal, lenOf, boundOf, rowsOf, argIds, freshIn, scalar1, setAll, AV.isData, AV.isYld, Nat.reduceAdd, Nat.reduceMul, Nat.reduceSub, Nat.reduceEqDiff, Nat.reduceLeDiff, Nat.reduceLT, Int.reduceNeg, ↓reduceIte, reduceCtorEq, Int.reduceEq, Int.reduceLT, Int.reduceLE, Int.reduceBEq, Int.reduceBNe, Int.reduceToNat, IntKind.bits, Int.reduceAdd, Int.reduceSub, Int.reduceMul, Int.reduceTDiv, Int.reduceTMod, DB, DB2, R7B, show ¬ (k : Int) < (l.length : Int) by omega, List.drop_eq_nil_of_le (show l.length ≤ k by omega), List.find?_nil, expCell, List.nodup_cons, List.nodup_nil, List.not_mem_nil, not_false_eq_true, not_true_eq_false, and_true, and_false, if_false, List.mem_cons, mutIds, Option.getD_none, Option.isSome_none]
set_option maxRecDepth 4000 in
theorem addrsLaw (x : List Rw) (l : List Adr) (hl : l.length ≤ 9223372036854775807) : LV E 7 [.agg [.ro (rrows x)], .ro (arows l)] = some (.bool true) := by
  have hT : (x.take 41).length ≤ 1000000 := by simp; omega
  rw [LV_R (fn := f7) rfl rfl rfl]
  simp only [f7, ← rav_zer]
  simp only [← aav_zer, RB, pickV, eqbV, notV, negV, convV, faddrV, fldV, idxV, eqaggV, iaddrV, isnilV, nilckV, cloV, extrV, slenV, minV, sidxV, abin, cmpInt, params, growLists, fillCells, newAt, rdPtr, wrPtr, AV.cells, asVal, lenOf, boundOf, rowsOf, argIds, freshIn, scalar1, setAll, AV.isData, AV.isYld, Nat.reduceAdd, Nat.reduceMul, Nat.reduceSub, Nat.reduceEqDiff, Nat.reduceLeDiff, Nat.reduceLT, Int.reduceNeg, ↓reduceIte, reduceCtorEq, Int.reduceEq, Int.reduceLT, Int.reduceLE, Int.reduceBEq, Int.reduceBNe, Int.reduceToNat, IntKind.bits, Int.reduceAdd, Int.reduceSub, Int.reduceMul, Int.reduceTDiv, Int.reduceTMod, DB, DB2, R7B, e11, e12, arows_len, pairOk, AV.ids, List.contains_cons, List.contains_nil, Nat.reduceBEq, List.all_cons, List.all_nil, Bool.or_self, Bool.not_false, Bool.and_self, Bool.or_false, mutIds]
  generalize x.take 41 = T at *
  refine (W_rec2 (β := AV) (ι := {k : Nat // k ≤ 12}) (M := fun s => [(5, .ptr 1 0 0 0), (6, .ptr 2 0 0 0), (23, .ro (arows l)), (24, .int .i64 (l.length : Int)), (25, .int .i64 (s.1 : Int))])
    (H := fun _ => ⟨[.box 0 24 [.ro (rrows x)], .box 0 24 [.ro (rrows T)], .box 0 24 [.ro (rrows T)]], []⟩)
    (r := fun _ => some (AV.bool true)) (μ := fun s => 13 - s.1) (fun s => ?_) (fun s ih => ?_) ⟨0, by omega⟩ rfl rfl)
  · simp [LPB]
  · obtain ⟨k, hk12⟩ := s
    simp only at ih ⊢
    by_cases hk : k < l.length
    · have f1 : (k : Int) < (l.length : Int) := by omega
      have f2 : (0 : Int) ≤ (k : Int) := by omega
      have g1 := arows_get l hk
      generalize l[k] = a at g1
      by_cases h12 : k = 12
      · have f3 : ((k : Int) == 12) = true := by rw [beq_iff_eq]; omega
        simp only [RB, pickV, eqbV, notV, negV, convV, faddrV, fldV, idxV, eqaggV, iaddrV, isnilV, nilckV, cloV, extrV, slenV, minV, sidxV, abin, cmpInt, params, growLists, fillCells, newAt, rdPtr, wrPtr, AV.cells, asVal, lenOf, boundOf, rowsOf, argIds, freshIn, scalar1, setAll, AV.isData, AV.isYld, Nat.reduceAdd, Nat.reduceMul, Nat.reduceSub, Nat.reduceEqDiff, Nat.reduceLeDiff, Nat.reduceLT, Int.reduceNeg, ↓reduceIte, reduceCtorEq, Int.reduceEq, Int.reduceLT, Int.reduceLE, Int.reduceBEq, Int.reduceBNe, Int.reduceToNat, IntKind.bits, Int.reduceAdd, Int.reduceSub, Int.reduceMul, Int.reduceTDiv, Int.reduceTMod, DB, DB2, R7B, f1, f2, f3, g1]
      · have f3 : ((k : Int) == 12) = false := by rw [beq_eq_false_iff_ne]; omega
        have f6 : IntKind.i64.wrap ((k : Int) + 1) = ((k + 1 : Nat) : Int) := by rw [IntWalk.i64_in _ (by omega)] <;> omega
        have ih := ih ⟨k + 1, by omega⟩ (by simp only; omega)
        simp only at ih
        have hT4 : T.length ≤ 4611686018427387904 := by omega
        by_cases h1 : TabOk T
        · by_cases h2 : AddrOk a
          · have hA : (T.filter fun r => decide (Has r.p a)).length ≤ 1000000 := Nat.le_trans (List.length_filter_le _ _) hT
            simp only [RB, pickV, eqbV, notV, negV, convV, faddrV, fldV, idxV, eqaggV, iaddrV, isnilV, nilckV, cloV, extrV, slenV, minV, sidxV, abin, cmpInt, params, growLists, fillCells, newAt, rdPtr, wrPtr, AV.cells, asVal, lenOf, boundOf, rowsOf, argIds, freshIn, scalar1, setAll, AV.isData, AV.isYld, Nat.reduceAdd, Nat.reduceMul, Nat.reduceSub, Nat.reduceEqDiff, Nat.reduceLeDiff, Nat.reduceLT, Int.reduceNeg, ↓reduceIte, reduceCtorEq, Int.reduceEq, Int.reduceLT, Int.reduceLE, Int.reduceBEq, Int.reduceBNe, Int.reduceToNat, IntKind.bits, Int.reduceAdd, Int.reduceSub, Int.reduceMul, Int.reduceTDiv, Int.reduceTMod, DB, DB2, R7B, f1, f2, f3, f6, g1, e30 T hT, e31 T hT, e32 T hT4, e33, e34 T hT, e35 T hT, h1, h2, bne_self_eq_false, CW_some, scalar, scalar1, lockAll, lockAt, reduceCtorEq, extrV, List.all_cons, List.all_nil]
            generalize hF : (T.filter fun r => decide (Has r.p a)) = F at *
            generalize (T.find? (Past a)) = o at *
            have hsp := r18 (ys := []) (bs := [.box 0 24 [.ro (rrows x)], .box 0 24 [.ro (rrows T)], .box 0 24 [.ro (rrows T)], .box 0 30 (aav a), .lst 0 0 59 19 (rrows F), .box 0 59 (rav (o.getD zerR)), .box 0 59 (rav (o.getD zerR))]) (pend := []) [(4, 0, F)]
              (fun x hx => by simp only [List.mem_cons, List.not_mem_nil, or_false] at hx; subst hx; exact ⟨rfl, by assumption⟩) (by simp) (by simp) (by simp [LPB])
            simp only [spoilB, List.map_cons, List.map_nil, List.foldl_cons, List.foldl_nil, List.set_cons_succ, List.set_cons_zero] at hsp
            simp only [RB, pickV, eqbV, notV, negV, convV, faddrV, fldV, idxV, eqaggV, iaddrV, isnilV, nilckV, cloV, extrV, slenV, minV, sidxV, abin, cmpInt, params, growLists, fillCells, newAt, rdPtr, wrPtr, AV.cells, asVal, lenOf, boundOf, rowsOf, argIds, freshIn, scalar1, setAll, AV.isData, AV.isYld, Nat.reduceAdd, Nat.reduceMul, Nat.reduceSub, Nat.reduceEqDiff, Nat.reduceLeDiff, Nat.reduceLT, Int.reduceNeg, ↓reduceIte, reduceCtorEq, Int.reduceEq, Int.reduceLT, Int.reduceLE, Int.reduceBEq, Int.reduceBNe, Int.reduceToNat, IntKind.bits, Int.reduceAdd, Int.reduceSub, Int.reduceMul, Int.reduceTDiv, Int.reduceTMod, DB, DB2, R7B, List.take_length, e17 F F (by omega), e19 T T hT4, hF, bne_self_eq_false, CW_some, scalar, scalar1, lockAll, lockAt, reduceCtorEq, extrV, List.all_cons, List.all_nil, fillRf, hsp, f6, shrink_lit, LPB]
            exact ih
          · simp only [RB, pickV, eqbV, notV, negV, convV, faddrV, fldV, idxV, eqaggV, iaddrV, isnilV, nilckV, cloV, extrV, slenV, minV, sidxV, abin, cmpInt, params, growLists, fillCells, newAt, rdPtr, wrPtr, AV.cells, asVal, lenOf, boundOf, rowsOf, argIds, freshIn, scalar1, setAll, AV.isData, AV.isYld, Nat.reduceAdd, Nat.reduceMul, Nat.reduceSub, Nat.reduceEqDiff, Nat.reduceLeDiff, Nat.reduceLT, Int.reduceNeg, ↓reduceIte, reduceCtorEq, Int.reduceEq, Int.reduceLT, Int.reduceLE, Int.reduceBEq, Int.reduceBNe, Int.reduceToNat, IntKind.bits, Int.reduceAdd, Int.reduceSub, Int.reduceMul, Int.reduceTDiv, Int.reduceTMod, DB, DB2, R7B, f1, f2, f3, f6, g1, e30 T hT, e31 T hT, e32 T hT4, e33, h1, h2, bne_self_eq_false, CW_some, scalar, scalar1, lockAll, lockAt, reduceCtorEq, extrV, List.all_cons, List.all_nil]
            exact ih
        · simp only [RB, pickV, eqbV, notV, negV, convV, faddrV, fldV, idxV, eqaggV, iaddrV, isnilV, nilckV, cloV, extrV, slenV, minV, sidxV, abin, cmpInt, params, growLists, fillCells, newAt, rdPtr, wrPtr, AV.cells, asVal, lenOf, boundOf, rowsOf, argIds, freshIn, scalar1, setAll, AV.isData, AV.isYld, Nat.reduceAdd, Nat.reduceMul, Nat.reduceSub, Nat.reduceEqDiff, Nat.reduceLeDiff, Nat.reduceLT, Int.reduceNeg, ↓reduceIte, reduceCtorEq, Int.reduceEq, Int.reduceLT, Int.reduceLE, Int.reduceBEq, Int.reduceBNe, Int.reduceToNat, IntKind.bits, Int.reduceAdd, Int.reduceSub, Int.reduceMul, Int.reduceTDiv, Int.reduceTMod, DB, DB2, R7B, f1, f2, f3, f6, g1, e30 T hT, e31 T hT, e32 T hT4, e33, h1, bne_self_eq_false, CW_some, scalar, scalar1, lockAll, lockAt, reduceCtorEq, extrV, List.all_cons, List.all_nil]
          exact ih
    · simp only [RB, pickV, eqbV, notV, negV, convV, faddrV, fldV, idxV, eqaggV, iaddrV, isnilV, nilckV, cloV, extrV, slenV, minV, sidxV, abin, cmpInt, params, growLists, fillCells, newAt, rdPtr, wrPtr, AV.cells, asVal, lenOf, boundOf, rowsOf, argIds, freshIn, scalar1, setAll, AV.isData, AV.isYld, Nat.reduceAdd, Nat.reduceMul, Nat.reduceSub, Nat.reduceEqDiff, Nat.reduceLeDiff, Nat.reduceLT, Int.reduceNeg, ↓reduceIte, reduceCtorEq, Int.reduceEq, Int.reduceLT, Int.reduceLE, Int.reduceBEq, Int.reduceBNe, Int.reduceToNat, IntKind.bits, Int.reduceAdd, Int.reduceSub, Int.reduceMul, Int.reduceTDiv, Int.reduceTMod, DB, DB2, R7B, show ¬ (k : Int) < (l.length : Int) by omega]
end Go.Proofs.YtihbammfchnjgaaDoor.F
