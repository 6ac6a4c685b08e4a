/- Part 9 of the proofs of these statements. No condition. -/
import Derived.Test.YtgajekpigkknnaaDoorM8
set_option linter.unusedVariables false
set_option linter.unusedSimpArgs false
/- The program's prefixes: what its functions tell. No condition. -/
set_option linter.unusedSimpArgs false
namespace Go.Proofs.YtgajekpigkknnaaDoor.F
open Go Go.Proofs.YtgajekpigkknnaaDoor.A Go.Proofs.YtgajekpigkknnaaDoor.D
theorem e_prefix_Width (v : Int) : LV E 89 [.int .i64 v] = some (.int .i64 (width v)) := by
  rw [LV_R (fn := f89) rfl rfl rfl]
  simp only [f89, RB, abin, cmpInt, params, ↓reduceIte, reduceCtorEq]
  (repeat' (first
    | (refine Ci_cases (fun h => ?_) (fun h => ?_) <;> simp only [h, RB, iaddrV, ↓reduceIte, reduceCtorEq])
    | (refine Gi_cases (fun h => ?_) (fun h => ?_) <;> simp only [h, RB, pickV, eqbV, notV, negV, convV, faddrV, fldV, idxV, eqaggV, iaddrV, isnilV, nilckV, pnilV, cloV, extrV, slenV, minV, sidxV, abin, cmpInt, params, growLists, fillCells, newAt, rdPtr, wrPtr, AV.cells, asVal, lenOf, boundOf, rowsOf, argIds, freshIn, scalar1, setAll, AV.isData, AV.isYld, Nat.reduceAdd, Nat.reduceMul, Nat.reduceSub, Nat.reduceEqDiff, Nat.reduceLeDiff, Nat.reduceLT, Int.reduceNeg, ↓reduceIte, reduceCtorEq, Int.reduceEq, Int.reduceLT, Int.reduceLE, Int.reduceBEq, Int.reduceBNe, Int.reduceToNat, IntKind.bits, Int.reduceAdd, Int.reduceSub, Int.reduceMul, Int.reduceTDiv, Int.reduceTMod])
    | (refine Gj_cases (fun h => ?_) (fun h => ?_) <;> simp only [h, RB, pickV, abin, cmpInt, Nat.reduceEqDiff, ↓reduceIte, reduceCtorEq])))
  · simp only [decide_eq_true_eq] at h
    simp [width, show v ≠ 4 by omega, show v ≠ 6 by omega]
  · simp only [decide_eq_true_eq, decide_eq_false_iff_not] at *
    simp [width, show v ≠ 4 by omega, show v ≠ 6 by omega]
  · simp only [decide_eq_false_iff_not] at *
    have : v = 0 ∨ v = 1 ∨ v = 2 ∨ v = 3 ∨ v = 4 ∨ v = 5 ∨ v = 6 := by omega
    rcases this with rfl | rfl | rfl | rfl | rfl | rfl | rfl <;> simp [RB, rdPtr, asVal, Nat.reduceAdd, Nat.reduceLeDiff, ↓reduceIte, Int.reduceEq, Int.reduceLT, Int.reduceToNat, piece, width]
theorem e_cmp_isNaN_int (v : Int) : LV E 92 [.int .i64 v] = some (.bool false) := by
  rw [LV_R (fn := f92) rfl rfl rfl]
  simp only [f92, RB, abin, cmpInt, params, Nat.reduceEqDiff, ↓reduceIte, reduceCtorEq, bne_self_eq_false]
theorem e_cmp_Compare_int (a b : Int) : LV E 73 [.int .i64 a, .int .i64 b] = some (.int .i64 (cmpI a b)) := by
  rw [LV_R (fn := f73) rfl rfl rfl]
  simp only [f73, RB, abin, cmpInt, params, argIds, Nat.reduceEqDiff, Int.reduceNeg, ↓reduceIte, reduceCtorEq, e_cmp_isNaN_int]
  (repeat' (first
    | (refine Ci_cases (fun h => ?_) (fun h => ?_) <;> simp only [h, RB, abin, cmpInt, Nat.reduceEqDiff, Int.reduceNeg, ↓reduceIte, reduceCtorEq])
    | (refine Gi_cases (fun h => ?_) (fun h => ?_) <;> simp only [h, RB, pickV, eqbV, notV, negV, convV, faddrV, fldV, idxV, eqaggV, iaddrV, isnilV, nilckV, pnilV, cloV, extrV, slenV, minV, sidxV, abin, cmpInt, params, growLists, fillCells, newAt, rdPtr, wrPtr, AV.cells, asVal, lenOf, boundOf, rowsOf, argIds, freshIn, scalar1, setAll, AV.isData, AV.isYld, Nat.reduceAdd, Nat.reduceMul, Nat.reduceSub, Nat.reduceEqDiff, Nat.reduceLeDiff, Nat.reduceLT, Int.reduceNeg, ↓reduceIte, reduceCtorEq, Int.reduceEq, Int.reduceLT, Int.reduceLE, Int.reduceBEq, Int.reduceBNe, Int.reduceToNat, IntKind.bits, Int.reduceAdd, Int.reduceSub, Int.reduceMul, Int.reduceTDiv, Int.reduceTMod])
    | (refine Gj_cases (fun h => ?_) (fun h => ?_) <;> simp only [h, RB, pickV, eqbV, notV, negV, convV, faddrV, fldV, idxV, eqaggV, iaddrV, isnilV, nilckV, pnilV, cloV, extrV, slenV, minV, sidxV, abin, cmpInt, params, growLists, fillCells, newAt, rdPtr, wrPtr, AV.cells, asVal, lenOf, boundOf, rowsOf, argIds, freshIn, scalar1, setAll, AV.isData, AV.isYld, Nat.reduceAdd, Nat.reduceMul, Nat.reduceSub, Nat.reduceEqDiff, Nat.reduceLeDiff, Nat.reduceLT, Int.reduceNeg, ↓reduceIte, reduceCtorEq, Int.reduceEq, Int.reduceLT, Int.reduceLE, Int.reduceBEq, Int.reduceBNe, Int.reduceToNat, IntKind.bits, Int.reduceAdd, Int.reduceSub, Int.reduceMul, Int.reduceTDiv, Int.reduceTMod])))
  all_goals (simp only [decide_eq_true_eq, decide_eq_false_iff_not] at *; simp only [cmpI, Option.some.injEq, AV.int.injEq, true_and]; (repeat split) <;> omega)
theorem e_prefix_clear (b : B16) (n : Nat) : LV E 90 [.agg (bav b), .int .i64 (n : Int)] = some (.bool (decide (Clr b n))) := by
  rw [LV_R (fn := f90) rfl rfl rfl]
  simp only [f90, RB, params, growLists, newAt, AV.cells, Nat.reduceEqDiff, ↓reduceIte, reduceCtorEq, DB]
  refine W_rec (ι := Nat) (M := fun k => [(2, .ptr 0 0 0 0), (5, .int .i64 (k : Int))]) (H := fun _ => ⟨[.box 0 36 (bav b)], []⟩) (r := fun k => some (AV.bool (decide (Clr b k)))) (μ := fun k => 128 - k) (fun i => ?_) (fun k ih => ?_) n
  · simp [LPB]
  by_cases hk : k < 128
  · have f1 : (k : Int) < 128 := by omega
    have f2 : k / 8 < 16 := by omega
    have f3 : ((k / 8 : Nat) : Int) < 16 := by omega
    have f4 : (0 : Int) ≤ ((k / 8 : Nat) : Int) := by omega
    have f5 : (0 : Int) ≤ ((7 - k % 8 : Nat) : Int) := by omega
    have f6 : IntKind.i64.wrap ((k : Int) + 1) = ((k + 1 : Nat) : Int) := by rw [IntWalk.i64_in _ (by omega)] <;> omega
    cases hb : bit b k with
    | true =>
      simp only [RB, iaddrV, abin, cmpInt, rdPtr, asVal, Nat.reduceEqDiff, ↓reduceIte, Int.reduceEq, IntKind.bits, f1, f3, f4, f5, quo8 k (by omega), rem8, sub7, bav_i b (k / 8) f2, shrN _ (7 - k % 8) (by omega), and1 _ (Nat.lt_of_le_of_lt (Nat.div_le_self _ _) (b.get_lt (k / 8))), bit_and, hb]
      rw [decide_eq_false fun hc => by rw [hc k (Nat.le_refl _) hk] at hb; cases hb]
    | false =>
      simp only [RB, iaddrV, abin, cmpInt, rdPtr, asVal, Nat.reduceEqDiff, ↓reduceIte, Int.reduceEq, Int.reduceBEq, IntKind.bits, f1, f3, f4, f5, quo8 k (by omega), rem8, sub7, bav_i b (k / 8) f2, shrN _ (7 - k % 8) (by omega), and1 _ (Nat.lt_of_le_of_lt (Nat.div_le_self _ _) (b.get_lt (k / 8))), bit_and, hb, f6]
      rw [ih (k + 1) (by omega)]
      congr 2
      refine decide_eq_decide.2 ⟨fun h j h1 h2 => ?_, fun h j h1 h2 => h j (by omega) h2⟩
      rcases Nat.lt_or_eq_of_le h1 with h3 | rfl
      · exact h j h3 h2
      · exact hb
  · simp only [RB, abin, cmpInt, Nat.reduceEqDiff, ↓reduceIte, show ¬ (k : Int) < 128 by omega]
    rw [decide_eq_true (show Clr b k from fun j h1 h2 => absurd h2 (by omega))]
theorem e_prefix_CheckAddr (a : Adr) : LV E 88 [.agg (aav a)] = some (.int .i64 (if AddrOk a then 0 else 150)) := by
  rw [LV_R (fn := f88) rfl rfl rfl]
  simp only [f88, RB, faddrV, abin, cmpInt, params, growLists, newAt, rdPtr, AV.cells, asVal, argIds, Nat.reduceEqDiff, ↓reduceIte, DB, e_prefix_Width]
  (repeat' (first
    | (refine Ci_cases (fun h => ?_) (fun h => ?_) <;> simp only [h, RB, ↓reduceIte])
    | (refine Gi_cases (fun h => ?_) (fun h => ?_) <;> simp only [h, RB, pickV, eqbV, notV, negV, convV, faddrV, fldV, idxV, eqaggV, iaddrV, isnilV, nilckV, pnilV, cloV, extrV, slenV, minV, sidxV, abin, cmpInt, params, growLists, fillCells, newAt, rdPtr, wrPtr, AV.cells, asVal, lenOf, boundOf, rowsOf, argIds, freshIn, scalar1, setAll, AV.isData, AV.isYld, Nat.reduceAdd, Nat.reduceMul, Nat.reduceSub, Nat.reduceEqDiff, Nat.reduceLeDiff, Nat.reduceLT, Int.reduceNeg, ↓reduceIte, reduceCtorEq, Int.reduceEq, Int.reduceLT, Int.reduceLE, Int.reduceBEq, Int.reduceBNe, Int.reduceToNat, IntKind.bits, Int.reduceAdd, Int.reduceSub, Int.reduceMul, Int.reduceTDiv, Int.reduceTMod, DB, e_prefix_Width, e_prefix_clear])
    | (refine Gj_cases (fun h => ?_) (fun h => ?_) <;> simp only [h, RB, pickV, notV, faddrV, rdPtr, asVal, argIds, Nat.reduceEqDiff, ↓reduceIte, DB, e_prefix_clear])))
  all_goals simp_all [AddrOk]
theorem e_prefix_clear' (b : B16) {n : Int} (h : 0 ≤ n) : LV E 90 [.agg (bav b), .int .i64 n] = some (.bool (decide (Clr b n.toNat))) := by
  rw [show n = (n.toNat : Int) by omega, e_prefix_clear]; rfl
theorem e_prefix_Check (p : Pfx) : LV E 70 [.agg (pav p)] = some (.int .i64 (if PfxOk p then 0 else 151)) := by
  rw [LV_R (fn := f70) rfl rfl rfl]
  simp only [f70, RB, faddrV, abin, cmpInt, params, growLists, newAt, rdPtr, AV.cells, asVal, argIds, Nat.reduceEqDiff, ↓reduceIte, DB, e_prefix_CheckAddr]
  by_cases h1 : AddrOk p.adr
  · by_cases h2 : p.bits < 0
    · simp only [RB, pickV, faddrV, abin, cmpInt, rdPtr, asVal, Nat.reduceEqDiff, ↓reduceIte, Int.reduceBNe, DB, h1, h2]
      simp [PfxOk, h1, show ¬ 0 ≤ p.bits by omega]
    · by_cases h3 : (width p.adr.ver : Int) < p.bits
      · simp only [RB, pickV, faddrV, abin, cmpInt, rdPtr, asVal, argIds, Nat.reduceEqDiff, ↓reduceIte, Int.reduceBNe, DB, e_prefix_Width, h1, h2, h3]
        simp [PfxOk, h1, show ¬ p.bits ≤ width p.adr.ver by omega]
      · simp only [RB, pickV, notV, faddrV, abin, cmpInt, rdPtr, asVal, argIds, Nat.reduceEqDiff, ↓reduceIte, Int.reduceBNe, DB, e_prefix_Width, h1, h2, h3, e_prefix_clear' _ (Int.not_lt.1 h2)]
        by_cases h4 : Clr p.adr.b p.bits.toNat
        · simp only [RB, ↓reduceIte, h4]
          simp [PfxOk, h1, h4, Int.not_lt.1 h2, Int.not_lt.1 h3]
        · simp only [RB, ↓reduceIte, h4]
          simp [PfxOk, h1, h4]
  · simp only [RB, pickV, Nat.reduceEqDiff, ↓reduceIte, Int.reduceBNe, h1]
    simp [PfxOk, h1]
end Go.Proofs.YtgajekpigkknnaaDoor.F

/- The order of prefixes: what the program tells. No condition. -/
set_option linter.unusedSimpArgs false
namespace Go.Proofs.YtgajekpigkknnaaDoor.F
open Go Go.Proofs.YtgajekpigkknnaaDoor.A Go.Proofs.YtgajekpigkknnaaDoor.D
theorem e_bytes_Compare (a b : B16) : LV E 91 [.ro (brows a), .ro (brows b)] = some (.int .i64 (lexL (ints a) (ints b))) := by
  rw [LV_R (fn := f91) rfl rfl rfl]
  have h : LV E 105 [.ro (brows a), .ro (brows b)] = some (.int .i64 (lexL (ints a) (ints b))) := by
    rw [LV_prim (p := pCmp) rfl, cmp_b16]; rfl
  simp only [f91, RB, params, argIds, Nat.reduceEqDiff, ↓reduceIte, reduceCtorEq, h]
theorem e_cmp_Or_int (a b c : Int) : LV E 71 [.clip [[.int .i64 a], [.int .i64 b], [.int .i64 c]]] = some (.int .i64 (if a ≠ 0 then a else if b ≠ 0 then b else c)) := by
  rw [LV_R (fn := f71) rfl rfl rfl]
  simp only [f71, RB, params, lenOf, Nat.reduceAdd, Nat.reduceEqDiff, ↓reduceIte, reduceCtorEq]
  by_cases ha : a = 0
  · subst ha
    by_cases hb : b = 0
    · subst hb
      by_cases hc : c = 0
      · subst hc
        simp only [RB, iaddrV, abin, cmpInt, rdPtr, asVal, Nat.reduceEqDiff, Int.reduceNeg, ↓reduceIte, Int.reduceLT, Int.reduceLE, Int.reduceToNat, Int.reduceAdd, W_go, LPB, bne_self_eq_false]
      · simp only [RB, iaddrV, abin, cmpInt, rdPtr, asVal, Nat.reduceEqDiff, Int.reduceNeg, ↓reduceIte, Int.reduceLT, Int.reduceLE, Int.reduceToNat, Int.reduceAdd, W_go, LPB, bne_self_eq_false, bne_iff_ne.2 hc]
    · simp only [RB, iaddrV, abin, cmpInt, rdPtr, asVal, Nat.reduceEqDiff, Int.reduceNeg, ↓reduceIte, Int.reduceLT, Int.reduceLE, Int.reduceToNat, W_go, LPB, bne_self_eq_false, bne_iff_ne.2 hb, hb]
  · simp only [RB, iaddrV, abin, cmpInt, rdPtr, asVal, Nat.reduceEqDiff, ↓reduceIte, Int.reduceLT, Int.reduceLE, Int.reduceToNat, W_go, LPB, bne_iff_ne.2 ha, ha]
theorem e_prefix_Compare (p q : Pfx) : LV E 72 [.agg (pav p), .agg (pav q)] = some (.int .i64 (cmpP p q)) := by
  rw [LV_R (fn := f72) rfl rfl rfl]
  have hb : ∀ b : B16, (bav b).map (fun c => [c]) = brows b := fun _ => rfl
  simp only [f72, RB, faddrV, params, growLists, newAt, rdPtr, AV.cells, asVal, boundOf, argIds, AV.isData, Nat.reduceAdd, Nat.reduceEqDiff, Nat.reduceLT, ↓reduceIte, reduceCtorEq, DB, e_cmp_Compare_int, aop, O_buildSlq, quietOk, hb, e_bytes_Compare, e_cmp_Or_int, fillRows, asData]
  rw [cmp_key]
end Go.Proofs.YtgajekpigkknnaaDoor.F

/- The document's answer for prefixes: what its functions tell. No condition. -/
set_option linter.unusedSimpArgs false
namespace Go.Proofs.YtgajekpigkknnaaDoor.F
open Go Go.Proofs.YtgajekpigkknnaaDoor.A Go.Proofs.YtgajekpigkknnaaDoor.D
def Agree (b c : B16) (k n : Nat) : Prop := ∀ i, k ≤ i → i < n → bit b i = bit c i
noncomputable instance {b c : B16} {k n : Nat} : Decidable (Agree b c k n) := Classical.propDecidable _
end Go.Proofs.YtgajekpigkknnaaDoor.F

/- The order of prefixes by the document, and the prefixes of addresses. No condition. -/
set_option linter.unusedSimpArgs false
namespace Go.Proofs.YtgajekpigkknnaaDoor.F
open Go Go.Proofs.YtgajekpigkknnaaDoor.A Go.Proofs.YtgajekpigkknnaaDoor.D
def pre (p : Pfx) (k : Nat) : List Int := p.adr.ver :: (ints p.adr.b).take k
end Go.Proofs.YtgajekpigkknnaaDoor.F

/- Arguments that are read: flat structs, slices of flat things. No condition. -/
set_option linter.unusedSimpArgs false
set_option maxRecDepth 20000
namespace Go.Proofs.YtgajekpigkknnaaDoor.D
open Go Go.RowKit Go.Proofs.YtgajekpigkknnaaDoor.A Go.Proofs.YtgajekpigkknnaaDoor.J
variable {w : World} {P : Program} {t : TypeId} {v : Value}
theorem rdc_slice {e : TypeId} {k : Nat} {α : Type} {enc : α → List AV} {ok : α → Prop} {n : Nat} {ks : List CK} {a : Option Addr} {css : List (List Value)} {cap : Nat} (hk : 0 < k) (hc : css.length ≤ cap) (hs : SlC w k a css) (hcs : ∀ c ∈ css, RdC P w e c) (hf : flat P n e = some ks) (hfit : ∀ cs, Fits ks cs → ∃ x : α, cs.map avOf = enc x ∧ ok x) :
    ∃ l : List α, l.length = css.length ∧ (∀ x ∈ l, ok x) ∧ Rep w (Old w) [] [] [] (.ro (l.map enc)) (.slice a css.length cap) := by
  have key : ∀ css : List (List Value), (∀ c ∈ css, RdC P w e c) → ∃ l : List α, l.length = css.length ∧ (∀ x ∈ l, ok x) ∧ css.map (·.map avOf) = l.map enc := by
    intro css
    induction css with
    | nil => exact fun _ => ⟨[], rfl, by simp, rfl⟩
    | cons c css ih =>
      intro h
      obtain ⟨l, h1, h2, h3⟩ := ih fun x hx => h x (List.mem_cons_of_mem _ hx)
      obtain ⟨x, h4, h5⟩ := hfit c ((h c List.mem_cons_self).flat hf)
      exact ⟨x :: l, by simp [h1], fun y hy => by
        rcases List.mem_cons.1 hy with rfl | hy
        · exact h5
        · exact h2 y hy, by simp only [List.map_cons, h4, h3]⟩
  obtain ⟨l, h1, h2, h3⟩ := key css hcs
  exact ⟨l, h1, h2, h3 ▸ slice_rep hk hs hc fun c hc u hu => fits_plain ((hcs c hc).flat hf) u hu⟩
theorem maxLen_le : maxLen ≤ 9223372036854775807 := by decide
/-- A struct of one slice of flat things. -/
theorem reads_one {e ts : TypeId} {k : Nat} {α : Type} {enc : α → List AV} {ok : α → Prop} {n : Nat} {ks : List CK} {f : Field} (h : Reads P w t v) (ht : P.underlying t = some (.struct #[f])) (hoff : f.offset = 0) (hty : f.type = ts) (hc1 : P.cellsOf t = 1) (hc2 : P.cellsOf ts = 1) (hts : P.underlying ts = some (.slice e)) (hk : k = P.cellsOf e) (hpos : 0 < k) (hf : flat P n e = some ks) (hfit : ∀ cs, Fits ks cs → ∃ x : α, cs.map avOf = enc x ∧ ok x) :
    ∃ l : List α, l.length ≤ 9223372036854775807 ∧ (∀ x ∈ l, ok x) ∧ Rep w (Old w) [] [] [] (.agg [.ro (l.map enc)]) v := by
  obtain ⟨cs, rfl, hr⟩ := h.agg ht
  obtain ⟨h1, h2⟩ := hr.struct ht
  rw [hc1] at h1
  obtain ⟨c, rfl⟩ := List.length_eq_one_iff.1 h1
  have h3 := h2 f (by simp)
  rw [hoff, hty, hc2] at h3
  obtain ⟨a, cap, css, h4, h5, h6, h7, h8⟩ := h3.slice hts hk hpos
  simp at h4
  subst h4
  obtain ⟨l, h9, h10, h11⟩ := rdc_slice hpos h5 h7 h8 hf hfit
  refine ⟨l, by have := maxLen_le; omega, h10, .agg _ _ rfl (by simp [Value.oneCell']) fun i x u hx hu => ?_⟩
  cases i with
  | zero =>
    simp at hx hu
    subst hx; subst hu
    exact h11
  | succ i => simp at hx
end Go.Proofs.YtgajekpigkknnaaDoor.D

/- Arguments that are read: prefixes, routes. No condition. -/
set_option linter.unusedSimpArgs false
set_option maxRecDepth 20000
namespace Go.Proofs.YtgajekpigkknnaaDoor.D
open Go Go.RowKit Go.Proofs.YtgajekpigkknnaaDoor.A Go.Proofs.YtgajekpigkknnaaDoor.J
variable {w : World} {P : Program} {t : TypeId} {v : Value}
def k8 : List CK := List.replicate 16 (.i .u8)
theorem fits_u8 : ∀ (n : Nat) (cs : List Value), Fits (List.replicate n (.i .u8)) cs → ∃ l : List Nat, l.length = n ∧ (∀ x ∈ l, x < 256) ∧ cs.map avOf = l.map u8c
  | 0, [], _ => ⟨[], rfl, by simp, rfl⟩
  | n + 1, c :: cs, h => by
    rw [List.replicate_succ] at h
    obtain ⟨⟨m, rfl, hm⟩, h2⟩ := h
    obtain ⟨l, h3, h4, h5⟩ := fits_u8 n cs h2
    have hm' : 0 ≤ m ∧ m ≤ 255 := by simp [Lit.wf] at hm; exact hm
    refine ⟨m.toNat :: l, by simp [h3], ?_, ?_⟩
    · intro x hx
      rcases List.mem_cons.1 hx with rfl | hx
      · omega
      · exact h4 x hx
    · simp only [List.map_cons, h5, avOf, u8c]
      rw [show ((m.toNat : Nat) : Int) = m by omega]
  | 0, _ :: _, h => h.elim
  | n + 1, [], h => by rw [List.replicate_succ] at h; exact h.elim
theorem fits_split : ∀ (k1 k2 : List CK) (cs : List Value), Fits (k1 ++ k2) cs → ∃ a b, cs = a ++ b ∧ Fits k1 a ∧ Fits k2 b
  | [], k2, cs, h => ⟨[], cs, rfl, trivial, h⟩
  | k :: k1, k2, c :: cs, h => by
    obtain ⟨a, b, rfl, h1, h2⟩ := fits_split k1 k2 cs h.2
    exact ⟨c :: a, b, rfl, ⟨h.1, h1⟩, h2⟩
  | _ :: _, _, [], h => h.elim
theorem fits_b16 {cs : List Value} (h : Fits k8 cs) : ∃ b : B16, cs.map avOf = bav b := by
  obtain ⟨l, h1, h2, h3⟩ := fits_u8 16 cs h
  exact ⟨⟨l, h1, h2⟩, h3⟩
theorem fits_rt {cs : List Value} (h : Fits (.i .i64 :: (k8 ++ [.i .i64, .i .i64, .i .i64, .i .i64])) cs) : ∃ r : Rt, cs.map avOf = rtv r ∧ True := by
  match cs, h with
  | c :: cs, ⟨⟨n, hc, hn⟩, h2⟩ =>
    subst hc
    obtain ⟨a, b, rfl, h3, h4⟩ := fits_split k8 [.i .i64, .i .i64, .i .i64, .i .i64] cs h2
    clear h2
    obtain ⟨b16, hb⟩ := fits_b16 h3
    obtain ⟨d, e, f, g, rfl⟩ : ∃ d e f g, b = [d, e, f, g] := by
      have h5 := h4.length
      match b, h5 with
      | [d, e, f, g], _ => exact ⟨d, e, f, g, rfl⟩
    obtain ⟨⟨m, hd, hm⟩, ⟨o, he, ho⟩, ⟨q, hf, hq⟩, ⟨r, hg, hr⟩, _⟩ := h4
    subst hd; subst he; subst hf; subst hg
    exact ⟨⟨⟨⟨n, b16⟩, m⟩, o, q, r⟩, by simp only [List.map_cons, List.map_append, hb, avOf, rtv, pav, List.map_nil, List.cons_append, List.append_assoc, List.nil_append], trivial⟩
end Go.Proofs.YtgajekpigkknnaaDoor.D

/- Which routes fit, and how they stand: the program's words and the document's. No condition. -/
set_option linter.unusedSimpArgs false
set_option maxRecDepth 20000
namespace Go.Proofs.YtgajekpigkknnaaDoor.D
open Go Go.Proofs.YtgajekpigkknnaaDoor.A
def FitsP (r : Rt) : Prop := PfxOk r.p ∧ 1 ≤ r.src ∧ r.src ≤ 4 ∧ 0 ≤ r.pref ∧ r.pref ≤ 255 ∧ 1 ≤ r.hop ∧ r.hop ≤ 255
instance {r : Rt} : Decidable (FitsP r) := by unfold FitsP; infer_instance
def Ahead (a b : Rt) : Prop := cmpP a.p b.p < 0 ∨ cmpP a.p b.p = 0 ∧ a.src < b.src
instance {a b : Rt} : Decidable (Ahead a b) := by unfold Ahead; infer_instance
def ordR (a b : Rt) : Int := if cmpP a.p b.p ≠ 0 then cmpP a.p b.p else F.cmpI a.src b.src
theorem ordR_lt (a b : Rt) : ordR a b < 0 ↔ Ahead a b := by
  unfold ordR Ahead F.cmpI
  by_cases h : cmpP a.p b.p = 0
  · rw [if_neg (by simpa using h), h]; split <;> (try split) <;> omega
  · rw [if_pos h]; omega
end Go.Proofs.YtgajekpigkknnaaDoor.D
namespace Go.Proofs.YtgajekpigkknnaaDoor.F
open Go Go.Proofs.YtgajekpigkknnaaDoor.A Go.Proofs.YtgajekpigkknnaaDoor.D
theorem e47 (p : Pfx) (s f h : Int) : LV E 47 [.agg (pav p), .int .i64 s, .int .i64 f, .int .i64 h] = some (.bool (decide (FitsP ⟨p, s, f, h⟩))) := by
  rw [LV_R (fn := f47) rfl rfl rfl]
  by_cases h0 : PfxOk p
  · by_cases h1 : 1 ≤ s
    · by_cases h2 : s ≤ 4
      · by_cases h3 : 0 ≤ f
        · by_cases h4 : f ≤ 255
          · by_cases h5 : 1 ≤ h
            · by_cases h6 : h ≤ 255
              · simp only [f47, RB, pickV, abin, cmpInt, params, growLists, newAt, rdPtr, AV.cells, asVal, argIds, Nat.reduceAdd, Nat.reduceEqDiff, ↓reduceIte, reduceCtorEq, DB, e_prefix_Check, h0, h1, h2, h3, h4, h5, h6, FitsP]
              · simp only [f47, RB, pickV, abin, cmpInt, params, growLists, newAt, rdPtr, AV.cells, asVal, argIds, Nat.reduceAdd, Nat.reduceEqDiff, ↓reduceIte, reduceCtorEq, DB, e_prefix_Check, h0, h1, h2, h3, h4, h5, h6, FitsP, and_false]
            · simp only [f47, RB, pickV, abin, cmpInt, params, growLists, newAt, rdPtr, AV.cells, asVal, argIds, Nat.reduceAdd, Nat.reduceEqDiff, ↓reduceIte, reduceCtorEq, DB, e_prefix_Check, h0, h1, h2, h3, h4, h5, FitsP, and_false]
          · simp only [f47, RB, pickV, abin, cmpInt, params, growLists, newAt, rdPtr, AV.cells, asVal, argIds, Nat.reduceAdd, Nat.reduceEqDiff, ↓reduceIte, reduceCtorEq, DB, e_prefix_Check, h0, h1, h2, h3, h4, FitsP, and_false]
        · simp only [f47, RB, pickV, abin, cmpInt, params, growLists, newAt, rdPtr, AV.cells, asVal, argIds, Nat.reduceAdd, Nat.reduceEqDiff, ↓reduceIte, reduceCtorEq, DB, e_prefix_Check, h0, h1, h2, h3, FitsP, and_false]
      · simp only [f47, RB, pickV, abin, cmpInt, params, growLists, newAt, rdPtr, AV.cells, asVal, argIds, Nat.reduceAdd, Nat.reduceEqDiff, ↓reduceIte, reduceCtorEq, DB, e_prefix_Check, h0, h1, h2, FitsP, and_false]
    · simp only [f47, RB, pickV, abin, cmpInt, params, growLists, newAt, rdPtr, AV.cells, asVal, argIds, Nat.reduceAdd, Nat.reduceEqDiff, ↓reduceIte, reduceCtorEq, DB, e_prefix_Check, h0, h1, FitsP, and_false]
  · simp only [f47, RB, pickV, abin, cmpInt, params, growLists, newAt, rdPtr, AV.cells, asVal, argIds, Nat.reduceAdd, Nat.reduceEqDiff, ↓reduceIte, DB, e_prefix_Check, h0, FitsP, show ((151 : Int) == 0) = false from rfl]
theorem or2 (a b : Int) : LV E 71 [.clip [[.int .i64 a], [.int .i64 b]]] = some (.int .i64 (if a ≠ 0 then a else b)) := by
  rw [LV_R (fn := f71) rfl rfl rfl]
  simp only [f71, RB, params, lenOf, Nat.reduceAdd, Nat.reduceEqDiff, ↓reduceIte, reduceCtorEq]
  by_cases ha : a = 0
  · subst ha
    by_cases hb : b = 0
    · subst hb
      simp only [RB, iaddrV, abin, cmpInt, rdPtr, asVal, Nat.reduceEqDiff, Int.reduceNeg, ↓reduceIte, Int.reduceLT, Int.reduceLE, Int.reduceToNat, Int.reduceAdd, W_go, LPB, bne_self_eq_false]
    · simp only [RB, iaddrV, abin, cmpInt, rdPtr, asVal, Nat.reduceEqDiff, Int.reduceNeg, ↓reduceIte, Int.reduceLT, Int.reduceLE, Int.reduceToNat, W_go, LPB, bne_self_eq_false, bne_iff_ne.2 hb]
  · simp only [RB, iaddrV, abin, cmpInt, rdPtr, asVal, Nat.reduceEqDiff, ↓reduceIte, Int.reduceLT, Int.reduceLE, Int.reduceToNat, W_go, LPB, bne_iff_ne.2 ha, ha]
theorem e48 (a b : Rt) : LV E 48 [.agg (rtv a), .agg (rtv b)] = some (.int .i64 (ordR a b)) := by
  rw [LV_R (fn := f48) rfl rfl rfl]
  have h := or2 (cmpP a.p b.p) (cmpI a.src b.src)
  simp only [f48, RB, faddrV, params, growLists, newAt, rdPtr, AV.cells, asVal, argIds, AV.isData, Nat.reduceAdd, Nat.reduceEqDiff, Nat.reduceLT, ↓reduceIte, reduceCtorEq, DB, DB4, O_buildSlq, quietOk, aop_buildSl, fillRows, asData, e_prefix_Compare, e_cmp_Compare_int, h, ordR]
end Go.Proofs.YtgajekpigkknnaaDoor.F

/- How many prefixes routes have, told both ways. No condition. -/
set_option linter.unusedSimpArgs false
set_option maxRecDepth 20000
namespace Go.Proofs.YtgajekpigkknnaaDoor.D
open Go Go.Proofs.YtgajekpigkknnaaDoor.A
def tow (l : List Rt) (i : Nat) : Rt := l.getD i zerT
theorem tow_some (l : List Rt) {i : Nat} (h : i < l.length) : l[i]? = some (tow l i) := by simp [tow, List.getD_eq_getElem?_getD, h]
theorem tow_eq (l : List Rt) {i : Nat} (h : i < l.length) : tow l i = l[i] := by
  have := tow_some l h
  rw [List.getElem?_eq_getElem h] at this
  exact (Option.some.inj this).symm
theorem tow_get (l : List Rt) {i : Nat} (h : i < l.length) : (trows l)[i]? = some (rtv (tow l i)) := by
  rw [trows, List.getElem?_map, tow_some l h]; rfl
def chgC (l : List Rt) : Nat → Nat
  | 0 => 0
  | k + 1 => chgC l k + (if k = 0 ∨ (tow l (k - 1)).p ≠ (tow l k).p then 1 else 0)
theorem chgC_le (l : List Rt) : ∀ k, chgC l k ≤ k
  | 0 => Nat.le_refl _
  | k + 1 => by have := chgC_le l k; unfold chgC; split <;> omega
end Go.Proofs.YtgajekpigkknnaaDoor.D
namespace Go.Proofs.YtgajekpigkknnaaDoor.F
open Go Go.Proofs.YtgajekpigkknnaaDoor.A Go.Proofs.YtgajekpigkknnaaDoor.D
set_option maxHeartbeats 1000000 in
theorem e49 (l : List Rt) (hl : l.length ≤ 4611686018427387904) : LV E 49 [.ro (trows l)] = some (.int .i64 (chgC l l.length : Nat)) := by
  rw [LV_R (fn := f49) rfl rfl rfl]
  simp only [f49, ← rtv_zer, RB, params, lenOf, Nat.reduceEqDiff, ↓reduceIte, reduceCtorEq, DB4]
  refine (W_rec2 (β := AV) (ι := {k : Nat // k ≤ l.length}) (M := fun k => [(0, .ro (trows l)), (3, .int .i64 (chgC l k.1 : Nat)), (6, .ro (trows l)), (7, .int .i64 (l.length : Int)), (8, .int .i64 (k.1 : Int))]) (H := fun _ => ⟨[], []⟩) (r := fun _ => some (AV.int .i64 (chgC l l.length : Nat))) (μ := fun k => l.length - k.1) (fun k => ?_) (fun k ih => ?_) ⟨0, Nat.zero_le _⟩ rfl rfl)
  · simp [LPB]
  · obtain ⟨k, hk0⟩ := k
    simp only at ih ⊢
    by_cases hk : k < l.length
    · have f1 : (k : Int) < (l.length : Int) := by omega
      have f2 : (0 : Int) ≤ (k : Int) := by omega
      have f6 : IntKind.i64.wrap ((k : Int) + 1) = ((k + 1 : Nat) : Int) := by rw [IntWalk.i64_in _ (by omega)] <;> omega
      have g1 := tow_get l hk
      have hc := chgC_le l k
      have f7 : IntKind.i64.wrap (((chgC l k : Nat) : Int) + 1) = ((chgC l k + 1 : Nat) : Int) := by rw [IntWalk.i64_in _ (by omega)] <;> omega
      have ih := ih ⟨k + 1, hk⟩ (by simp only; omega)
      simp only at ih
      by_cases h0 : k = 0
      · have n0 : ((k : Int) == 0) = true := by rw [beq_iff_eq]; omega
        have e : chgC l (k + 1) = chgC l k + 1 := by
          show chgC l k + _ = _
          rw [if_pos (.inl h0)]
        rw [e] at ih
        simp only [RB, pickV, iaddrV, abin, cmpInt, growLists, newAt, rdPtr, wrPtr, AV.cells, asVal, Nat.reduceEqDiff, ↓reduceIte, reduceCtorEq, DB4, f1, f2, f6, f7, g1, n0]
        exact ih
      · have n0 : ((k : Int) == 0) = false := by rw [beq_eq_false_iff_ne]; omega
        have f8 : IntKind.i64.wrap ((k : Int) - 1) = ((k - 1 : Nat) : Int) := by rw [IntWalk.i64_in _ (by omega)]; omega
        have f9 : ((k - 1 : Nat) : Int) < (l.length : Int) := by omega
        have f10 : (0 : Int) ≤ ((k - 1 : Nat) : Int) := by omega
        have g2 := tow_get l (show k - 1 < l.length by omega)
        by_cases hp : (tow l (k - 1)).p = (tow l k).p
        · have e : chgC l (k + 1) = chgC l k := by
            show chgC l k + _ = _
            rw [if_neg (fun h => h.elim h0 (fun h => h hp))]; rfl
          rw [e] at ih
          simp only [RB, pickV, faddrV, eqaggV, iaddrV, abin, cmpInt, growLists, newAt, rdPtr, wrPtr, AV.cells, asVal, Nat.reduceEqDiff, ↓reduceIte, reduceCtorEq, DB, DB4, f1, f2, f6, g1, n0, f8, f10, g2, hp]
          exact ih
        · have e : chgC l (k + 1) = chgC l k + 1 := by
            show chgC l k + _ = _
            rw [if_pos (.inr hp)]
          rw [e] at ih
          simp only [RB, pickV, faddrV, eqaggV, iaddrV, abin, cmpInt, growLists, newAt, rdPtr, wrPtr, AV.cells, asVal, Nat.reduceEqDiff, ↓reduceIte, reduceCtorEq, DB, DB4, f1, f2, f6, f7, g1, n0, f8, f10, g2, hp]
          exact ih
    · have e : k = l.length := by omega
      subst e
      simp only [RB, abin, cmpInt, Nat.reduceEqDiff, ↓reduceIte, reduceCtorEq, show ¬ ((l.length : Nat) : Int) < (l.length : Int) by omega]
end Go.Proofs.YtgajekpigkknnaaDoor.F

/- Which RIBs may be: the program's word and the document's. No condition. -/
set_option linter.unusedSimpArgs false
set_option maxRecDepth 20000
namespace Go.Proofs.YtgajekpigkknnaaDoor.D
open Go Go.Proofs.YtgajekpigkknnaaDoor.A
def StepR (l : List Rt) (k : Nat) : Prop := FitsP (tow l k) ∧ (k = 0 ∨ Ahead (tow l (k - 1)) (tow l k))
def RibP (l : List Rt) : Prop := l.length ≤ 160 ∧ (∀ i < l.length, StepR l i) ∧ chgC l l.length ≤ 40
instance {l : List Rt} {k : Nat} : Decidable (StepR l k) := by unfold StepR; infer_instance
instance {l : List Rt} : Decidable (RibP l) := by unfold RibP; infer_instance
end Go.Proofs.YtgajekpigkknnaaDoor.D
namespace Go.Proofs.YtgajekpigkknnaaDoor.F
open Go Go.Proofs.YtgajekpigkknnaaDoor.A Go.Proofs.YtgajekpigkknnaaDoor.D
set_option maxHeartbeats 1000000 in
theorem e30 (l : List Rt) (hl : l.length ≤ 4611686018427387904) : LV E 30 [.agg [.ro (trows l)]] = some (.int .i64 (if RibP l then 0 else 211)) := by
  rw [LV_R (fn := f30) rfl rfl rfl]
  have h49 := e49 l hl
  simp only [f30, ← rtv_zer, RB, faddrV, params, growLists, newAt, rdPtr, AV.cells, asVal, lenOf, Nat.reduceEqDiff, ↓reduceIte, DB4]
  refine (W_rec2 (β := AV) (ι := {k : Nat // k ≤ l.length ∧ k ≤ 160 ∧ ∀ i < k, StepR l i}) (M := fun k => [(1, .ptr 0 0 0 0), (6, .ro (trows l)), (7, .int .i64 (l.length : Int)), (8, .int .i64 (k.1 : Int))]) (H := fun _ => ⟨[.box 0 46 [.ro (trows l)]], []⟩) (r := fun _ => some (AV.int .i64 (if RibP l then 0 else 211))) (μ := fun k => l.length - k.1) (fun k => ?_) (fun k ih => ?_) ⟨0, Nat.zero_le _, Nat.zero_le _, fun i h => absurd h (Nat.not_lt_zero _)⟩ rfl rfl)
  · simp [LPB]
  · obtain ⟨k, hk0, hk1, hS⟩ := k
    simp only at ih ⊢
    by_cases hk : k < l.length
    · have f1 : (k : Int) < (l.length : Int) := by omega
      have f2 : (0 : Int) ≤ (k : Int) := by omega
      have f6 : IntKind.i64.wrap ((k : Int) + 1) = ((k + 1 : Nat) : Int) := by rw [IntWalk.i64_in _ (by omega)] <;> omega
      have g1 := tow_get l hk
      by_cases h160 : k = 160
      · have n160 : ((k : Int) == 160) = true := by rw [beq_iff_eq]; omega
        have e : ¬ RibP l := fun h => by have := h.1; omega
        rw [if_neg e]
        simp only [RB, pickV, iaddrV, abin, cmpInt, growLists, newAt, rdPtr, wrPtr, AV.cells, asVal, Nat.reduceAdd, Nat.reduceEqDiff, ↓reduceIte, DB4, f1, f2, g1, n160]
      · have n160 : ((k : Int) == 160) = false := by rw [beq_eq_false_iff_ne]; omega
        by_cases hF : FitsP (tow l k)
        · by_cases h0 : k = 0
          · have n0 : ¬ (0 : Int) < (k : Int) := by omega
            have ih := ih ⟨k + 1, hk, by omega, fun i hi => by
              rw [show i = k by omega]; exact ⟨hF, .inl h0⟩⟩ (by simp only; omega)
            simp only at ih
            simp only [RB, pickV, notV, faddrV, iaddrV, abin, cmpInt, growLists, newAt, rdPtr, wrPtr, AV.cells, asVal, argIds, Nat.reduceAdd, Nat.reduceEqDiff, ↓reduceIte, DB, DB4, f1, f2, f6, g1, n160, e47, hF, n0]
            exact ih
          · have n0 : (0 : Int) < (k : Int) := by omega
            have f8 : IntKind.i64.wrap ((k : Int) - 1) = ((k - 1 : Nat) : Int) := by rw [IntWalk.i64_in _ (by omega)]; omega
            have f9 : ((k - 1 : Nat) : Int) < (l.length : Int) := by omega
            have f10 : (0 : Int) ≤ ((k - 1 : Nat) : Int) := by omega
            have g2 := tow_get l (show k - 1 < l.length by omega)
            by_cases hA : Ahead (tow l (k - 1)) (tow l k)
            · have hO : ¬ 0 ≤ ordR (tow l (k - 1)) (tow l k) := by have := (ordR_lt _ _).2 hA; omega
              have ih := ih ⟨k + 1, hk, by omega, fun i hi => by
                by_cases e : i = k
                · rw [e]; exact ⟨hF, .inr hA⟩
                · exact hS i (by omega)⟩ (by simp only; omega)
              simp only at ih
              simp only [RB, pickV, notV, faddrV, iaddrV, abin, cmpInt, growLists, newAt, rdPtr, wrPtr, AV.cells, asVal, argIds, Nat.reduceAdd, Nat.reduceEqDiff, ↓reduceIte, DB, DB4, f1, f2, f6, g1, n160, e47, hF, n0, f8, f10, g2, e48, hO]
              exact ih
            · have hO : 0 ≤ ordR (tow l (k - 1)) (tow l k) := by have := mt (ordR_lt _ _).1 hA; omega
              have e : ¬ RibP l := fun h => (h.2.1 k hk).2.elim h0 hA
              rw [if_neg e]
              simp only [RB, pickV, notV, faddrV, iaddrV, abin, cmpInt, growLists, newAt, rdPtr, wrPtr, AV.cells, asVal, argIds, Nat.reduceAdd, Nat.reduceEqDiff, ↓reduceIte, DB, DB4, f1, f2, g1, n160, e47, hF, n0, f8, f10, g2, e48, hO]
        · have e : ¬ RibP l := fun h => hF (h.2.1 k hk).1
          rw [if_neg e]
          simp only [RB, pickV, notV, faddrV, iaddrV, abin, cmpInt, growLists, newAt, rdPtr, wrPtr, AV.cells, asVal, argIds, Nat.reduceAdd, Nat.reduceEqDiff, ↓reduceIte, DB, DB4, f1, f2, g1, n160, e47, hF]
    · have e : k = l.length := by omega
      subst e
      by_cases h40 : chgC l l.length ≤ 40
      · have hR : RibP l := ⟨hk1, hS, h40⟩
        have n40 : ¬ (40 : Int) < (chgC l l.length : Nat) := by omega
        rw [if_pos hR]
        simp only [RB, faddrV, abin, cmpInt, rdPtr, asVal, argIds, Nat.reduceEqDiff, ↓reduceIte, show ¬ ((l.length : Nat) : Int) < (l.length : Int) by omega, h49, n40]
      · have hR : ¬ RibP l := fun h => h40 h.2.2
        have n40 : (40 : Int) < (chgC l l.length : Nat) := by omega
        rw [if_neg hR]
        simp only [RB, faddrV, abin, cmpInt, rdPtr, asVal, argIds, Nat.reduceEqDiff, ↓reduceIte, show ¬ ((l.length : Nat) : Int) < (l.length : Int) by omega, h49, n40]
end Go.Proofs.YtgajekpigkknnaaDoor.F

/- Which updates and batches may be. No condition. -/
set_option linter.unusedSimpArgs false
set_option maxRecDepth 20000
namespace Go.Proofs.YtgajekpigkknnaaDoor.D
open Go Go.Proofs.YtgajekpigkknnaaDoor.A
def FitsU (u : Up) : Prop := if u.gone = true then u.pref = 0 ∧ u.hop = 0 ∧ FitsP ⟨u.p, u.src, 0, 1⟩ else FitsP ⟨u.p, u.src, u.pref, u.hop⟩
instance {u : Up} : Decidable (FitsU u) := by unfold FitsU; infer_instance
def dupB (u x : Up) : Bool := decide (x.p = u.p ∧ x.src = u.src)
def uow (l : List Up) (i : Nat) : Up := l.getD i zerU
theorem uow_some (l : List Up) {i : Nat} (h : i < l.length) : l[i]? = some (uow l i) := by simp [uow, List.getD_eq_getElem?_getD, h]
theorem uow_get (l : List Up) {i : Nat} (h : i < l.length) : (vrows l)[i]? = some (upv (uow l i)) := by
  rw [vrows, List.getElem?_map, uow_some l h]; rfl
def StepU (l : List Up) (i : Nat) : Prop := FitsU (uow l i) ∧ (l.take i).any (dupB (uow l i)) = false
def BatP (l : List Up) : Prop := 1 ≤ l.length ∧ l.length ≤ 8 ∧ ∀ i < l.length, StepU l i
instance {l : List Up} {k : Nat} : Decidable (StepU l k) := by unfold StepU; infer_instance
instance {l : List Up} : Decidable (BatP l) := by unfold BatP; infer_instance
end Go.Proofs.YtgajekpigkknnaaDoor.D
namespace Go.Proofs.YtgajekpigkknnaaDoor.F
open Go Go.Proofs.YtgajekpigkknnaaDoor.A Go.Proofs.YtgajekpigkknnaaDoor.D
theorem r93 {ys : List Hd} {bs : List Blk} {pend : List (Option AExit)} {v : AV} {l : List Up} {P : Up → Bool} {g : FuncId} {caps : List AV} (hl : l.length ≤ 4611686018427387904) (hv : SlV bs 22 v (l.map upv)) (hp : PredG E upv g caps P bs) (hlow : belowAll bs.length bs = true) (hc : belowL bs.length caps = true) :
    LR E ys 93 [v, .clo g caps] ⟨bs, pend⟩ = some (.int .i64 (idxR P l 0), ⟨bs, pend⟩) := by
  have huf := hv.uf
  have hlen := hv.len
  have hlo := hv.low
  rw [List.length_map] at hlen
  rw [LR_R (fn := f93) rfl rfl rfl]
  simp only [f93, RB, params, Nat.reduceEqDiff, Int.reduceNeg, ↓reduceIte, reduceCtorEq, huf, hlen]
  refine (W_rec (ι := Nat) (M := fun k => [(0, v), (1, .clo g caps), (7, .int .i64 (l.length : Int)), (8, .int .i64 (k : Int))]) (H := fun _ => ⟨bs, pend⟩) (r := fun k => some ((AV.int .i64 (idxR P (l.drop k) k), ⟨bs, pend⟩) : AV × Hp)) (μ := fun k => l.length - k) (fun i => ?_) (fun k ih => ?_) 0)
  · exact ⟨by simp only [List.map_cons, List.map_nil, LPB, hlo, hc, Bool.and_self], hlow⟩
  · by_cases hk : k < l.length
    · have f1 : (k : Int) < (l.length : Int) := by omega
      have f6 : IntKind.i64.wrap ((k : Int) + 1) = ((k + 1 : Nat) : Int) := by rw [IntWalk.i64_in _ (by omega)] <;> omega
      obtain ⟨p, g1, g2⟩ := hv.get [] k (by simpa using hk)
      have g3 := g2 []
      rw [List.append_nil] at g1 g3
      rw [List.getElem?_map, List.getElem?_eq_getElem hk] at g3
      obtain ⟨ext, hpr⟩ := hp ys pend [] l[k]
      rw [List.append_nil] at hpr
      have hsh : shrink false bs.length (.bool (P l[k])) ⟨bs ++ ext, pend⟩ = some ⟨bs, pend⟩ := shrink_app rfl rfl hlow
      have e : idxR P (l.drop k) k = if P l[k] then (k : Int) else idxR P (l.drop (k + 1)) (k + 1) := by
        rw [List.drop_eq_getElem_cons hk, idxR]
      rw [e]
      cases hP : P l[k] with
      | true =>
        rw [hP] at hpr hsh
        simp only [RB, abin, cmpInt, asVal, Nat.reduceEqDiff, Int.reduceNeg, ↓reduceIte, reduceCtorEq, f1, huf, g1, g3, hpr, hsh]
      | false =>
        rw [hP] at hpr hsh
        simp only [RB, abin, cmpInt, asVal, Nat.reduceEqDiff, Int.reduceNeg, ↓reduceIte, reduceCtorEq, f1, f6, huf, g1, g3, hpr, hsh, List.take_length]
        exact ih (k + 1) (by omega)
    · simp only [RB, abin, cmpInt, Nat.reduceEqDiff, Int.reduceNeg, ↓reduceIte, reduceCtorEq, show ¬ (k : Int) < (l.length : Int) by omega]
      rw [List.drop_eq_nil_of_le (by omega)]; rfl
theorem r74 {ys : List Hd} {bs : List Blk} {pend : List (Option AExit)} {v : AV} {l : List Up} {P : Up → Bool} {g : FuncId} {caps : List AV} (hl : l.length ≤ 4611686018427387904) (hv : SlV bs 22 v (l.map upv)) (hp : PredG E upv g caps P bs) (hlow : belowAll bs.length bs = true) (hc : belowL bs.length caps = true) :
    LR E ys 74 [v, .clo g caps] ⟨bs, pend⟩ = some (.bool (l.any P), ⟨bs, pend⟩) := by
  rw [LR_R (fn := f74) rfl rfl rfl]
  have h := fun ys => r93 (ys := ys) (pend := pend) hl hv hp hlow hc
  have hsh : ∀ n, shrink false bs.length (.int .i64 n) ⟨bs, pend⟩ = some ⟨bs, pend⟩ := fun n => shrink_id rfl rfl hlow
  simp only [f74, RB, abin, cmpInt, params, Nat.reduceEqDiff, ↓reduceIte, reduceCtorEq, hv.uf, h, hsh]
  congr 3
  cases hP : l.any P with
  | false => rw [idxR_none hP]; rfl
  | true =>
    obtain ⟨i, h1, _⟩ := idxR_some (k := 0) hP
    rw [h1]; simp
theorem e76 (u : Up) : LV E 76 [.agg (upv u)] = some (.bool (decide (FitsU u))) := by
  rw [LV_R (fn := f76) rfl rfl rfl]
  cases hg : u.gone with
  | false =>
    have e : decide (FitsU u) = decide (FitsP ⟨u.p, u.src, u.pref, u.hop⟩) := decide_eq_decide.2 (by unfold FitsU; rw [if_neg (by rw [hg]; simp)])
    rw [e]
    simp only [f76, RB, faddrV, params, growLists, newAt, rdPtr, AV.cells, asVal, argIds, Nat.reduceEqDiff, ↓reduceIte, DB, DB4, hg, e47]
  | true =>
    have e : decide (FitsU u) = decide (u.pref = 0 ∧ u.hop = 0 ∧ FitsP ⟨u.p, u.src, 0, 1⟩) := decide_eq_decide.2 (by unfold FitsU; rw [if_pos hg])
    rw [e]
    by_cases h1 : u.pref = 0
    · by_cases h2 : u.hop = 0
      · simp only [f76, RB, pickV, faddrV, abin, cmpInt, params, growLists, newAt, rdPtr, AV.cells, asVal, argIds, Nat.reduceEqDiff, ↓reduceIte, DB, DB4, hg, e47, h1, h2]
      · have z : (u.hop == 0) = false := by rw [beq_eq_false_iff_ne]; exact h2
        simp only [f76, RB, pickV, faddrV, abin, cmpInt, params, growLists, newAt, rdPtr, AV.cells, asVal, Nat.reduceEqDiff, ↓reduceIte, DB4, hg, h1, h2, z]
    · have z : (u.pref == 0) = false := by rw [beq_eq_false_iff_ne]; exact h1
      simp only [f76, RB, pickV, faddrV, abin, cmpInt, params, growLists, newAt, rdPtr, AV.cells, asVal, Nat.reduceEqDiff, ↓reduceIte, DB4, hg, h1, z]
theorem r75 {ys : List Hd} {bs : List Blk} {pend : List (Option AExit)} {i lk e : Nat} (x u : Up) (h : bs[i]? = some (.box lk e (upv u))) : LR E ys 75 [.agg (upv x), .ptr i 0 0 0] ⟨bs, pend⟩ = some (.bool (dupB u x), ⟨bs ++ [.box 0 42 (upv x)], pend⟩) := by
  have g : ∀ r, (bs ++ r)[i]? = some (.box lk e (upv u)) := fun r => get_lt h
  rw [LR_R (fn := f75) rfl rfl rfl]
  unfold dupB
  by_cases h1 : x.p = u.p
  · by_cases h2 : x.src = u.src
    · simp only [f75, RB, pickV, faddrV, eqaggV, abin, cmpInt, params, growLists, newAt, rdPtr, AV.cells, asVal, Nat.reduceEqDiff, ↓reduceIte, reduceCtorEq, DB, DB4, R7B, g, h1, h2]
    · have z : (x.src == u.src) = false := by rw [beq_eq_false_iff_ne]; exact h2
      simp only [f75, RB, pickV, faddrV, eqaggV, abin, cmpInt, params, growLists, newAt, rdPtr, AV.cells, asVal, Nat.reduceEqDiff, ↓reduceIte, reduceCtorEq, DB, DB4, R7B, g, h1, h2, z, and_false]
  · simp only [f75, RB, pickV, faddrV, eqaggV, params, growLists, newAt, rdPtr, AV.cells, asVal, Nat.reduceEqDiff, ↓reduceIte, reduceCtorEq, DB, DB4, R7B, g, h1]
set_option maxHeartbeats 1000000 in
theorem e50 (l : List Up) : LV E 50 [.agg [.ro (vrows l)]] = some (.int .i64 (if BatP l then 0 else 210)) := by
  rw [LV_R (fn := f50) rfl rfl rfl]
  by_cases h1 : 1 ≤ l.length
  · have n1 : ¬ (l.length : Int) < 1 := by omega
    by_cases h8 : l.length ≤ 8
    · have n8 : ¬ (8 : Int) < (l.length : Int) := by omega
      simp only [f50, ← upv_zer, RB, pickV, faddrV, abin, cmpInt, params, growLists, newAt, rdPtr, AV.cells, asVal, lenOf, Nat.reduceEqDiff, ↓reduceIte, DB4, n1, n8]
      refine (W_rec2 (β := AV) (ι := {k : Nat // k ≤ l.length ∧ ∀ i < k, StepU l i}) (M := fun k => [(1, .ptr 0 0 0 0), (17, .ro (vrows l)), (18, .int .i64 (l.length : Int)), (19, .int .i64 (k.1 : Int))]) (H := fun _ => ⟨[.box 0 35 [.ro (vrows l)]], []⟩) (r := fun _ => some (AV.int .i64 (if BatP l then 0 else 210))) (μ := fun k => l.length - k.1) (fun k => ?_) (fun k ih => ?_) ⟨0, Nat.zero_le _, fun i h => absurd h (Nat.not_lt_zero _)⟩ rfl rfl)
      · simp [LPB]
      · obtain ⟨k, hk0, hS⟩ := k
        simp only at ih ⊢
        by_cases hk : k < l.length
        · have f1 : (k : Int) < (l.length : Int) := by omega
          have f2 : (0 : Int) ≤ (k : Int) := by omega
          have f6 : IntKind.i64.wrap ((k : Int) + 1) = ((k + 1 : Nat) : Int) := by rw [IntWalk.i64_in _ (by omega)] <;> omega
          have g1 := uow_get l hk
          have hf := vrows_fits l (Nat.zero_le k) hk0
          have h74 := r74 (ys := []) (bs := [.box 0 35 [.ro (vrows l)], .box 0 42 (upv (uow l k))]) (pend := []) (v := .ro (vrows (l.take k))) (l := l.take k) (P := dupB (uow l k)) (g := 75) (caps := [.ptr 1 0 0 0]) (by rw [List.length_take]; omega) (SlV.ro (vrows_k _)) (fun ys pend ext x => ⟨_, r75 (lk := 0) (e := 42) x (uow l k) (get_lt rfl)⟩) (by simp [LPB, upv_below]) rfl
          have hs : ∀ b, shrink false 2 (.bool b) ⟨[.box 0 35 [.ro (vrows l)], .box 0 42 (upv (uow l k))], []⟩ = some ⟨[.box 0 35 [.ro (vrows l)], .box 0 42 (upv (uow l k))], []⟩ := fun b => by simp [shrink, LPB, upv_below]
          by_cases hF : FitsU (uow l k)
          · cases hd : (l.take k).any (dupB (uow l k)) with
            | true =>
              rw [hd] at h74
              rw [if_neg (fun h : BatP l => by have := (h.2.2 k hk).2; rw [hd] at this; cases this)]
              simp only [RB, pickV, notV, faddrV, iaddrV, cloV, abin, cmpInt, growLists, newAt, rdPtr, wrPtr, AV.cells, asVal, lenOf, boundOf, argIds, AV.isYld, Nat.reduceAdd, Nat.reduceEqDiff, ↓reduceIte, DB4, f1, f2, g1, aslice, hk0, hf, h74, hs, e76, hF]
            | false =>
              rw [hd] at h74
              have ih := ih ⟨k + 1, hk, fun i hi => by
                by_cases e : i = k
                · rw [e]; exact ⟨hF, hd⟩
                · exact hS i (by omega)⟩ (by simp only; omega)
              simp only at ih
              simp only [RB, pickV, notV, faddrV, iaddrV, cloV, abin, cmpInt, growLists, newAt, rdPtr, wrPtr, AV.cells, asVal, lenOf, boundOf, argIds, AV.isYld, Nat.reduceAdd, Nat.reduceEqDiff, ↓reduceIte, DB4, f1, f2, f6, g1, aslice, hk0, hf, h74, hs, e76, hF]
              exact ih
          · rw [if_neg (fun h : BatP l => hF (h.2.2 k hk).1)]
            simp only [RB, pickV, notV, faddrV, iaddrV, cloV, abin, cmpInt, growLists, newAt, rdPtr, wrPtr, AV.cells, asVal, lenOf, boundOf, argIds, AV.isYld, Nat.reduceAdd, Nat.reduceEqDiff, ↓reduceIte, DB4, f1, f2, g1, aslice, hk0, hf, h74, hs, e76, hF]
        · have e : k = l.length := by omega
          subst e
          rw [if_pos (show BatP l from ⟨h1, h8, hS⟩)]
          simp only [RB, abin, cmpInt, Nat.reduceEqDiff, ↓reduceIte, show ¬ ((l.length : Nat) : Int) < (l.length : Int) by omega]
    · have n8 : (8 : Int) < (l.length : Int) := by omega
      rw [if_neg (fun h : BatP l => h8 h.2.1)]
      simp only [f50, RB, pickV, faddrV, abin, cmpInt, params, growLists, newAt, rdPtr, AV.cells, asVal, lenOf, Nat.reduceEqDiff, ↓reduceIte, DB4, n1, n8]
  · have n1 : (l.length : Int) < 1 := by omega
    rw [if_neg (fun h : BatP l => h1 h.1)]
    simp only [f50, RB, pickV, faddrV, abin, cmpInt, params, growLists, newAt, rdPtr, AV.cells, asVal, lenOf, Nat.reduceEqDiff, ↓reduceIte, DB4, n1]
end Go.Proofs.YtgajekpigkknnaaDoor.F

/- Where a route stands among routes: the search. No condition. -/
set_option linter.unusedSimpArgs false
set_option maxRecDepth 20000
namespace Go.Proofs.YtgajekpigkknnaaDoor.D
open Go Go.Proofs.YtgajekpigkknnaaDoor.A
def KeyEq (a b : Rt) : Prop := a.p = b.p ∧ a.src = b.src
instance {a b : Rt} : Decidable (KeyEq a b) := by unfold KeyEq; infer_instance
theorem ahead_trans {a b c : Rt} (h1 : Ahead a b) (h2 : Ahead b c) : Ahead a c := by
  unfold Ahead at *
  rcases h1 with h1 | ⟨h1, h3⟩
  · rcases h2 with h2 | ⟨h2, _⟩
    · exact .inl (cmp_trans h1 h2)
    · rw [cmp_zero h2] at h1; exact .inl h1
  · rw [cmp_zero h1]
    rcases h2 with h2 | ⟨h2, h4⟩
    · exact .inl h2
    · exact .inr ⟨h2, by omega⟩
theorem ahead_irr (a : Rt) : ¬ Ahead a a := by unfold Ahead; rw [cmp_self]; omega
theorem ahead_tri (a b : Rt) : Ahead a b ∨ KeyEq a b ∨ Ahead b a := by
  unfold Ahead KeyEq
  have h := cmp_anti a.p b.p
  by_cases h1 : cmpP a.p b.p = 0
  · rw [cmp_zero h1, cmp_self]
    by_cases h2 : a.src = b.src
    · exact .inr (.inl ⟨rfl, h2⟩)
    · by_cases h3 : a.src < b.src
      · exact .inl (.inr ⟨rfl, h3⟩)
      · exact .inr (.inr (.inr ⟨rfl, by omega⟩))
  · by_cases h2 : cmpP a.p b.p < 0
    · exact .inl (.inl h2)
    · exact .inr (.inr (.inl (by omega)))
theorem keyEq_ahead {a b c : Rt} (h : KeyEq a b) : Ahead a c ↔ Ahead b c := by unfold Ahead; rw [h.1, h.2]
theorem keyEq_ahead' {a b c : Rt} (h : KeyEq a b) : Ahead c a ↔ Ahead c b := by unfold Ahead; rw [h.1, h.2]
def SortR (l : List Rt) : Prop := ∀ i j, i < j → j < l.length → Ahead (tow l i) (tow l j)
def LoR (l : List Rt) (p : Rt) (i : Nat) : Prop := ∀ j, j < i → Ahead (tow l j) p
def HiR (l : List Rt) (p : Rt) (i : Nat) : Prop := ∀ j, i ≤ j → j < l.length → ¬ Ahead (tow l j) p
theorem SortR.le {l : List Rt} (h : SortR l) {p : Rt} {i j : Nat} (hij : i ≤ j) (hj : j < l.length) (hp : Ahead (tow l j) p) : Ahead (tow l i) p := by
  rcases Nat.lt_or_eq_of_le hij with h1 | rfl
  · exact ahead_trans (h i j h1 hj) hp
  · exact hp
theorem SortR.ge {l : List Rt} (h : SortR l) {p : Rt} {i j : Nat} (hij : i ≤ j) (hj : j < l.length) (hp : ¬ Ahead (tow l i) p) : ¬ Ahead (tow l j) p := fun h2 => hp (h.le hij hj h2)
theorem sortR_step {l : List Rt} {n : Nat} (hn : n ≤ l.length) (h : ∀ i < n, StepR l i) : ∀ j, j < n → ∀ i, i < j → Ahead (tow l i) (tow l j)
  | 0, _, i, hi => absurd hi (Nat.not_lt_zero _)
  | j + 1, hj, i, hi => by
    have h1 := (h (j + 1) hj).2.resolve_left (by omega)
    rcases Nat.lt_or_eq_of_le (show i ≤ j by omega) with h2 | rfl
    · exact ahead_trans (sortR_step hn h j (by omega) i h2) h1
    · exact h1
theorem RibP.sort {l : List Rt} (h : RibP l) : SortR l := fun i j hij hj => sortR_step (Nat.le_refl _) h.2.1 j hj i hij
theorem ordR_zero (a b : Rt) : (ordR a b == 0) = decide (KeyEq a b) := by
  by_cases h : KeyEq a b
  · rw [decide_eq_true h]
    unfold ordR F.cmpI
    rw [h.1, h.2, cmp_self]; simp
  · rw [decide_eq_false h, beq_eq_false_iff_ne]
    intro h0
    apply h
    unfold ordR F.cmpI at h0
    by_cases h1 : cmpP a.p b.p = 0
    · rw [if_neg (by simpa using h1)] at h0
      refine ⟨cmp_zero h1, ?_⟩
      split at h0
      · omega
      · split at h0 <;> omega
    · rw [if_pos h1] at h0; exact absurd h0 h1
theorem cmpR_zero (a b : Rt) : (cmpR a b == 0) = decide (KeyEq a b) := by
  by_cases h : KeyEq a b
  · rw [decide_eq_true h]
    unfold cmpR
    rw [h.1, h.2, cmp_self]; simp
  · rw [decide_eq_false h, beq_eq_false_iff_ne]
    intro h0
    apply h
    unfold cmpR at h0
    by_cases h1 : cmpP a.p b.p = 0
    · rw [if_neg (by simpa using h1)] at h0
      exact ⟨cmp_zero h1, by omega⟩
    · rw [if_pos h1] at h0; exact absurd h0 h1
end Go.Proofs.YtgajekpigkknnaaDoor.D
namespace Go.Proofs.YtgajekpigkknnaaDoor.F
open Go Go.Proofs.YtgajekpigkknnaaDoor.A Go.Proofs.YtgajekpigkknnaaDoor.D
/-- A comparison, as a call. -/
def CmpC (g : FuncId) (c : Rt → Rt → Int) (S : Rt → Prop) : Prop := ∀ ys pend bs a b, S a → S b → ∃ e, LR E ys g [.agg (rtv a), .agg (rtv b)] ⟨bs, pend⟩ = some (.int .i64 (c a b), ⟨bs ++ e, pend⟩)
theorem r48 : CmpC 48 ordR (fun _ => True) := fun ys pend bs a b _ _ => by
  refine ⟨[.box 0 53 (rtv a), .box 0 53 (rtv b), .dead], ?_⟩
  rw [LR_R (fn := f48) rfl rfl rfl]
  have h := or2 (cmpP a.p b.p) (F.cmpI a.src b.src)
  simp only [f48, RB, faddrV, params, growLists, newAt, rdPtr, AV.cells, asVal, argIds, AV.isData, Nat.reduceAdd, Nat.reduceEqDiff, Nat.reduceLT, ↓reduceIte, reduceCtorEq, DB, DB4, R7B, List.append_assoc, List.length_append, O_buildSlq, quietOk, aop_buildSl, fillRows, asData, e_prefix_Compare, e_cmp_Compare_int, h, ordR]
theorem r68 : CmpC 68 cmpR okR := fun ys pend bs a b ha hb => by
  refine ⟨[.box 0 53 (rtv a), .box 0 53 (rtv b)], ?_⟩
  rw [LR_R (fn := f68) rfl rfl rfl]
  have h1 := e_prefix_Compare a.p b.p
  have f1 : IntKind.i64.wrap (a.src - b.src) = a.src - b.src := by
    unfold okR at ha hb
    rw [IntWalk.i64_in _ (by omega)]
  by_cases h : cmpP a.p b.p = 0
  · have z0 : (cmpP a.p b.p != 0) = false := by rw [h]; rfl
    have e : cmpR a b = a.src - b.src := by unfold cmpR; rw [if_neg (by simpa using h)]
    rw [e]
    simp only [f68, RB, faddrV, abin, cmpInt, params, growLists, newAt, rdPtr, AV.cells, asVal, argIds, Nat.reduceAdd, Nat.reduceEqDiff, ↓reduceIte, reduceCtorEq, DB, DB4, R7B, List.length_append, h1, z0, f1]
  · have z0 : (cmpP a.p b.p != 0) = true := by simpa using h
    have e : cmpR a b = cmpP a.p b.p := by unfold cmpR; rw [if_pos h]
    rw [e]
    simp only [f68, RB, faddrV, abin, cmpInt, params, growLists, newAt, rdPtr, AV.cells, asVal, argIds, Nat.reduceAdd, Nat.reduceEqDiff, ↓reduceIte, reduceCtorEq, DB, DB4, R7B, List.length_append, h1, z0]
set_option maxHeartbeats 1000000 in
theorem r51 {ys : List Hd} {bs : List Blk} {pend : List (Option AExit)} {v : AV} {l : List Rt} {g : FuncId} {c : Rt → Rt → Int} {S : Rt → Prop} (hc : CmpC g c S) (hcn : ∀ a b, c a b < 0 ↔ Ahead a b) (hcz : ∀ a b, (c a b == 0) = decide (KeyEq a b)) (p : Rt) (hp : S p) (hS : ∀ i < l.length, S (tow l i)) (hn : l.length ≤ 1000000) (hv : SlV bs 21 v (trows l)) (hr : SortR l) (hlow : belowAll bs.length bs = true) :
    ∃ e i, i ≤ l.length ∧ LoR l p i ∧ HiR l p i ∧ LR E ys 51 [v, .agg (rtv p), .clo g []] ⟨bs, pend⟩ = some (.tup [.int .i64 (i : Nat), .bool (decide (i < l.length ∧ KeyEq (tow l i) p))], ⟨bs ++ e, pend⟩) := by
  have huf := hv.uf
  have hlen := hv.len
  rw [trows_len] at hlen
  have hlo : ∀ m, bs.length ≤ m → v.refsLt m = true := fun m h => by
    have := hv.low
    have h2 := belowL_mono h [v] (by simp [belowL, this])
    simpa [belowL] using h2
  have hlo1 := hlo (bs.length + 1) (by omega)
  have hb1 : belowAll (bs.length + 1) bs = true := belowAll_mono (by omega) hlow
  have hbb : belowAll (bs.length + 1) (bs ++ [.box 0 53 (rtv p)]) = true := by rw [ball_app, belowAll_mono (by omega) hlow]; simp [LPB, rtv_below]
  have hget : ∀ ext k, k < l.length → ∃ q, iaddrV (bs ++ ext) 21 none v (.int .i64 (k : Int)) = some q ∧ ∀ ext', rdPtr (bs ++ ext') q 21 = some (rtv (tow l k)) := fun ext k hk => by
    obtain ⟨q, h1, h2⟩ := hv.get ext k (by rw [trows_len]; exact hk)
    exact ⟨q, h1, fun ext' => by rw [h2, tow_get l hk]⟩
  have hld : rdPtr (bs ++ [.box 0 53 (rtv p)]) (.ptr bs.length 0 0 0) 21 = some (rtv p) := by
    simp only [rdPtr, A.get_at rfl, List.getElem?_cons_zero, and_self, if_true, rtv_p]
  suffices H : ∃ e i, i ≤ l.length ∧ LoR l p i ∧ HiR l p i ∧ LR E ys 51 [v, .agg (rtv p), .clo g []] ⟨bs, pend⟩ = some (.tup [.int .i64 (i : Nat), .bool (decide (i < l.length ∧ KeyEq (tow l i) p))], ⟨bs ++ e, pend⟩) from H
  rw [LR_R (fn := f51) rfl rfl rfl]
  simp only [f51, RB, params, growLists, newAt, AV.cells, Nat.reduceAdd, Nat.reduceEqDiff, ↓reduceIte, reduceCtorEq, DB4, R7B, List.length_append, huf, hlen]
  refine W_recP2 (ι := {s : Nat × Nat // s.1 ≤ s.2 ∧ s.2 ≤ l.length ∧ LoR l p s.1 ∧ HiR l p s.2}) (M := fun s => [(0, v), (2, .clo g []), (4, .ptr bs.length 0 0 0), (8, .int .i64 (l.length : Int)), (9, .int .i64 (s.1.1 : Int)), (10, .int .i64 (s.1.2 : Int))])
    (H := fun _ => ⟨bs ++ [.box 0 53 (rtv p)], pend⟩)
    (Q := fun _ x => ∃ e i, i ≤ l.length ∧ LoR l p i ∧ HiR l p i ∧ x = some ((AV.tup [.int .i64 (i : Nat), .bool (decide (i < l.length ∧ KeyEq (tow l i) p))], ⟨bs ++ e, pend⟩) : AV × Hp)) (μ := fun s => s.1.2 - s.1.1) (fun s => ?_) (fun s ih => ?_) ⟨(0, l.length), Nat.zero_le _, Nat.le_refl _, fun j h => by omega, fun j h1 h2 => by omega⟩ rfl rfl
  · exact ⟨by simp only [List.map_cons, List.map_nil, LPB, hlo1, Bool.and_self]; simp, hbb⟩
  · obtain ⟨⟨lo, hi⟩, h1, h2, h3, h4⟩ := s
    simp only at h1 h2 h3 h4 ih ⊢
    by_cases hk : lo < hi
    · have f1 : (lo : Int) < (hi : Int) := by omega
      have w1 : IntKind.i64.wrap ((lo : Int) + (hi : Int)) = ((lo + hi : Nat) : Int) := by rw [IntWalk.i64_in _ (by omega)]; omega
      have w2 : IntKind.u64.wrap ((lo + hi : Nat) : Int) = ((lo + hi : Nat) : Int) := IntWalk.u64_in _ (by omega)
      have w3 : ((lo + hi : Nat) : Int).fdiv (2 ^ (Nat.min 1 64)) = (((lo + hi) / 2 : Nat) : Int) := by
        rw [show Nat.min 1 64 = 1 from rfl, Int.fdiv_eq_ediv_of_nonneg _ (by decide)]; omega
      have w4 : IntKind.i64.wrap (((lo + hi) / 2 : Nat) : Int) = (((lo + hi) / 2 : Nat) : Int) := IntWalk.i64_in _ (by omega)
      have w5 : IntKind.i64.wrap ((((lo + hi) / 2 : Nat) : Int) + 1) = (((lo + hi) / 2 + 1 : Nat) : Int) := by rw [IntWalk.i64_in _ (by omega)]; omega
      have hm1 : lo ≤ (lo + hi) / 2 := by omega
      have hm2 : (lo + hi) / 2 < hi := by omega
      generalize (lo + hi) / 2 = m at *
      obtain ⟨q, g1, g2⟩ := hget [.box 0 53 (rtv p)] m (by omega)
      obtain ⟨e, h90⟩ := hc ys pend (bs ++ [.box 0 53 (rtv p)]) (tow l m) p (hS m (by omega)) hp
      have hsh : shrink false (bs.length + 1) (.int .i64 (c (tow l m) p)) ⟨(bs ++ [.box 0 53 (rtv p)]) ++ e, pend⟩ = some ⟨bs ++ [.box 0 53 (rtv p)], pend⟩ := shrink_app (by simp) rfl hbb
      simp only [List.append_assoc] at h90 hsh
      by_cases hcm : c (tow l m) p < 0
      · simp only [RB, convV, abin, cmpInt, asVal, Nat.reduceEqDiff, ↓reduceIte, reduceCtorEq, Int.reduceLE, Int.reduceToNat, IntKind.bits, DB4, take_add, List.length_append, shrink_lit, ball_app, LPB, f1, w1, w2, w3, w4, w5, huf, g1, g2, hld, hb1, h90, hcm]
        exact ih ⟨(m + 1, hi), by omega, h2, fun j hj => hr.le (show j ≤ m by omega) (by omega) ((hcn _ _).1 hcm), h4⟩ (by simp only; omega)
      · simp only [RB, convV, abin, cmpInt, asVal, Nat.reduceEqDiff, ↓reduceIte, reduceCtorEq, Int.reduceLE, Int.reduceToNat, IntKind.bits, DB4, take_add, List.length_append, shrink_lit, ball_app, LPB, f1, w1, w2, w3, w4, huf, g1, g2, hld, hb1, h90, hcm]
        exact ih ⟨(lo, m), by omega, by omega, h3, fun j hj hj2 => hr.ge hj hj2 (mt (hcn _ _).2 hcm)⟩ (by simp only; omega)
    · have e : lo = hi := by omega
      subst e
      simp only [RB, abin, cmpInt, Nat.reduceEqDiff, ↓reduceIte, reduceCtorEq, List.length_append, show ¬ (lo : Int) < (lo : Int) by omega]
      by_cases hl : lo < l.length
      · have f1 : (lo : Int) < (l.length : Int) := by omega
        obtain ⟨q, g1, g2⟩ := hget [.box 0 53 (rtv p)] lo hl
        obtain ⟨e, h90⟩ := hc ys pend (bs ++ [.box 0 53 (rtv p)]) (tow l lo) p (hS lo hl) hp
        have hsh : shrink false (bs.length + 1) (.int .i64 (c (tow l lo) p)) ⟨(bs ++ [.box 0 53 (rtv p)]) ++ e, pend⟩ = some ⟨bs ++ [.box 0 53 (rtv p)], pend⟩ := shrink_app (by simp) rfl hbb
        simp only [List.append_assoc] at h90 hsh
        have hz := hcz (tow l lo) p
        refine ⟨[.box 0 53 (rtv p)], lo, h2, h3, h4, ?_⟩
        simp only [RB, pickV, abin, cmpInt, asVal, Nat.reduceEqDiff, ↓reduceIte, reduceCtorEq, DB4, take_add, List.length_append, shrink_lit, ball_app, LPB, f1, huf, g1, g2, hld, hb1, h90, hz, hl]
      · have f1 : ¬ (lo : Int) < (l.length : Int) := by omega
        refine ⟨[.box 0 53 (rtv p)], lo, h2, h3, h4, ?_⟩
        simp only [RB, pickV, Nat.reduceEqDiff, ↓reduceIte, f1, hl]
end Go.Proofs.YtgajekpigkknnaaDoor.F

/- Copies of rows, a row put in, a row taken out: the library's calls. No condition. -/
set_option linter.unusedSimpArgs false
set_option maxRecDepth 20000
namespace Go.Proofs.YtgajekpigkknnaaDoor.D
open Go Go.Proofs.YtgajekpigkknnaaDoor.A
theorem LR_prim {E : Env} {ys : List Hd} {hp : Hp} {f : FuncId} {args : List AV} {p : List AV → List Blk → Option (AV × List Blk)} (h1 : E.prim f = some p) (ha : args.any AV.isYld = false) : LR E ys f args hp = (p args hp.bs).map fun r => (r.1, { hp with bs := r.2 }) := by
  rw [LR_eq, h1]; simp [ha]
theorem trows_ins (l : List Rt) (i : Nat) (r : Rt) : (trows l).take i ++ [rtv r] ++ (trows l).drop i = trows (l.take i ++ [r] ++ l.drop i) := by
  unfold trows; simp [List.map_take, List.map_drop]
end Go.Proofs.YtgajekpigkknnaaDoor.D
namespace Go.Proofs.YtgajekpigkknnaaDoor.F
open Go Go.Proofs.YtgajekpigkknnaaDoor.A Go.Proofs.YtgajekpigkknnaaDoor.D
theorem e36 (l : List Rt) (hl : l.length ≤ 1000000) : LV E 36 [.ro (trows l)] = some (.fresh 53 21 (trows l)) := by
  rw [LV_prim (p := pClone 53 21 56) rfl]
  have h : ((trows l).all fun r => r.length == 21) = true := by
    rw [List.all_eq_true]; intro r hr
    obtain ⟨p, _, rfl⟩ := List.mem_map.1 hr
    simp [rtv_len]
  have h2 : (trows l).length * 56 ≤ 140737488355328 := by rw [trows_len]; omega
  simp only [pClone, rowsOf, h, h2, show 0 < 21 by omega, and_self, if_true, Option.bind_some, expRes_lis, expCell, List.getElem?_cons_zero, Nat.zero_add, Nat.le_refl, List.drop_zero, List.take_length]
theorem e22 (l : List Up) (hl : l.length ≤ 1000000) : LV E 22 [.ro (vrows l)] = some (.fresh 42 22 (vrows l)) := by
  rw [LV_prim (p := pClone 42 22 64) rfl]
  have h : ((vrows l).all fun r => r.length == 22) = true := by
    rw [List.all_eq_true]; intro r hr
    obtain ⟨p, _, rfl⟩ := List.mem_map.1 hr
    simp [upv_len]
  have h2 : (vrows l).length * 64 ≤ 140737488355328 := by rw [vrows_len]; omega
  simp only [pClone, rowsOf, h, h2, show 0 < 22 by omega, and_self, if_true, Option.bind_some, expRes_lis, expCell, List.getElem?_cons_zero, Nat.zero_add, Nat.le_refl, List.drop_zero, List.take_length]
theorem r53 {ys : List Hd} {bs : List Blk} {pend : List (Option AExit)} {id g id2 g2 lk2 : Nat} {l zs : List Rt} {n i : Nat} (r : Rt) (hb : bs[id]? = some (.lst 0 g 53 21 (trows (l ++ zs)))) (hb2 : bs[id2]? = some (.lst lk2 g2 53 21 [rtv r])) (hn : l.length = n) (hi : i ≤ n) (hne : id ≠ id2) (hl : n ≤ 1000000) :
    LR E ys 53 [.lis id g 0 n, .int .i64 (i : Nat), .lis id2 g2 0 1] ⟨bs, pend⟩ = some (.lis id (g + 2) 0 (n + 1), ⟨bs.set id (.lst 0 (g + 2) 53 21 (trows (l.take i ++ [r] ++ l.drop i))), pend⟩) := by
  rw [LR_prim (p := pInsertT 53 21 56) rfl rfl]
  subst hn
  have hid := (List.getElem?_eq_some_iff.1 hb).1
  have ht : (trows (l ++ zs)).take l.length = trows l := by rw [trows_take, List.take_left]
  have hb' : (bs.set id (.lst 0 (g + 1) 53 21 (trows l)))[id]? = some (.lst 0 (g + 1) 53 21 (trows l)) := List.getElem?_set_self hid
  have hb2' : (bs.set id (.lst 0 (g + 1) 53 21 (trows l)))[id2]? = some (.lst lk2 g2 53 21 [rtv r]) := by rw [List.getElem?_set_ne hne]; exact hb2
  have hll : l.length ≤ (l ++ zs).length := by simp
  unfold pInsertT
  simp only [hb, trows_len, true_and, hll, if_true, ht]
  unfold pInsert
  simp only [hb', hb2', trows_len, and_self, List.length_singleton, hne, ne_eq, not_false_eq_true, show (0 : Int) ≤ (i : Nat) by omega, show ((i : Nat) : Int) ≤ (l.length : Nat) by omega, show (l.length + 1) * 56 ≤ 140737488355328 by omega, show l.length + 1 ≤ 4611686018427387904 by omega, if_true, Int.toNat_natCast, trows_ins, Option.map_some, List.set_set]
set_option maxHeartbeats 1000000 in
theorem r52 {ys : List Hd} {bs : List Blk} {pend : List (Option AExit)} {id g : Nat} {L : List Rt} {n i : Nat} (hb : bs[id]? = some (.lst 0 g 53 21 (trows L))) (hn : n ≤ L.length) (hi : i < n) (hl : n ≤ 1000000) (hlow : belowAll bs.length bs = true) :
    ∃ zs e, LR E ys 52 [.lis id g 0 n, .int .i64 (i : Nat), .int .i64 ((i + 1 : Nat) : Int)] ⟨bs, pend⟩ = some (.lis id g 0 (n - 1), ⟨bs.set id (.lst 0 g 53 21 (trows ((L.take i ++ (L.drop (i + 1)).take (n - (i + 1))) ++ zs))) ++ e, pend⟩) := by
  have hA : ∀ r, (bs ++ r)[id]? = some (.lst 0 g 53 21 (trows L)) := fun r => get_lt hb
  have ia := (List.getElem?_eq_some_iff.1 hb).1
  have sA : ∀ r x, (bs ++ r).set id x = bs.set id x ++ r := fun r x => by rw [List.set_append_left _ _ ia]
  have f1 : (i : Int) < (n : Int) := by omega
  have f2 : (0 : Int) ≤ (i : Int) := by omega
  have f3 : ((i : Int) == ((i + 1 : Nat) : Int)) = false := by rw [beq_eq_false_iff_ne]; omega
  have g1 : i ≤ i + 1 := by omega
  have g2 : i + 1 ≤ n := by omega
  have g4 : i ≤ n := by omega
  have g5 : ¬ (n < i) := by omega
  have g6 : i ≤ L.length := by omega
  have g7 : i + 1 ≤ L.length := by omega
  obtain ⟨Y, hY⟩ : ∃ Y, (L.drop (i + 1)).take (n - (i + 1)) = Y := ⟨_, rfl⟩
  have hYl : Y.length = n - (i + 1) := by rw [← hY, List.length_take, List.length_drop]; omega
  have h2 : headFits 21 (trows Y) = true := trows_fit Y
  have h3 : i + (n - (i + 1)) ≤ L.length := by omega
  have h3' : i + (1 + (n - (i + 1))) ≤ L.length := by omega
  have h4 : i + (n - (i + 1)) = n - 1 := by omega
  have h5 : n - 1 ≤ n := by omega
  have hB : ∀ X r, (bs.set id X ++ r)[id]? = some X := fun X r => by rw [List.getElem?_append_left (by rw [List.length_set]; exact ia), List.getElem?_set_self ia]
  have sB : ∀ X r Y, (bs.set id X ++ r).set id Y = bs.set id Y ++ r := fun X r Y => by rw [List.set_append_left _ _ (by rw [List.length_set]; exact ia), List.set_set]
  have h7 : min i L.length = i := by omega
  have h8 : (0 : Int) ≤ ((n - 1 : Nat) : Int) := by omega
  have h10 : n - (n - 1) = 1 := by omega
  have h11 : n - 1 + 1 ≤ L.length := by omega
  have h13 : i + (n - (i + 1) + (L.length - (n - 1))) = L.length := by omega
  have h14 : n - 1 ≤ L.length := by omega
  have h15 : (L.take i ++ (Y ++ L.drop (n - 1))).take (n - 1) = L.take i ++ Y := by
    rw [← List.append_assoc]; exact List.take_left' (by simp only [List.length_append, List.length_take, hYl]; omega)
  have h16 : n ≤ n := Nat.le_refl _
  rw [LR_R (fn := f52) rfl rfl rfl]
  simp only [f52, ← rtv_zer, RB, abin, cmpInt, params, newAt, lenOf, boundOf, rowsOf, Nat.reduceAdd, Nat.reduceEqDiff, ↓reduceIte, reduceCtorEq, DB4, R7B, List.append_assoc, List.length_append, Nat.add_assoc, hA, sA, f2, f3, asliceL, boundOf, lisFits, Option.isSome_some, Option.isSome_none, g1, g2, g4, hn, h16, aslice, aappIn, hY, hYl, h2, h3', h4, h5, hB, sB, List.length_set, h7, h8, List.length_append, List.length_drop, List.length_take, h10, aop, h11, h13, h14, h15]
  exact ⟨_, _, rfl⟩
end Go.Proofs.YtgajekpigkknnaaDoor.F

/- A RIB behind a batch: the plain law of one update. No condition. -/
set_option linter.unusedSimpArgs false
set_option maxRecDepth 20000
namespace Go.Proofs.YtgajekpigkknnaaDoor.D
open Go Go.Proofs.YtgajekpigkknnaaDoor.A
def uR (u : Up) : Rt := ⟨u.p, u.src, u.pref, u.hop⟩
def lowR (l : List Rt) (r : Rt) : List Rt := l.filter fun x => decide (Ahead x r)
def pastR (l : List Rt) (r : Rt) : List Rt := l.filter fun x => decide (Ahead r x)
def thereB (l : List Rt) (r : Rt) : Bool := l.any fun x => decide (KeyEq x r)
def stepA (l : List Rt) (u : Up) : Option (List Rt) := if u.gone = true then (if thereB l (uR u) = true then some (lowR l (uR u) ++ pastR l (uR u)) else none) else some (lowR l (uR u) ++ [uR u] ++ pastR l (uR u))
def runA : List Rt → List Up → Option (List Rt)
  | l, [] => some l
  | l, u :: us => match stepA l u with
    | some l' => runA l' us
    | none => none
theorem mem_takeR {l : List Rt} {i : Nat} {r : Rt} (h : r ∈ l.take i) : ∃ j, j < i ∧ j < l.length ∧ r = tow l j := by
  obtain ⟨j, hj, rfl⟩ := List.mem_iff_getElem.1 h
  rw [List.length_take] at hj
  exact ⟨j, by omega, by omega, by rw [List.getElem_take, tow_eq l (by omega)]⟩
theorem mem_dropR {l : List Rt} {i : Nat} {r : Rt} (h : r ∈ l.drop i) : ∃ j, i ≤ j ∧ j < l.length ∧ r = tow l j := by
  obtain ⟨j, hj, rfl⟩ := List.mem_iff_getElem.1 h
  rw [List.length_drop] at hj
  exact ⟨i + j, by omega, by omega, by rw [List.getElem_drop, tow_eq l (by omega)]⟩
theorem take_low {l : List Rt} {r : Rt} {i : Nat} (hlo : LoR l r i) (hhi : HiR l r i) : l.take i = lowR l r := by
  unfold lowR
  conv => rhs; rw [← List.take_append_drop i l]
  rw [List.filter_append, List.filter_eq_self.2 (fun x hx => by
    obtain ⟨j, h1, _, rfl⟩ := mem_takeR hx
    exact decide_eq_true (hlo j h1)), List.filter_eq_nil_iff.2 (fun x hx => by
    obtain ⟨j, h1, h2, rfl⟩ := mem_dropR hx
    have := hhi j h1 h2
    simpa using this), List.append_nil]
theorem ahead_asym {a b : Rt} (h : Ahead a b) : ¬ Ahead b a := fun h2 => ahead_irr a (ahead_trans h h2)
theorem keyEq_irr {a b : Rt} (h : KeyEq a b) : ¬ Ahead a b := fun h2 => ahead_irr b ((keyEq_ahead h).1 h2)
theorem keyEq_irr' {a b : Rt} (h : KeyEq a b) : ¬ Ahead b a := fun h2 => ahead_irr b ((keyEq_ahead' h).1 h2)
theorem drop_past {l : List Rt} {r : Rt} {i : Nat} (hs : SortR l) (hlo : LoR l r i) (hhi : HiR l r i) : l.drop (if i < l.length ∧ KeyEq (tow l i) r then i + 1 else i) = pastR l r := by
  generalize hn : (if i < l.length ∧ KeyEq (tow l i) r then i + 1 else i) = n
  unfold pastR
  conv => rhs; rw [← List.take_append_drop n l]
  rw [List.filter_append, List.filter_eq_nil_iff.2 (fun x hx => by
    obtain ⟨j, h1, h2, rfl⟩ := mem_takeR hx
    rcases Nat.lt_or_ge j i with h | h
    · have := ahead_asym (hlo j h)
      simpa using this
    · split at hn
      · rename_i hc
        obtain rfl : j = i := by omega
        have := keyEq_irr' hc.2
        simpa using this
      · omega), List.filter_eq_self.2 (fun x hx => by
    obtain ⟨j, h1, h2, rfl⟩ := mem_dropR hx
    refine decide_eq_true ?_
    split at hn
    · rename_i hc
      exact (keyEq_ahead hc.2).1 (hs i j (by omega) h2)
    · rename_i hc
      rcases ahead_tri (tow l j) r with h3 | h3 | h3
      · exact absurd h3 (hhi j (by omega) h2)
      · rcases Nat.lt_or_eq_of_le (show i ≤ j by omega) with h4 | rfl
        · exact absurd ((keyEq_ahead' h3).1 (hs i j h4 h2)) (hhi i (Nat.le_refl _) (by omega))
        · exact absurd ⟨h2, h3⟩ hc
      · exact h3), List.nil_append]
theorem there_iff {l : List Rt} {r : Rt} {i : Nat} (hs : SortR l) (hlo : LoR l r i) (hhi : HiR l r i) : thereB l r = decide (i < l.length ∧ KeyEq (tow l i) r) := by
  rw [Bool.eq_iff_iff, decide_eq_true_eq]
  unfold thereB
  rw [List.any_eq_true]
  constructor
  · rintro ⟨x, hx, hk⟩
    have hk := of_decide_eq_true hk
    obtain ⟨j, hj, rfl⟩ := List.mem_iff_getElem.1 hx
    rw [← tow_eq l hj] at hk
    have h1 : ¬ j < i := fun h => keyEq_irr hk (hlo j h)
    rcases Nat.lt_or_eq_of_le (Nat.not_lt.1 h1) with h2 | rfl
    · exact absurd ((keyEq_ahead' hk).1 (hs i j h2 hj)) (hhi i (Nat.le_refl _) (by omega))
    · exact ⟨hj, hk⟩
  · rintro ⟨h1, h2⟩
    exact ⟨tow l i, by rw [tow_eq l h1]; exact List.getElem_mem h1, decide_eq_true h2⟩
theorem sort_pair {l : List Rt} : SortR l ↔ l.Pairwise Ahead := by
  rw [List.pairwise_iff_getElem]
  constructor
  · intro h i j hi hj hij
    have := h i j hij hj
    rwa [tow_eq l hi, tow_eq l hj] at this
  · intro h i j hij hj
    rw [tow_eq l (by omega), tow_eq l hj]
    exact h i j (by omega) hj hij
theorem stepA_sort {l l' : List Rt} {u : Up} (hs : SortR l) (h : stepA l u = some l') : SortR l' := by
  rw [sort_pair] at hs ⊢
  have h1 : (lowR l (uR u)).Pairwise Ahead := hs.filter _
  have h2 : (pastR l (uR u)).Pairwise Ahead := hs.filter _
  have h3 : ∀ a ∈ lowR l (uR u), Ahead a (uR u) := fun a ha => of_decide_eq_true (List.mem_filter.1 ha).2
  have h4 : ∀ a ∈ pastR l (uR u), Ahead (uR u) a := fun a ha => of_decide_eq_true (List.mem_filter.1 ha).2
  unfold stepA at h
  split at h
  · split at h
    · cases h
      exact List.pairwise_append.2 ⟨h1, h2, fun a ha b hb => ahead_trans (h3 a ha) (h4 b hb)⟩
    · cases h
  · cases h
    refine List.pairwise_append.2 ⟨List.pairwise_append.2 ⟨h1, List.pairwise_singleton _ _, fun a ha b hb => by rw [List.mem_singleton.1 hb]; exact h3 a ha⟩, h2, fun a ha b hb => ?_⟩
    rcases List.mem_append.1 ha with ha | ha
    · exact ahead_trans (h3 a ha) (h4 b hb)
    · rw [List.mem_singleton.1 ha]; exact h4 b hb
theorem SlV.lisT {bs : List Blk} {k id g lk n : Nat} {e : TypeId} {rows : List (List AV)} (hb : bs[id]? = some (.lst lk g e k rows)) (hn : n ≤ rows.length) (h : ∀ r ∈ rows, r.length = k) : SlV bs k (.lis id g 0 n) (rows.take n) := by
  have hid := (List.getElem?_eq_some_iff.1 hb).1
  have hl : (rows.take n).length = n := by rw [List.length_take]; omega
  refine ⟨by rw [hl]; rfl, by rw [refs_lis]; exact decide_eq_true hid, rfl, rfl, fun ext i hi => ⟨.ptr id g (0 + i) 0, ?_, fun ext' => ?_⟩⟩
  · rw [hl] at hi
    simp [iaddrV, lisFits, get_lt hb, hi]
  · rw [hl] at hi
    rw [List.getElem?_take, if_pos hi, List.getElem?_eq_getElem (show i < rows.length by omega)]
    have := h rows[i] (List.getElem_mem _)
    simp only [rdPtr, get_lt hb, if_true, Nat.zero_add, List.getElem?_eq_getElem (show i < rows.length by omega)]
    unfold piece; rw [if_pos (by omega), ← this]; simp
end Go.Proofs.YtgajekpigkknnaaDoor.D

/- A RIB behind a batch: the run. No condition. -/
set_option linter.unusedSimpArgs false
set_option maxRecDepth 20000
namespace Go.Proofs.YtgajekpigkknnaaDoor.D
open Go Go.Proofs.YtgajekpigkknnaaDoor.A
theorem low_past_len (r : Rt) : ∀ l : List Rt, (lowR l r).length + (pastR l r).length ≤ l.length
  | [] => by simp [lowR, pastR]
  | x :: l => by
    have ih := low_past_len r l
    unfold lowR pastR at *
    by_cases h1 : Ahead x r
    · have h2 := ahead_asym h1
      rw [List.filter_cons_of_pos (by simpa using h1), List.filter_cons_of_neg (by simpa using h2)]
      simp only [List.length_cons]; omega
    · rw [List.filter_cons_of_neg (by simpa using h1)]
      by_cases h2 : Ahead r x
      · rw [List.filter_cons_of_pos (by simpa using h2)]
        simp only [List.length_cons]; omega
      · rw [List.filter_cons_of_neg (by simpa using h2)]
        simp only [List.length_cons]; omega
theorem stepA_len {l l' : List Rt} {u : Up} (h : stepA l u = some l') : l'.length ≤ l.length + 1 := by
  have := low_past_len (uR u) l
  unfold stepA at h
  split at h
  · split at h
    · cases h; rw [List.length_append]; omega
    · cases h
  · cases h; simp only [List.length_append, List.length_cons, List.length_nil]; omega
def resA (o : Option (List Rt)) : AV := match o with
  | none => .tup [.agg [.ro (trows [])], .int .i64 4]
  | some r => if chgC r r.length ≤ 40 then .tup [.agg [.ro (trows r)], .int .i64 0] else .tup [.agg [.ro (trows [])], .int .i64 6]
theorem expIn_tab (bs : List Blk) (a b c d : Nat) : expIn false bs (.agg [.lis a b c d]) = (expCell false bs (.lis a b c d)).map fun x => .agg [x] := by
  show ([AV.lis a b c d].mapM (expCell false bs)).map AV.agg = _
  rw [List.mapM_cons]
  cases expCell false bs (.lis a b c d) <;> rfl
theorem expIn_tabT (bs : List Blk) (a b c d : Nat) : expIn true bs (.agg [.lis a b c d]) = (expCell false bs (.lis a b c d)).map fun x => .agg [x] := expIn_tab bs a b c d
def applyS (l : List Rt) (b : List Up) : AV := if RibP l then if BatP b then resA (runA l b) else .tup [.agg [.ro (trows [])], .int .i64 210] else .tup [.agg [.ro (trows [])], .int .i64 211]
end Go.Proofs.YtgajekpigkknnaaDoor.D
namespace Go.Proofs.YtgajekpigkknnaaDoor.F
open Go Go.Proofs.YtgajekpigkknnaaDoor.A Go.Proofs.YtgajekpigkknnaaDoor.D
set_option maxHeartbeats 2000000 in
theorem e31 (l : List Rt) (b : List Up) (hl : l.length ≤ 1000000) : LV E 31 [.agg [.ro (trows l)], .agg [.ro (vrows b)]] = some (applyS l b) := by
  rw [LV_R (fn := f31) rfl rfl rfl]
  have h30 := e30 l (by omega)
  have h50 := e50 b
  unfold applyS
  by_cases hR : RibP l
  · rw [if_pos hR] at h30 ⊢
    by_cases hB : BatP b
    · rw [if_pos hB] at h50 ⊢
      have h36 := e36 l hl
      simp only [f31, ← upv_zer, ← rtv_zer, RB, faddrV, abin, cmpInt, params, growLists, fillCells, newAt, rdPtr, wrPtr, AV.cells, asVal, lenOf, argIds, AV.isData, Nat.reduceAdd, Nat.reduceEqDiff, ↓reduceIte, reduceCtorEq, DB4, R7B, h30, h50, h36, bne_self_eq_false]
      refine (W_rec2 (β := AV) (ι := {s : (Nat × Nat) × List Rt × List Rt // s.1.1 ≤ b.length ∧ SortR s.2.1 ∧ s.2.1.length ≤ 160 + s.1.1})
        (M := fun s => [(4, .ptr 4 0 0 0), (6, .ptr 7 0 0 0), (27, .ro (vrows b)), (28, .int .i64 (b.length : Int)), (29, .int .i64 (s.1.1.1 : Int))])
        (H := fun s => ⟨[.box 0 46 [.ro (trows l)], .dead, .box 0 35 [.ro (vrows b)], .dead, .box 0 46 [.lis 5 0 0 0], .lst 0 0 53 21 [], .lst 0 s.1.1.2 53 21 (trows (s.1.2.1 ++ s.1.2.2)), .box 0 46 [.lis 6 s.1.1.2 0 s.1.2.1.length], .lst 0 0 53 21 []], []⟩)
        (r := fun s => some (resA (runA s.1.2.1 (b.drop s.1.1.1)))) (μ := fun s => b.length - s.1.1.1) (fun s => ?_) (fun s ih => ?_) ⟨((0, 0), l, []), Nat.zero_le _, hR.sort, hR.1⟩ rfl (by rw [List.append_nil]))
      · simp [LPB]
      · obtain ⟨⟨⟨k, g⟩, cur, zs⟩, hk0, hs, hcl⟩ := s
        simp only at ih hk0 hs hcl ⊢
        have hb8 := hB.2.1
        have hcn : cur.length ≤ (cur ++ zs).length := by simp
        by_cases hk : k < b.length
        · have f1 : (k : Int) < (b.length : Int) := by omega
          have f2 : (0 : Int) ≤ (k : Int) := by omega
          have f6 : IntKind.i64.wrap ((k : Int) + 1) = ((k + 1 : Nat) : Int) := by rw [IntWalk.i64_in _ (by omega)] <;> omega
          have g1 := uow_get b hk
          have ed : b.drop k = uow b k :: b.drop (k + 1) := by
            rw [List.drop_eq_getElem_cons hk]
            congr 1
            have := uow_some b hk
            rw [List.getElem?_eq_getElem hk] at this
            exact Option.some.inj this
          rw [ed]
          generalize uow b k = u at *
          have ob : ovr (rtv zerT) 0 (pav u.p) = some (rtv ⟨u.p, 0, 0, 0⟩) := rtv_opf _ _
          have hlow : belowAll 11 [.box 0 46 [.ro (trows l)], .dead, .box 0 35 [.ro (vrows b)], .dead, .box 0 46 [.lis 5 0 0 0], .lst 0 0 53 21 [], .lst 0 g 53 21 (trows (cur ++ zs)), .box 0 46 [.lis 6 g 0 cur.length], .lst 0 0 53 21 [], .box 0 42 (upv u), .box 0 53 (rtv (uR u))] = true := by simp [LPB, upv_below, rtv_below]
          have hv : SlV [.box 0 46 [.ro (trows l)], .dead, .box 0 35 [.ro (vrows b)], .dead, .box 0 46 [.lis 5 0 0 0], .lst 0 0 53 21 [], .lst 0 g 53 21 (trows (cur ++ zs)), .box 0 46 [.lis 6 g 0 cur.length], .lst 0 0 53 21 [], .box 0 42 (upv u), .box 0 53 (rtv (uR u))] 21 (.lis 6 g 0 cur.length) (trows cur) := by
            have := SlV.lisT (bs := [.box 0 46 [.ro (trows l)], .dead, .box 0 35 [.ro (vrows b)], .dead, .box 0 46 [.lis 5 0 0 0], .lst 0 0 53 21 [], .lst 0 g 53 21 (trows (cur ++ zs)), .box 0 46 [.lis 6 g 0 cur.length], .lst 0 0 53 21 [], .box 0 42 (upv u), .box 0 53 (rtv (uR u))]) (id := 6) (n := cur.length) (k := 21) rfl (by rw [trows_len]; exact hcn) (trows_k _)
            rwa [trows_take, List.take_left] at this
          obtain ⟨e, i, i1, i2, i3, h51⟩ := r51 (ys := []) (pend := []) r48 ordR_lt ordR_zero (uR u) trivial (fun _ _ => trivial) (by omega) hv hs hlow
          have hth := there_iff hs i2 i3
          have htk := take_low i2 i3
          have hdp := drop_past hs i2 i3
          have hsh : ∀ x, shrink false 11 (.tup [.int .i64 (i : Int), .bool x]) ⟨[.box 0 46 [.ro (trows l)], .dead, .box 0 35 [.ro (vrows b)], .dead, .box 0 46 [.lis 5 0 0 0], .lst 0 0 53 21 [], .lst 0 g 53 21 (trows (cur ++ zs)), .box 0 46 [.lis 6 g 0 cur.length], .lst 0 0 53 21 [], .box 0 42 (upv u), .box 0 53 (rtv (uR u))] ++ e, []⟩ = some ⟨[.box 0 46 [.ro (trows l)], .dead, .box 0 35 [.ro (vrows b)], .dead, .box 0 46 [.lis 5 0 0 0], .lst 0 0 53 21 [], .lst 0 g 53 21 (trows (cur ++ zs)), .box 0 46 [.lis 6 g 0 cur.length], .lst 0 0 53 21 [], .box 0 42 (upv u), .box 0 53 (rtv (uR u))], []⟩ := fun x => shrink_app rfl rfl hlow
          rw [← hth] at h51
          simp only [List.cons_append, List.nil_append] at h51 hsh
          cases hg : u.gone with
          | true =>
            cases ht : thereB cur (uR u) with
            | false =>
              rw [ht] at h51
              have er : runA cur (u :: b.drop (k + 1)) = none := by unfold runA stepA; rw [if_pos hg, if_neg (by rw [ht]; simp)]
              rw [er]
              simp only [RB, pickV, notV, faddrV, iaddrV, extrV, abin, cmpInt, growLists, fillCells, newAt, rdPtr, wrPtr, AV.cells, asVal, rowsOf, argIds, AV.isData, Nat.reduceAdd, Nat.reduceEqDiff, ↓reduceIte, DB, DB4, f1, f2, g1, ob, show (⟨u.p, u.src, u.pref, u.hop⟩ : Rt) = uR u from rfl, h51, hsh, hg, expIn_tabT, expCell, List.nodup_cons, List.nodup_nil, List.not_mem_nil, and_false, mutIds]
              rfl
            | true =>
              rw [ht] at h51
              have hkc : i < cur.length ∧ KeyEq (tow cur i) (uR u) := of_decide_eq_true (hth.symm.trans ht)
              rw [if_pos hkc] at hdp
              have er : runA cur (u :: b.drop (k + 1)) = runA (lowR cur (uR u) ++ pastR cur (uR u)) (b.drop (k + 1)) := by conv => lhs; unfold runA stepA; rw [if_pos hg, if_pos ht]
              rw [er]
              have es : stepA cur u = some (lowR cur (uR u) ++ pastR cur (uR u)) := by unfold stepA; rw [if_pos hg, if_pos ht]
              have hlen : cur.length - 1 = (lowR cur (uR u) ++ pastR cur (uR u)).length := by rw [← htk, ← hdp, List.length_append, List.length_take, List.length_drop]; omega
              obtain ⟨zs', e2, h52⟩ := r52 (ys := []) (pend := []) (bs := [.box 0 46 [.ro (trows l)], .dead, .box 0 35 [.ro (vrows b)], .dead, .box 0 46 [.lis 5 0 0 0], .lst 0 0 53 21 [], .lst 0 g 53 21 (trows (cur ++ zs)), .box 0 46 [.lis 6 g 0 cur.length], .lst 0 0 53 21 [], .box 0 42 (upv u), .box 0 53 (rtv (uR u))]) (id := 6) (g := g) (L := cur ++ zs) (n := cur.length) (i := i) rfl hcn hkc.1 (by omega) hlow
              rw [List.take_append_of_le_length (by omega), List.drop_append_of_le_length (by omega), List.take_left' (by rw [List.length_drop]), htk, hdp, hlen] at h52
              simp only [List.set_cons_succ, List.set_cons_zero, List.cons_append, List.nil_append] at h52
              have f8 : IntKind.i64.wrap ((i : Int) + 1) = ((i + 1 : Nat) : Int) := by rw [IntWalk.i64_in _ (by omega)] <;> omega
              have ih := ih ⟨((k + 1, g), lowR cur (uR u) ++ pastR cur (uR u), zs'), hk, stepA_sort hs es, by have := stepA_len es; simp only; omega⟩ (by simp only; omega)
              simp only at ih
              clear er es htk hdp
              generalize lowR cur (uR u) ++ pastR cur (uR u) = N at *
              simp only [RB, pickV, notV, faddrV, iaddrV, extrV, abin, cmpInt, growLists, fillCells, newAt, rdPtr, wrPtr, AV.cells, asVal, Nat.reduceAdd, Nat.reduceEqDiff, ↓reduceIte, DB, DB4, R7B, Nat.add_assoc, f1, f2, f6, g1, ob, show (⟨u.p, u.src, u.pref, u.hop⟩ : Rt) = uR u from rfl, h51, hsh, hg, f8, h52]
              exact ih
          | false =>
            cases ht : thereB cur (uR u) with
            | true =>
              rw [ht] at h51
              have hkc : i < cur.length ∧ KeyEq (tow cur i) (uR u) := of_decide_eq_true (hth.symm.trans ht)
              rw [if_pos hkc] at hdp
              have er : runA cur (u :: b.drop (k + 1)) = runA (lowR cur (uR u) ++ [uR u] ++ pastR cur (uR u)) (b.drop (k + 1)) := by conv => lhs; unfold runA stepA; rw [if_neg (by rw [hg]; simp)]
              rw [er]
              have es : stepA cur u = some (lowR cur (uR u) ++ [uR u] ++ pastR cur (uR u)) := by unfold stepA; rw [if_neg (by rw [hg]; simp)]
              have hlen : cur.length = (lowR cur (uR u) ++ [uR u] ++ pastR cur (uR u)).length := by rw [← htk, ← hdp]; simp only [List.length_append, List.length_take, List.length_drop, List.length_cons, List.length_nil]; omega
              have gi : (trows (cur ++ zs))[i]? = some (rtv (tow cur i)) := by rw [trows, List.getElem?_map, List.getElem?_append_left hkc.1, tow_some cur hkc.1]; rfl
              have gs : (trows (cur ++ zs)).set i (rtv (uR u)) = trows (lowR cur (uR u) ++ [uR u] ++ pastR cur (uR u) ++ zs) := by
                rw [trows_set, List.set_append_left _ _ hkc.1, List.set_eq_take_append_cons_drop, if_pos hkc.1, htk, hdp]; simp
              have f9 : (i : Int) < (cur.length : Int) := by omega
              have hi0 := hkc.1
              have f10 : (0 : Int) ≤ (i : Int) := by omega
              have ih := ih ⟨((k + 1, g), lowR cur (uR u) ++ [uR u] ++ pastR cur (uR u), zs), hk, stepA_sort hs es, by have := stepA_len es; simp only; omega⟩ (by simp only; omega)
              simp only at ih
              clear er es htk hdp
              generalize lowR cur (uR u) ++ [uR u] ++ pastR cur (uR u) = N at *
              rw [← hlen] at ih
              simp only [RB, pickV, faddrV, iaddrV, extrV, abin, cmpInt, growLists, fillCells, newAt, rdPtr, wrPtr, AV.cells, asVal, Nat.reduceAdd, Nat.reduceEqDiff, ↓reduceIte, DB, DB4, f1, f2, f6, g1, ob, show (⟨u.p, u.src, u.pref, u.hop⟩ : Rt) = uR u from rfl, h51, hsh, hg, f10, lisFits, hi0, gi, gs]
              exact ih
            | false =>
              rw [ht] at h51
              have hkc : ¬ (i < cur.length ∧ KeyEq (tow cur i) (uR u)) := of_decide_eq_false (hth.symm.trans ht)
              rw [if_neg hkc] at hdp
              have er : runA cur (u :: b.drop (k + 1)) = runA (lowR cur (uR u) ++ [uR u] ++ pastR cur (uR u)) (b.drop (k + 1)) := by conv => lhs; unfold runA stepA; rw [if_neg (by rw [hg]; simp)]
              rw [er]
              have es : stepA cur u = some (lowR cur (uR u) ++ [uR u] ++ pastR cur (uR u)) := by unfold stepA; rw [if_neg (by rw [hg]; simp)]
              have hlen : cur.length + 1 = (lowR cur (uR u) ++ [uR u] ++ pastR cur (uR u)).length := by rw [← htk, ← hdp]; simp only [List.length_append, List.length_take, List.length_drop, List.length_cons, List.length_nil]; omega
              have h53 := r53 (ys := []) (pend := []) (bs := [.box 0 46 [.ro (trows l)], .dead, .box 0 35 [.ro (vrows b)], .dead, .box 0 46 [.lis 5 0 0 0], .lst 0 0 53 21 [], .lst 0 g 53 21 (trows (cur ++ zs)), .box 0 46 [.lis 6 g 0 cur.length], .lst 0 0 53 21 [], .box 0 42 (upv u), .box 0 53 (rtv (uR u)), .lst 0 0 53 21 [rtv (uR u)]]) (id := 6) (g := g) (id2 := 11) (g2 := 0) (lk2 := 0) (l := cur) (zs := zs) (n := cur.length) (i := i) (uR u) rfl rfl rfl i1 (by decide) (by omega)
              rw [htk, hdp, hlen] at h53
              simp only [List.set_cons_succ, List.set_cons_zero] at h53
              have ih := ih ⟨((k + 1, g + 2), lowR cur (uR u) ++ [uR u] ++ pastR cur (uR u), []), hk, stepA_sort hs es, by have := stepA_len es; simp only; omega⟩ (by simp only; omega)
              simp only [List.append_nil] at ih
              clear er es htk hdp
              generalize lowR cur (uR u) ++ [uR u] ++ pastR cur (uR u) = N at *
              simp only [RB, pickV, faddrV, iaddrV, extrV, abin, cmpInt, growLists, fillCells, newAt, rdPtr, wrPtr, AV.cells, asVal, Nat.reduceAdd, Nat.reduceEqDiff, Nat.reduceLT, ↓reduceIte, DB, DB4, R7B, f1, f2, f6, g1, ob, show (⟨u.p, u.src, u.pref, u.hop⟩ : Rt) = uR u from rfl, h51, hsh, hg, O_buildSlq, quietOk, aop_buildSl, fillRows, asData, h53]
              exact ih
        · have e : k = b.length := by omega
          subst e
          have h49 := e49 cur (by omega)
          have hcz : cur.length ≤ cur.length + zs.length := by omega
          rw [List.drop_length]
          have tk : (trows (cur ++ zs)).take cur.length = trows cur := by rw [trows_take, List.take_left]
          have er : resA (runA cur []) = if chgC cur cur.length ≤ 40 then .tup [.agg [.ro (trows cur)], .int .i64 0] else .tup [.agg [.ro (trows [])], .int .i64 6] := rfl
          rw [er]
          by_cases h40 : chgC cur cur.length ≤ 40
          · have n40 : ¬ (40 : Int) < (chgC cur cur.length : Nat) := by omega
            rw [if_pos h40]
            simp only [RB, faddrV, abin, cmpInt, rdPtr, wrPtr, AV.cells, asVal, rowsOf, argIds, scalar1, AV.isData, Nat.reduceAdd, Nat.reduceEqDiff, ↓reduceIte, reduceCtorEq, DB4, List.length_append, show ¬ ((b.length : Nat) : Int) < (b.length : Int) by omega, snap, h49, n40, CW_some, scalar, expIn_tabT, expCell, List.nodup_cons, List.nodup_nil, List.not_mem_nil, and_false, mutIds, hcz, tk]
            done
          · have n40 : (40 : Int) < (chgC cur cur.length : Nat) := by omega
            rw [if_neg h40]
            simp only [RB, faddrV, abin, cmpInt, growLists, fillCells, newAt, rdPtr, wrPtr, AV.cells, asVal, rowsOf, argIds, scalar1, AV.isData, Nat.reduceAdd, Nat.reduceEqDiff, ↓reduceIte, reduceCtorEq, DB4, List.length_append, show ¬ ((b.length : Nat) : Int) < (b.length : Int) by omega, snap, h49, n40, CW_some, scalar, expIn_tabT, expCell, List.nodup_cons, List.nodup_nil, List.not_mem_nil, and_false, mutIds, hcz, tk]
            rfl
    · rw [if_neg hB] at h50 ⊢
      simp only [f31, ← upv_zer, ← rtv_zer, RB, abin, cmpInt, params, growLists, fillCells, newAt, rdPtr, wrPtr, AV.cells, asVal, argIds, AV.isData, Nat.reduceAdd, Nat.reduceEqDiff, ↓reduceIte, reduceCtorEq, h30, h50, bne_self_eq_false, show ((210 : Int) != 0) = true from rfl, List.nodup_cons, List.nodup_nil, List.not_mem_nil, and_false, mutIds]
      rfl
  · rw [if_neg hR] at h30 ⊢
    simp only [f31, ← upv_zer, ← rtv_zer, RB, abin, cmpInt, params, growLists, fillCells, newAt, rdPtr, wrPtr, AV.cells, asVal, argIds, AV.isData, Nat.reduceAdd, Nat.reduceEqDiff, ↓reduceIte, reduceCtorEq, h30, show ((211 : Int) != 0) = true from rfl, List.nodup_cons, List.nodup_nil, List.not_mem_nil, and_false, mutIds]
    rfl
end Go.Proofs.YtgajekpigkknnaaDoor.F

/- Updates that may be a batch; RIBs and updates that are the same. No condition. -/
set_option linter.unusedSimpArgs false
set_option maxRecDepth 20000
namespace Go.Proofs.YtgajekpigkknnaaDoor.D
open Go Go.Proofs.YtgajekpigkknnaaDoor.A
def sameB {α : Type} [DecidableEq α] : List α → List α → Bool
  | a :: l, b :: r => decide (a = b) && sameB l r
  | _, _ => true
theorem sameB_iff {α : Type} [DecidableEq α] : ∀ {l r : List α}, l.length = r.length → sameB l r = decide (l = r)
  | [], [], _ => rfl
  | a :: l, b :: r, h => by
    have ih := sameB_iff (l := l) (r := r) (by simpa using h)
    simp only [sameB, ih, List.cons.injEq, Bool.decide_and]
  | [], _ :: _, h => by simp at h
  | _ :: _, [], h => by simp at h
end Go.Proofs.YtgajekpigkknnaaDoor.D
namespace Go.Proofs.YtgajekpigkknnaaDoor.F
open Go Go.Proofs.YtgajekpigkknnaaDoor.A Go.Proofs.YtgajekpigkknnaaDoor.D
theorem e34 (l : List Up) : LV E 34 [.ro (vrows l)] = some (.bool (decide (BatP l))) := by
  rw [LV_R (fn := f34) rfl rfl rfl]
  have h50 := e50 l
  by_cases h : BatP l
  · rw [if_pos h] at h50
    rw [decide_eq_true h]
    simp only [f34, RB, abin, cmpInt, params, growLists, fillCells, AV.cells, argIds, AV.isData, ↓reduceIte, reduceCtorEq, h50]
  · rw [if_neg h] at h50
    rw [decide_eq_false h]
    simp only [f34, RB, abin, cmpInt, params, growLists, fillCells, AV.cells, argIds, AV.isData, ↓reduceIte, reduceCtorEq, h50, show ((210 : Int) == 0) = false from rfl]
theorem e43 (a b : List Rt) (ha : a.length ≤ 4611686018427387904) : LV E 43 [.ro (trows a), .ro (trows b)] = some (.bool (decide (a = b))) := by
  rw [LV_R (fn := f43) rfl rfl rfl]
  simp only [f43, RB, abin, cmpInt, params, lenOf, Nat.reduceEqDiff, ↓reduceIte, reduceCtorEq, trows_len]
  by_cases hl : a.length = b.length
  · rw [← sameB_iff hl]
    simp only [RB, lenOf, Nat.reduceEqDiff, ↓reduceIte, reduceCtorEq, trows_len, hl, bne_self_eq_false]
    rw [← hl]
    refine (W_rec2 (β := AV) (ι := Nat) (M := fun k => [(0, .ro (trows a)), (1, .ro (trows b)), (12, .int .i64 (a.length : Int)), (13, .int .i64 (k : Int))]) (H := fun _ => ⟨[], []⟩) (r := fun k => some (AV.bool (sameB (a.drop k) (b.drop k)))) (μ := fun k => a.length - k) (fun i => ?_) (fun k ih => ?_) 0 rfl rfl)
    · simp [LPB]
    · by_cases hk : k < a.length
      · have f1 : (k : Int) < (a.length : Int) := by omega
        have f2 : (0 : Int) ≤ (k : Int) := by omega
        have f6 : IntKind.i64.wrap ((k : Int) + 1) = ((k + 1 : Nat) : Int) := by rw [IntWalk.i64_in _ (by omega)] <;> omega
        have g1 := trows_get a hk
        have g2 := trows_get b (show k < b.length by omega)
        rw [List.drop_eq_getElem_cons hk, List.drop_eq_getElem_cons (show k < b.length by omega), sameB]
        by_cases h : a[k] = b[k]
        · simp only [RB, eqaggV, iaddrV, abin, cmpInt, rdPtr, asVal, Nat.reduceEqDiff, ↓reduceIte, reduceCtorEq, DB4, f1, f2, f6, g1, g2, h]
          exact ih (k + 1) (by omega)
        · simp only [RB, eqaggV, iaddrV, abin, cmpInt, rdPtr, asVal, Nat.reduceEqDiff, ↓reduceIte, reduceCtorEq, DB4, f1, f2, g1, g2, h]
      · simp only [RB, abin, cmpInt, Nat.reduceEqDiff, ↓reduceIte, reduceCtorEq, show ¬ (k : Int) < (a.length : Int) by omega]
        rw [List.drop_eq_nil_of_le (by omega)]; rfl
  · simp only [RB, ↓reduceIte, show ((a.length : Int) != (b.length : Int)) = true by rw [bne_iff_ne]; omega]
    rw [decide_eq_false fun h => hl (by rw [h])]
theorem e23 (a b : List Rt) (ha : a.length ≤ 4611686018427387904) : LV E 23 [.agg [.ro (trows a)], .agg [.ro (trows b)]] = some (.bool (decide (a = b))) := by
  rw [LV_R (fn := f23) rfl rfl rfl]
  have h := e43 a b ha
  simp only [f23, RB, faddrV, params, growLists, newAt, rdPtr, AV.cells, asVal, argIds, Nat.reduceAdd, Nat.reduceEqDiff, ↓reduceIte, reduceCtorEq, h]
end Go.Proofs.YtgajekpigkknnaaDoor.F

/- RIBs that are the same, by the document; why two RIBs and a source tell nothing. No condition. -/
set_option linter.unusedSimpArgs false
set_option maxRecDepth 20000
namespace Go.Proofs.YtgajekpigkknnaaDoor.D
open Go Go.Proofs.YtgajekpigkknnaaDoor.A
def rightS (a b : List Rt) (s least : Int) : Int := if RibP a then if RibP b then if s < least ∨ 4 < s then 2 else 0 else 211 else 211
end Go.Proofs.YtgajekpigkknnaaDoor.D
namespace Go.Proofs.YtgajekpigkknnaaDoor.F
open Go Go.Proofs.YtgajekpigkknnaaDoor.A Go.Proofs.YtgajekpigkknnaaDoor.D
theorem e19 (a b : List Rt) (ha : a.length ≤ 4611686018427387904) : LV E 19 [.agg [.ro (trows a)], .agg [.ro (trows b)]] = some (.bool (decide (a = b))) := by
  rw [LV_R (fn := f19) rfl rfl rfl]
  by_cases hl : a.length = b.length
  · rw [← sameB_iff hl]
    have hl' : (a.length : Int) = (b.length : Int) := by omega
    simp only [f19, RB, faddrV, abin, cmpInt, params, growLists, newAt, rdPtr, AV.cells, asVal, lenOf, Nat.reduceAdd, Nat.reduceEqDiff, ↓reduceIte, reduceCtorEq, DB4, hl', bne_self_eq_false]
    refine (W_rec2 (β := AV) (ι := Nat) (M := fun k => [(2, .ptr 0 0 0 0), (3, .ptr 1 0 0 0), (5, .int .i64 (k : Int))]) (H := fun _ => ⟨[.box 0 46 [.ro (trows a)], .box 0 46 [.ro (trows b)]], []⟩) (r := fun k => some (AV.bool (sameB (a.drop k) (b.drop k)))) (μ := fun k => a.length - k) (fun i => ?_) (fun k ih => ?_) 0 rfl rfl)
    · simp [LPB]
    · by_cases hk : k < a.length
      · have f1 : (k : Int) < (a.length : Int) := by omega
        have f2 : (0 : Int) ≤ (k : Int) := by omega
        have f6 : IntKind.i64.wrap ((k : Int) + 1) = ((k + 1 : Nat) : Int) := by rw [IntWalk.i64_in _ (by omega)] <;> omega
        have g1 := trows_get a hk
        have g2 := trows_get b (show k < b.length by omega)
        rw [List.drop_eq_getElem_cons hk, List.drop_eq_getElem_cons (show k < b.length by omega), sameB]
        by_cases h : a[k] = b[k]
        · simp only [RB, faddrV, eqaggV, iaddrV, abin, cmpInt, rdPtr, asVal, lenOf, Nat.reduceAdd, Nat.reduceEqDiff, ↓reduceIte, DB4, f1, f2, f6, g1, g2, h]
          exact ih (k + 1) (by omega)
        · simp only [RB, faddrV, eqaggV, iaddrV, abin, cmpInt, rdPtr, asVal, lenOf, Nat.reduceAdd, Nat.reduceEqDiff, ↓reduceIte, DB4, f1, f2, g1, g2, h]
      · simp only [RB, faddrV, abin, cmpInt, rdPtr, asVal, lenOf, Nat.reduceAdd, Nat.reduceEqDiff, ↓reduceIte, DB4, show ¬ (k : Int) < (a.length : Int) by omega]
        rw [List.drop_eq_nil_of_le (by omega)]; rfl
  · simp only [f19, RB, faddrV, abin, cmpInt, params, growLists, newAt, rdPtr, AV.cells, asVal, lenOf, Nat.reduceAdd, Nat.reduceEqDiff, ↓reduceIte, reduceCtorEq, DB4, show ((a.length : Int) != (b.length : Int)) = true by rw [bne_iff_ne]; omega]
    rw [decide_eq_false fun h => hl (by rw [h])]
theorem e41 (a b : List Rt) (s least : Int) (ha : a.length ≤ 4611686018427387904) (hb : b.length ≤ 4611686018427387904) : LV E 41 [.agg [.ro (trows a)], .agg [.ro (trows b)], .int .i64 s, .int .i64 least] = some (.int .i64 (rightS a b s least)) := by
  rw [LV_R (fn := f41) rfl rfl rfl]
  have h1 := e30 a ha
  have h2 := e30 b hb
  have o1 : ovr [.clip [], .clip []] 0 [.ro (trows a)] = some [.ro (trows a), .clip []] := rfl
  have o2 : ovr [.ro (trows a), .clip []] 1 [.ro (trows b)] = some [.ro (trows a), .ro (trows b)] := rfl
  simp only [f41, RB, params, growLists, fillCells, newAt, rdPtr, AV.cells, asVal, Nat.reduceAdd, Nat.reduceEqDiff, ↓reduceIte, reduceCtorEq, o1, o2]
  refine (W_rec2 (β := AV) (ι := {k : Nat // k = 0 ∨ (k = 1 ∧ RibP a) ∨ (k = 2 ∧ RibP a ∧ RibP b)}) (M := fun k => [(2, .int .i64 s), (3, .int .i64 least), (14, .agg [.ro (trows a), .ro (trows b)]), (15, .int .i64 (k.1 : Int))]) (H := fun _ => ⟨[.box 0 46 [.ro (trows a)], .box 0 46 [.ro (trows b)]], []⟩) (r := fun _ => some (AV.int .i64 (rightS a b s least))) (μ := fun k => 2 - k.1) (fun k => ?_) (fun k ih => ?_) ⟨0, .inl rfl⟩ rfl rfl)
  · simp [LPB]
  · obtain ⟨k, hk⟩ := k
    simp only at ih ⊢
    unfold rightS at ih ⊢
    rcases hk with rfl | ⟨rfl, hA⟩ | ⟨rfl, hA, hB⟩
    · by_cases hA : RibP a
      · have ih := ih ⟨1, .inr (.inl ⟨rfl, hA⟩)⟩ (by simp)
        simp only at ih
        rw [if_pos hA] at h1
        simp only [RB, idxV, abin, cmpInt, growLists, newAt, rdPtr, wrPtr, AV.cells, asVal, argIds, AV.isData, Nat.reduceAdd, Nat.reduceEqDiff, Nat.reduceLeDiff, Int.reduceNeg, ↓reduceIte, Int.reduceLT, Int.reduceLE, Int.reduceToNat, h1, show ((0 : Nat) : Int) < 2 by decide, show ((0 : Nat) : Int).toNat = 0 from rfl, piece, bne_self_eq_false]
        exact ih
      · rw [if_neg hA] at h1 ⊢
        simp only [RB, idxV, abin, cmpInt, growLists, newAt, rdPtr, wrPtr, AV.cells, asVal, argIds, AV.isData, Nat.reduceAdd, Nat.reduceEqDiff, Nat.reduceLeDiff, ↓reduceIte, Int.reduceLT, Int.reduceLE, Int.reduceToNat, h1, show ((0 : Nat) : Int) < 2 by decide, show ((0 : Nat) : Int).toNat = 0 from rfl, piece, show ((211 : Int) != 0) = true from rfl]
    · by_cases hB : RibP b
      · have ih := ih ⟨2, .inr (.inr ⟨rfl, hA, hB⟩)⟩ (by simp)
        simp only at ih
        rw [if_pos hB] at h2
        simp only [RB, idxV, abin, cmpInt, growLists, newAt, rdPtr, wrPtr, AV.cells, asVal, argIds, AV.isData, Nat.reduceAdd, Nat.reduceEqDiff, Int.reduceNeg, ↓reduceIte, Int.reduceLT, Int.reduceLE, Int.reduceToNat, Int.reduceAdd, h2, show ((1 : Nat) : Int) < 2 by decide, show ((1 : Nat) : Int).toNat = 1 from rfl, piece, bne_self_eq_false]
        exact ih
      · rw [if_neg hB] at h2 ⊢
        rw [if_pos hA]
        simp only [RB, idxV, abin, cmpInt, growLists, newAt, rdPtr, wrPtr, AV.cells, asVal, argIds, AV.isData, Nat.reduceAdd, Nat.reduceEqDiff, ↓reduceIte, Int.reduceLT, Int.reduceLE, Int.reduceToNat, h2, show ((1 : Nat) : Int) < 2 by decide, show ((1 : Nat) : Int).toNat = 1 from rfl, piece, show ((211 : Int) != 0) = true from rfl]
    · rw [if_pos hA, if_pos hB]
      by_cases h3 : s < least
      · simp only [RB, pickV, abin, cmpInt, Nat.reduceAdd, Nat.reduceEqDiff, ↓reduceIte, Int.reduceLT, show ¬ ((2 : Nat) : Int) < 2 by decide, h3]
      · by_cases h4 : 4 < s
        · simp only [RB, pickV, abin, cmpInt, Nat.reduceAdd, Nat.reduceEqDiff, ↓reduceIte, Int.reduceLT, show ¬ ((2 : Nat) : Int) < 2 by decide, h3, h4]
        · simp only [RB, pickV, abin, cmpInt, Nat.reduceAdd, Nat.reduceEqDiff, ↓reduceIte, Int.reduceLT, show ¬ ((2 : Nat) : Int) < 2 by decide, h3, h4, or_self]
end Go.Proofs.YtgajekpigkknnaaDoor.F

/- A RIB in memory of its own. No condition. -/
set_option linter.unusedSimpArgs false
set_option maxRecDepth 20000
namespace Go.Proofs.YtgajekpigkknnaaDoor.F
open Go Go.Proofs.YtgajekpigkknnaaDoor.A Go.Proofs.YtgajekpigkknnaaDoor.D
theorem head21 : headFits 21 [] = true := rfl
theorem e15 (l : List Rt) (hl : l.length ≤ 9223372036854775807) : LV E 15 [.agg [.ro (trows l)]] = some (.agg [.fresh 53 21 (trows (l.take 161))]) := by
  rw [LV_R (fn := f15) rfl rfl rfl]
  obtain ⟨n, hn, hnl, hni, hn2⟩ : ∃ n : Nat, (if (161 : Int) < (l.length : Int) then (161 : Int) else (l.length : Int)) = (n : Int) ∧ n ≤ l.length ∧ l.take n = l.take 161 ∧ n ≤ 161 := by
    by_cases h : 161 < l.length
    · exact ⟨161, by rw [if_pos (by omega)]; rfl, by omega, rfl, by omega⟩
    · exact ⟨l.length, by rw [if_neg (by omega)], Nat.le_refl _, by rw [List.take_length, List.take_of_length_le (by omega)], by omega⟩
  have hlen : (l.take 161).length = n := by rw [← hni, List.length_take]; omega
  have f3 := trows_fits l (Nat.zero_le n) hnl
  have f5 := trows_fit (l.take 161)
  have e : (trows l).take n = trows (l.take 161) := by rw [trows_take, hni]
  have f0 : (0 : Int) ≤ (n : Int) := by omega
  have f7 : n * 56 ≤ 140737488355328 := by omega
  have f8 : n ≤ 4611686018427387904 := by omega
  have tk : (l.take 161).take n = l.take 161 := by rw [← hlen, List.take_length]
  have mn : aminmax false .i64 (l.length : Int) [.int .i64 161] = some (.int .i64 (n : Int)) := by rw [← hn]; rfl
  simp only [trows_take] at e
  generalize l.take 161 = a at *
  simp only [f15, ← rtv_zer, RB, faddrV, minV, params, growLists, fillCells, newAt, rdPtr, wrPtr, AV.cells, asVal, lenOf, boundOf, rowsOf, AV.isData, Nat.reduceAdd, Nat.reduceEqDiff, ↓reduceIte, DB4, O_buildSlq, quietOk, aop_buildSl, fillRows, aappend, head21, hlen, mn, aslice, hnl, f3, hni, f0, f5, f7, f8, tk, expRes_aggm, expCell, List.nodup_cons, List.nodup_nil, List.not_mem_nil, and_false, mutIds, Nat.le_refl]
  done
end Go.Proofs.YtgajekpigkknnaaDoor.F

/- Rows of routes, one behind the other; updates cut into batches. No condition. -/
set_option linter.unusedSimpArgs false
set_option maxRecDepth 20000
namespace Go.Proofs.YtgajekpigkknnaaDoor.D
open Go Go.Proofs.YtgajekpigkknnaaDoor.A
def yrows (ls : List (List Rt)) : List (List AV) := ls.map fun l => [.ro (trows l)]
theorem yrows_len (ls : List (List Rt)) : (yrows ls).length = ls.length := by simp [yrows]
theorem yrows_get (ls : List (List Rt)) {i : Nat} (h : i < ls.length) : (yrows ls)[i]? = some [.ro (trows ls[i])] := by simp [yrows, h]
theorem flatY_le {ls : List (List Rt)} (k : Nat) : (ls.take k).flatten.length ≤ ls.flatten.length := by
  conv => rhs; rw [← List.take_append_drop k ls]
  rw [List.flatten_append, List.length_append]; omega
theorem flatY_next {ls : List (List Rt)} {k : Nat} (h : k < ls.length) : (ls.take (k + 1)).flatten = (ls.take k).flatten ++ ls[k] := by
  rw [List.take_add_one, List.getElem?_eq_getElem h, Option.toList_some, List.flatten_append, List.flatten_cons, List.flatten_nil, List.append_nil]
def wrows (ls : List (List Up)) : List (List AV) := ls.map fun l => [.ro (vrows l)]
theorem wrows_len (ls : List (List Up)) : (wrows ls).length = ls.length := by simp [wrows]
theorem wrows_get (ls : List (List Up)) {i : Nat} (h : i < ls.length) : (wrows ls)[i]? = some [.ro (vrows ls[i])] := by simp [wrows, h]
theorem wrows_snoc (ls : List (List Up)) (x : List Up) : wrows ls ++ [[.ro (vrows x)]] = wrows (ls ++ [x]) := by simp [wrows]
theorem wrows_all (ls : List (List Up)) : (wrows ls).take ls.length = wrows ls := List.take_of_length_le (by rw [wrows_len]; exact Nat.le_refl _)
theorem wrows_fit1 (x : List Up) : headFits 1 [[AV.ro (vrows x)]] = true := rfl
/-- The batches told so far and the one that is being filled. -/
def cutF : List Up → List (List Up) → List Up → Option (List (List Up) × List Up)
  | [], out, cur => some (out, cur)
  | u :: us, out, cur => if BatP [u] then if cur ≠ [] ∧ ¬ BatP (cur ++ [u]) then cutF us (out ++ [cur]) [u] else cutF us out (cur ++ [u]) else none
def endC : List (List Up) × List Up → List (List Up)
  | (out, cur) => if cur = [] then out else out ++ [cur]
def resC : Option (List (List Up) × List Up) → AV
  | none => .tup [.fresh 35 1 (wrows []), .int .i64 210]
  | some p => .tup [.fresh 35 1 (wrows (endC p)), .int .i64 0]
theorem app_okB {n k : Nat} (h : n ≤ k) (h1 : k ≤ 1000000) : (n + 1) * 24 ≤ 140737488355328 ∧ n + 1 ≤ 4611686018427387904 := ⟨by omega, by omega⟩
end Go.Proofs.YtgajekpigkknnaaDoor.D
namespace Go.Proofs.YtgajekpigkknnaaDoor.F
open Go Go.Proofs.YtgajekpigkknnaaDoor.A Go.Proofs.YtgajekpigkknnaaDoor.D
theorem e65 (ls : List (List Rt)) (h1 : ls.length ≤ 1000000) (h2 : ls.flatten.length ≤ 1000000000) : LV E 65 [.clip (yrows ls)] = some (.fresh 53 21 (trows ls.flatten)) := by
  rw [LV_R (fn := f65) rfl rfl rfl]
  simp only [f65, RB, params, newAt, lenOf, Nat.reduceEqDiff, ↓reduceIte, reduceCtorEq, yrows_len]
  refine (W_rec2 (β := AV) (ι := Nat) (M := fun k => [(0, .clip (yrows ls)), (3, .int .i64 ((ls.take k).flatten.length : Int)), (9, .clip (yrows ls)), (10, .int .i64 (ls.length : Int)), (11, .int .i64 (k : Int))])
    (H := fun _ => ⟨[.lst 0 0 53 21 []], []⟩) (r := fun _ => some (AV.fresh 53 21 (trows ls.flatten))) (μ := fun k => ls.length - k) (fun i => ?_) (fun k ih => ?_) 0 rfl rfl)
  · simp [LPB]
  · by_cases hk : k < ls.length
    · have f1 : (k : Int) < (ls.length : Int) := by omega
      have f2 : (0 : Int) ≤ (k : Int) := by omega
      have f6 : IntKind.i64.wrap ((k : Int) + 1) = ((k + 1 : Nat) : Int) := by rw [IntWalk.i64_in _ (by omega)] <;> omega
      have g1 := yrows_get ls hk
      have hn := flatY_next hk
      have hl := flatY_le (ls := ls) (k + 1)
      rw [hn, List.length_append] at hl
      have f7 : IntKind.i64.wrap (((ls.take k).flatten.length : Int) + (ls[k].length : Int)) = ((ls.take (k + 1)).flatten.length : Int) := by
        rw [hn, List.length_append, IntWalk.i64_in _ (by omega)]; omega
      have f8 : ¬ ((ls.take (k + 1)).flatten.length : Int) < 0 := by omega
      simp only [RB, iaddrV, abin, cmpInt, rdPtr, asVal, lenOf, Nat.reduceEqDiff, ↓reduceIte, reduceCtorEq, f1, f2, f6, g1, trows_len, f7, f8]
      exact ih (k + 1) (by omega)
    · have e0 : ls.take k = ls := List.take_of_length_le (by omega)
      clear ih
      have hg : LR E [] 84 [.clip [], .int .i64 (ls.flatten.length : Int)] ⟨[.lst 0 0 53 21 []], []⟩ = some (.lis 1 0 0 0, ⟨[.lst 0 0 53 21 [], .lst 0 0 53 21 []], []⟩) := by
        rw [LR_primS (p := pGrow 53 21 56) rfl rfl]
        simp only [pGrow]
        rw [if_pos ⟨by omega, by rw [Int.toNat_natCast]; omega, by rw [Int.toNat_natCast]; omega⟩]; rfl
      simp only [RB, abin, cmpInt, lenOf, Nat.reduceAdd, Nat.reduceEqDiff, ↓reduceIte, reduceCtorEq, show ¬ (k : Int) < (ls.length : Int) by omega, e0, hg, shrink_true, yrows_len]
      refine (W_rec2 (β := AV) (ι := Nat) (M := fun k => [(6, .lis 1 k 0 (ls.take k).flatten.length), (25, .clip (yrows ls)), (26, .int .i64 (ls.length : Int)), (27, .int .i64 (k : Int))])
        (H := fun k => ⟨[.lst 0 0 53 21 [], .lst 0 k 53 21 (trows (ls.take k).flatten)], []⟩) (r := fun _ => some (AV.fresh 53 21 (trows ls.flatten))) (μ := fun k => ls.length - k) (fun i => ?_) (fun k ih => ?_) 0 rfl rfl)
      · simp [LPB]
      · by_cases hk : k < ls.length
        · have f1 : (k : Int) < (ls.length : Int) := by omega
          have f2 : (0 : Int) ≤ (k : Int) := by omega
          have f6 : IntKind.i64.wrap ((k : Int) + 1) = ((k + 1 : Nat) : Int) := by rw [IntWalk.i64_in _ (by omega)] <;> omega
          have g1 := yrows_get ls hk
          have hn := flatY_next hk
          have hl := flatY_le (ls := ls) (k + 1)
          rw [hn, List.length_append] at hl
          have f7 : ((ls.take k).flatten.length + ls[k].length) * 56 ≤ 140737488355328 := by omega
          have f8 : (ls.take k).flatten.length + ls[k].length ≤ 4611686018427387904 := by omega
          have ih := ih (k + 1) (by omega)
          rw [hn, List.length_append, ← trows_append] at ih
          have ht : (trows (ls.take k).flatten).take (ls.take k).flatten.length = trows (ls.take k).flatten := by rw [trows_take, List.take_length]
          simp only [RB, iaddrV, abin, cmpInt, rdPtr, asVal, rowsOf, Nat.reduceAdd, Nat.reduceEqDiff, ↓reduceIte, f1, f2, f6, g1, trows_len, f7, f8, trows_fit, aappend, ht, Nat.le_refl]
          exact ih
        · have e0 : ls.take k = ls := List.take_of_length_le (by omega)
          simp only [RB, abin, cmpInt, rowsOf, Nat.reduceAdd, Nat.reduceEqDiff, ↓reduceIte, show ¬ (k : Int) < (ls.length : Int) by omega, e0, expCell, trows_len, trows_take, List.take_length]
theorem e34c (l : List Up) : LV E 34 [.clip (vrows l)] = some (.bool (decide (BatP l))) := by
  rw [LV_R (fn := f34) rfl rfl rfl]
  have h50 := e50 l
  by_cases h : BatP l
  · rw [if_pos h] at h50
    rw [decide_eq_true h]
    simp only [f34, RB, abin, cmpInt, params, growLists, fillCells, AV.cells, argIds, AV.isData, ↓reduceIte, reduceCtorEq, snap, snapCell, mutIds, h50]
  · rw [if_neg h] at h50
    rw [decide_eq_false h]
    simp only [f34, RB, abin, cmpInt, params, growLists, fillCells, AV.cells, argIds, AV.isData, ↓reduceIte, reduceCtorEq, snap, snapCell, mutIds, h50, show ((210 : Int) == 0) = false from rfl]
set_option maxHeartbeats 1000000 in
theorem e11 (l : List Up) (hl : l.length ≤ 1000000) : LV E 11 [.ro (vrows l)] = some (resC (cutF l [] [])) := by
  rw [LV_R (fn := f11) rfl rfl rfl]
  simp only [f11, ← upv_zer, RB, params, newAt, lenOf, Nat.reduceAdd, Nat.reduceEqDiff, ↓reduceIte, reduceCtorEq, DB4]
  refine (W_rec2 (β := AV) (ι := {s : (Nat × Nat × Nat) × List (List Up) // s.1.1 ≤ l.length ∧ s.1.2.1 ≤ s.1.1 ∧ s.2.length ≤ s.1.1 ∧ (0 < s.1.1 → s.1.2.1 < s.1.1)}) (M := fun s => [(0, .ro (vrows l)), (4, .lis 1 s.1.1.2.2 0 s.1.2.length), (5, .int .i64 (s.1.1.2.1 : Int)), (8, .ro (vrows l)), (9, .int .i64 (l.length : Int)), (10, .int .i64 (s.1.1.1 : Int))])
    (H := fun s => ⟨[.lst 0 0 35 1 [], .lst 0 s.1.1.2.2 35 1 (wrows s.1.2)], []⟩) (r := fun s => some (resC (cutF (l.drop s.1.1.1) s.1.2 ((l.take s.1.1.1).drop s.1.1.2.1)))) (μ := fun s => l.length - s.1.1.1) (fun s => ?_) (fun s ih => ?_) ⟨((0, 0, 0), []), Nat.zero_le _, Nat.le_refl _, Nat.le_refl _, fun h => h⟩ rfl rfl)
  · simp [LPB]
  · obtain ⟨⟨⟨k, a, g⟩, out⟩, hk0, ha, ho, ha1⟩ := s
    simp only at ih hk0 ha ho ha1 ⊢
    obtain ⟨q1, q2⟩ := app_okB ho (Nat.le_trans hk0 hl)
    have f0 : (0 : Int) ≤ (a : Int) := by omega
    have f2 : (0 : Int) ≤ (k : Int) := by omega
    by_cases hk : k < l.length
    · have f1 : (k : Int) < (l.length : Int) := by omega
      have f6 : IntKind.i64.wrap ((k : Int) + 1) = ((k + 1 : Nat) : Int) := by rw [IntWalk.i64_in _ (by omega)] <;> omega
      have f7 : (0 : Int) ≤ ((k + 1 : Nat) : Int) := by omega
      have g1 := vrows_get l hk
      have hcc : (l.take (k + 1)).drop a = (l.take k).drop a ++ [l[k]] := by
        rw [List.take_add_one, List.getElem?_eq_getElem hk, Option.toList_some, List.drop_append_of_le_length (by rw [List.length_take]; omega)]
      have hcl : (l.take k).drop a = [] ↔ ¬ a < k := by
        rw [List.drop_eq_nil_iff, List.length_take]; omega
      have h34 := e34c [l[k]]
      rw [show vrows [l[k]] = [upv l[k]] from rfl] at h34
      have h34b := e34 ((l.take (k + 1)).drop a)
      have s1 := vrows_fits l (show a ≤ k + 1 by omega) (show k + 1 ≤ l.length by omega)
      have s2 := vrows_fits l ha hk0
      have s3 : k + 1 ≤ l.length := hk
      have s4 : a ≤ k + 1 := by omega
      have h22 := e22 ((l.take k).drop a) (by rw [List.length_drop, List.length_take]; omega)
      have hck : (l.take (k + 1)).drop k = [l[k]] := by
        rw [List.take_add_one, List.getElem?_eq_getElem hk, Option.toList_some, List.drop_append_of_le_length (by rw [List.length_take]; omega), List.drop_eq_nil_of_le (by rw [List.length_take]; omega), List.nil_append]
      rw [hcc] at h34b
      rw [List.drop_eq_getElem_cons hk, cutF]
      by_cases hB1 : BatP [l[k]]
      · rw [if_pos hB1]
        by_cases hak : a < k
        · have hne : (l.take k).drop a ≠ [] := fun h => hcl.1 h hak
          have i1 : (a : Int) < (k : Int) := by omega
          by_cases hB2 : BatP ((l.take k).drop a ++ [l[k]])
          · rw [if_neg (fun h => h.2 hB2)]
            have ih := ih ⟨((k + 1, a, g), out), hk, by simp only; omega, by simp only; omega, by simp only; omega⟩ (by simp only; omega)
            simp only [hcc] at ih
            generalize hcur : (l.take k).drop a = cur at *
            generalize l[k] = u at *
            simp only [RB, pickV, notV, iaddrV, abin, cmpInt, growLists, newAt, rdPtr, wrPtr, AV.cells, asVal, lenOf, boundOf, argIds, Nat.reduceAdd, Nat.reduceEqDiff, Nat.reduceLT, ↓reduceIte, reduceCtorEq, DB4, O_buildSlq, quietOk, aop_buildSl, fillRows, asData, f1, f2, f0, f6, f7, g1, i1, aslice, boundOf, hcc, s1, s3, s4, hB1, hB2, h34, h34b]
            exact ih
          · rw [if_pos ⟨hne, hB2⟩]
            have ih := ih ⟨((k + 1, k, g + 1), out ++ [(l.take k).drop a]), hk, by simp only; omega, by simp only [List.length_append, List.length_cons, List.length_nil]; omega, by simp only; omega⟩ (by simp only; omega)
            simp only [hck, List.length_append, List.length_cons, List.length_nil, Nat.zero_add] at ih
            generalize hcur : (l.take k).drop a = cur at *
            generalize l[k] = u at *
            simp only [RB, pickV, notV, iaddrV, abin, cmpInt, growLists, fillCells, newAt, rdPtr, wrPtr, AV.cells, asVal, lenOf, boundOf, rowsOf, argIds, AV.isData, Nat.reduceAdd, Nat.reduceEqDiff, Nat.reduceLT, ↓reduceIte, reduceCtorEq, DB4, R7B, O_buildSlq, quietOk, aop_buildSl, fillRows, asData, aappend, f1, f2, f0, f6, f7, g1, i1, aslice, boundOf, hcc, s1, s2, s3, s4, ha, hk0, hcur, hB1, hB2, h34, h34b, h22, wrows_all, wrows_len, List.take_length, Nat.le_refl, toDataL, toData, rowsOf, lockAt, wrows_fit1, wrows_snoc, q1, q2]
            exact ih
        · obtain rfl : a = k := by omega
          have i1 : ¬ (a : Int) < (a : Int) := by omega
          have e : (l.take a).drop a = [] := hcl.2 hak
          rw [if_neg (fun h => h.1 e)]
          have ih := ih ⟨((a + 1, a, g), out), hk, by simp only; omega, by simp only; omega, by simp only; omega⟩ (by simp only; omega)
          simp only [hcc] at ih
          generalize hcur : (l.take a).drop a = cur at *
          generalize l[a] = u at *
          simp only [RB, pickV, notV, iaddrV, abin, cmpInt, growLists, newAt, rdPtr, wrPtr, AV.cells, asVal, argIds, Nat.reduceAdd, Nat.reduceEqDiff, Nat.reduceLT, ↓reduceIte, reduceCtorEq, DB4, O_buildSlq, quietOk, aop_buildSl, fillRows, asData, f1, f2, f6, g1, i1, hB1, h34]
          exact ih
      · rw [if_neg hB1]
        generalize l[k] = u at *
        simp only [RB, notV, iaddrV, abin, cmpInt, growLists, newAt, rdPtr, wrPtr, AV.cells, asVal, rowsOf, argIds, Nat.reduceAdd, Nat.reduceEqDiff, Nat.reduceLT, ↓reduceIte, reduceCtorEq, DB4, O_buildSlq, quietOk, aop_buildSl, fillRows, asData, f1, f2, g1, hB1, h34, expCell, List.nodup_cons, List.nodup_nil, List.not_mem_nil, and_false]
        rfl
    · obtain rfl : k = l.length := by omega
      rw [List.drop_length, cutF, List.take_length]
      have h22 := e22 (l.drop a) (by rw [List.length_drop]; omega)
      have s2 := vrows_fits l ha hk0
      by_cases hak : a < l.length
      · have i1 : (a : Int) < (l.length : Int) := by omega
        have hne : l.drop a ≠ [] := fun h => by
          rw [List.drop_eq_nil_iff] at h; omega
        have er : resC (some (out, l.drop a)) = .tup [.fresh 35 1 (wrows (out ++ [l.drop a])), .int .i64 0] := by simp only [resC, endC, if_neg hne]
        rw [er]
        have hlo : (out ++ [l.drop a]).length = out.length + 1 := by simp
        have hwa := wrows_all (out ++ [l.drop a])
        have hwl := wrows_len (out ++ [l.drop a])
        rw [hlo] at hwa hwl
        simp only [RB, abin, cmpInt, growLists, fillCells, newAt, AV.cells, lenOf, boundOf, rowsOf, argIds, AV.isData, Nat.reduceAdd, Nat.reduceEqDiff, Nat.reduceLT, ↓reduceIte, reduceCtorEq, DB4, R7B, aop_buildSl, fillRows, asData, aappend, f0, i1, show ¬ ((l.length : Nat) : Int) < (l.length : Int) by omega, aslice, boundOf, s2, ha, Nat.le_refl, h22, wrows_all, wrows_len, List.take_length, toDataL, toData, rowsOf, lockAt, wrows_fit1, wrows_snoc, q1, q2, hwa, hwl, expCell, List.nodup_cons, List.nodup_nil, List.not_mem_nil, and_false]
        done
      · have i1 : ¬ (a : Int) < (l.length : Int) := by omega
        have hne : l.drop a = [] := by
          rw [List.drop_eq_nil_iff]; omega
        have er : resC (some (out, l.drop a)) = .tup [.fresh 35 1 (wrows out), .int .i64 0] := by simp only [resC, endC, if_pos hne]
        rw [er]
        have hwl := wrows_len out
        simp only [RB, abin, cmpInt, lenOf, rowsOf, argIds, Nat.reduceAdd, Nat.reduceEqDiff, ↓reduceIte, reduceCtorEq, DB4, i1, show ¬ ((l.length : Nat) : Int) < (l.length : Int) by omega, wrows_all, hwl, Nat.le_refl, expCell, List.nodup_cons, List.nodup_nil, List.not_mem_nil, and_false]
        done
end Go.Proofs.YtgajekpigkknnaaDoor.F

/- A RIB behind updates: the run. No condition. -/
set_option linter.unusedSimpArgs false
set_option maxRecDepth 20000
namespace Go.Proofs.YtgajekpigkknnaaDoor.D
open Go Go.Proofs.YtgajekpigkknnaaDoor.A
def appC (l : List Rt) (b : List Up) : Int × List Rt := if RibP l then if BatP b then match runA l b with
    | none => (4, [])
    | some r => if chgC r r.length ≤ 40 then (0, r) else (6, [])
  else (210, []) else (211, [])
theorem applyS_eq (l : List Rt) (b : List Up) : applyS l b = .tup [.agg [.ro (trows (appC l b).2)], .int .i64 (appC l b).1] := by
  unfold applyS appC resA
  split
  · split
    · cases runA l b with
      | none => rfl
      | some r => simp only; split <;> rfl
    · rfl
  · rfl
theorem runA_len : ∀ {b : List Up} {l r : List Rt}, runA l b = some r → r.length ≤ l.length + b.length
  | [], l, r, h => by cases h; exact Nat.le_refl _
  | u :: us, l, r, h => by
    unfold runA at h
    split at h
    · rename_i l' h1
      have h2 := stepA_len h1
      have h3 := runA_len h
      rw [List.length_cons]; omega
    · cases h
theorem appC_len {l : List Rt} {b : List Up} : (appC l b).2.length ≤ 168 := by
  unfold appC
  split
  · rename_i hR
    split
    · rename_i hB
      split
      · simp
      · rename_i r h
        have h1 := runA_len h
        have h2 := hR.1
        have h3 := hB.2.1
        split
        · simp only; omega
        · simp
    · simp
  · simp
/-- A RIB behind batches: the RIB, how many went, the error. -/
def doB : List Rt → List (List Up) → Nat → List Rt × Nat × Int
  | r, [], i => (r, i, 0)
  | r, b :: bs, i => if (appC r b).1 = 0 then doB (appC r b).2 bs (i + 1) else (r, i, (appC r b).1)
def doR (p : List Rt × Nat × Int) : AV := .tup [.agg [.ro (trows p.1)], .int .i64 (p.2.1 : Int), .int .i64 p.2.2]
def doS (l : List Rt) (us : List Up) : List Rt × Nat × Int := if RibP l then match cutF us [] [] with
    | none => (l, 0, 210)
    | some p => doB l (endC p) 0
  else ([], 0, 211)
theorem cutF_len : ∀ {us : List Up} {out : List (List Up)} {cur : List Up} {p : List (List Up) × List Up}, cutF us out cur = some p → p.1.length ≤ out.length + us.length
  | [], out, cur, p, h => by cases h; exact Nat.le_refl _
  | u :: us, out, cur, p, h => by
    unfold cutF at h
    rw [List.length_cons]
    split at h
    · split at h
      · have := cutF_len h
        simp only [List.length_append, List.length_cons, List.length_nil] at this; omega
      · have := cutF_len h; omega
    · cases h
theorem endC_len (p : List (List Up) × List Up) : (endC p).length ≤ p.1.length + 1 := by
  obtain ⟨out, cur⟩ := p
  simp only [endC]; split <;> simp
end Go.Proofs.YtgajekpigkknnaaDoor.D
namespace Go.Proofs.YtgajekpigkknnaaDoor.F
open Go Go.Proofs.YtgajekpigkknnaaDoor.A Go.Proofs.YtgajekpigkknnaaDoor.D
set_option maxHeartbeats 1000000 in
theorem e16 (l : List Rt) (us : List Up) (hl : l.length ≤ 1000000) (hu : us.length ≤ 1000000) : LV E 16 [.agg [.ro (trows l)], .ro (vrows us)] = some (doR (doS l us)) := by
  rw [LV_R (fn := f16) rfl rfl rfl]
  have h30 := e30 l (by omega)
  have h36 := e36 l hl
  have h11 := e11 us hu
  unfold doS
  by_cases hR : RibP l
  · rw [if_pos hR] at h30 ⊢
    cases hc : cutF us [] [] with
    | none =>
      rw [hc] at h11
      simp only [f16, RB, faddrV, extrV, abin, cmpInt, params, growLists, newAt, rdPtr, wrPtr, AV.cells, asVal, rowsOf, argIds, freshIn, AV.isData, Nat.reduceAdd, Nat.reduceEqDiff, ↓reduceIte, reduceCtorEq, DB4, R7B, h30, h36, h11, resC, bne_self_eq_false, show ((210 : Int) != 0) = true from rfl, expIn_tabT, expCell, List.nodup_cons, List.nodup_nil, List.not_mem_nil, and_false, mutIds, List.take_length, Nat.le_refl]
      rfl
    | some p =>
      rw [hc] at h11
      have hn : (endC p).length ≤ 1000001 := by
        have h1 := cutF_len hc
        have h2 := endC_len p
        simp only [List.length_nil] at h1
        omega
      simp only [resC] at h11 ⊢
      generalize endC p = L at *
      simp only [f16, RB, faddrV, extrV, abin, cmpInt, params, growLists, newAt, rdPtr, wrPtr, AV.cells, asVal, lenOf, argIds, freshIn, AV.isData, Nat.reduceAdd, Nat.reduceEqDiff, ↓reduceIte, reduceCtorEq, DB4, R7B, h30, h36, h11, bne_self_eq_false, wrows_len]
      refine (W_rec2 (β := AV) (ι := {s : Nat × Bool × List Rt // s.1 ≤ L.length ∧ s.2.2.length ≤ 1000000 ∧ (s.2.1 = true → s.2.2 = l)})
        (M := fun s => [(2, .ptr 0 0 0 0), (4, .ptr 1 0 0 0), (8, .lis 4 0 0 L.length), (33, .lis 4 0 0 L.length), (34, .int .i64 (L.length : Int)), (35, .int .i64 (s.1.1 : Int))])
        (H := fun s => ⟨[.box 0 46 [if s.1.2.1 then .lis 3 0 0 l.length else .ro (trows s.1.2.2)], .box 0 46 [.lis 2 0 0 0], .lst 0 0 53 21 [], .lst (if s.1.2.1 then 0 else 2) 0 53 21 (trows l), .lst 0 0 35 1 (wrows L)], []⟩)
        (r := fun s => some (doR (doB s.1.2.2 (L.drop s.1.1) s.1.1))) (μ := fun s => L.length - s.1.1) (fun s => ?_) (fun s ih => ?_) ⟨(0, true, l), Nat.zero_le _, hl, fun _ => rfl⟩ rfl rfl)
      · obtain ⟨⟨k, b, r⟩, h⟩ := s
        cases b <;> simp [LPB]
      · obtain ⟨⟨k, b, r⟩, hk0, hr0, hb⟩ := s
        simp only at ih hk0 hr0 hb ⊢
        by_cases hk : k < L.length
        · have f1 : (k : Int) < (L.length : Int) := by omega
          have f2 : (0 : Int) ≤ (k : Int) := by omega
          have f6 : IntKind.i64.wrap ((k : Int) + 1) = ((k + 1 : Nat) : Int) := by rw [IntWalk.i64_in _ (by omega)] <;> omega
          have g1 := wrows_get L hk
          have h31 := e31 r L[k] hr0
          rw [applyS_eq] at h31
          rw [List.drop_eq_getElem_cons hk, doB]
          by_cases h0 : (appC r L[k]).1 = 0
          · rw [if_pos h0]
            have ih := ih ⟨(k + 1, false, (appC r L[k]).2), hk, Nat.le_trans appC_len (by decide), by simp⟩ (by simp only; omega)
            simp only [Bool.false_eq_true, if_false] at ih
            rw [h0] at h31
            cases b with
            | true =>
              obtain rfl := hb rfl
              simp only [RB, iaddrV, extrV, abin, cmpInt, growLists, newAt, rdPtr, wrPtr, AV.cells, asVal, rowsOf, argIds, freshIn, scalar1, AV.isData, Nat.reduceAdd, Nat.reduceEqDiff, ↓reduceIte, reduceCtorEq, DB4, f1, f2, f6, hk, g1, lisFits, snap, snapCell, rowsOf, h31, bne_self_eq_false, CW_some, scalar, scalar1, lockAll, lockAt, reduceCtorEq, extrV, mutIds, List.take_length, Nat.le_refl]
              exact ih
            | false =>
              simp only [RB, iaddrV, extrV, abin, cmpInt, growLists, newAt, rdPtr, wrPtr, AV.cells, asVal, argIds, freshIn, scalar1, AV.isData, Nat.reduceAdd, Nat.reduceEqDiff, ↓reduceIte, f1, f2, f6, hk, g1, lisFits, snap, h31, bne_self_eq_false, CW_some, scalar, scalar1, extrV]
              exact ih
          · rw [if_neg h0]
            have z : ((appC r L[k]).1 != 0) = true := by rw [bne_iff_ne]; exact h0
            cases b with
            | true =>
              obtain rfl := hb rfl
              simp only [RB, iaddrV, extrV, abin, cmpInt, growLists, newAt, rdPtr, wrPtr, AV.cells, asVal, rowsOf, argIds, freshIn, scalar1, AV.isData, Nat.reduceAdd, Nat.reduceEqDiff, ↓reduceIte, reduceCtorEq, DB4, f1, f2, hk, g1, lisFits, snap, snapCell, rowsOf, h31, z, CW_some, scalar, scalar1, lockAll, lockAt, reduceCtorEq, extrV, mutIds, expIn_tabT, expCell, List.nodup_cons, List.nodup_nil, List.not_mem_nil, and_false, mutIds, List.take_length, Nat.le_refl]
              rfl
            | false =>
              simp only [RB, iaddrV, extrV, abin, cmpInt, growLists, newAt, rdPtr, wrPtr, AV.cells, asVal, argIds, freshIn, scalar1, AV.isData, Nat.reduceAdd, Nat.reduceEqDiff, ↓reduceIte, f1, f2, hk, g1, lisFits, snap, h31, z, CW_some, scalar, scalar1, extrV, List.nodup_nil, and_false]
              rfl
        · obtain rfl : k = L.length := by omega
          rw [List.drop_length, doB]
          cases b with
          | true =>
            obtain rfl := hb rfl
            simp only [RB, abin, cmpInt, rdPtr, wrPtr, AV.cells, asVal, lenOf, rowsOf, argIds, AV.isData, Nat.reduceAdd, Nat.reduceEqDiff, ↓reduceIte, DB4, show ¬ ((L.length : Nat) : Int) < (L.length : Int) by omega, expIn_tabT, expCell, List.nodup_cons, List.nodup_nil, List.not_mem_nil, and_false, mutIds, List.take_length, Nat.le_refl]
            rfl
          | false =>
            simp only [RB, abin, cmpInt, rdPtr, wrPtr, AV.cells, asVal, lenOf, argIds, AV.isData, Nat.reduceAdd, Nat.reduceEqDiff, ↓reduceIte, show ¬ ((L.length : Nat) : Int) < (L.length : Int) by omega, List.nodup_nil, and_false]
            rfl
  · rw [if_neg hR] at h30 ⊢
    simp only [f16, RB, abin, cmpInt, params, growLists, fillCells, newAt, rdPtr, wrPtr, AV.cells, asVal, rowsOf, argIds, AV.isData, Nat.reduceAdd, Nat.reduceEqDiff, ↓reduceIte, h30, show ((211 : Int) != 0) = true from rfl, expIn_tabT, expCell, List.nodup_cons, List.nodup_nil, List.not_mem_nil, and_false, mutIds, Nat.le_refl]
    rfl
end Go.Proofs.YtgajekpigkknnaaDoor.F

/- A RIB mixed with another one by a source: the run. No condition. -/
set_option linter.unusedSimpArgs false
set_option maxRecDepth 20000
namespace Go.Proofs.YtgajekpigkknnaaDoor.F
open Go Go.Proofs.YtgajekpigkknnaaDoor.A Go.Proofs.YtgajekpigkknnaaDoor.D
theorem r85 {ys : List Hd} {bs : List Blk} {pend : List (Option AExit)} {v : AV} {l : List Rt} {P : Rt → Bool} {g : FuncId} {caps : List AV} (hl : l.length ≤ 4611686018427387904) (hv : SlV bs 21 v (l.map rtv)) (hp : PredG E rtv g caps P bs) (hlow : belowAll bs.length bs = true) (hc : belowL bs.length caps = true) :
    LR E ys 85 [v, .clo g caps] ⟨bs, pend⟩ = some (.int .i64 (idxR P l 0), ⟨bs, pend⟩) := by
  have huf := hv.uf
  have hlen := hv.len
  have hlo := hv.low
  rw [List.length_map] at hlen
  rw [LR_R (fn := f85) rfl rfl rfl]
  simp only [f85, RB, params, Nat.reduceEqDiff, Int.reduceNeg, ↓reduceIte, reduceCtorEq, huf, hlen]
  refine (W_rec (ι := Nat) (M := fun k => [(0, v), (1, .clo g caps), (7, .int .i64 (l.length : Int)), (8, .int .i64 (k : Int))]) (H := fun _ => ⟨bs, pend⟩) (r := fun k => some ((AV.int .i64 (idxR P (l.drop k) k), ⟨bs, pend⟩) : AV × Hp)) (μ := fun k => l.length - k) (fun i => ?_) (fun k ih => ?_) 0)
  · exact ⟨by simp only [List.map_cons, List.map_nil, LPB, hlo, hc, Bool.and_self], hlow⟩
  · by_cases hk : k < l.length
    · have f1 : (k : Int) < (l.length : Int) := by omega
      have f6 : IntKind.i64.wrap ((k : Int) + 1) = ((k + 1 : Nat) : Int) := by rw [IntWalk.i64_in _ (by omega)] <;> omega
      obtain ⟨p, g1, g2⟩ := hv.get [] k (by simpa using hk)
      have g3 := g2 []
      rw [List.append_nil] at g1 g3
      rw [List.getElem?_map, List.getElem?_eq_getElem hk] at g3
      obtain ⟨ext, hpr⟩ := hp ys pend [] l[k]
      rw [List.append_nil] at hpr
      have hsh : shrink false bs.length (.bool (P l[k])) ⟨bs ++ ext, pend⟩ = some ⟨bs, pend⟩ := shrink_app rfl rfl hlow
      have e : idxR P (l.drop k) k = if P l[k] then (k : Int) else idxR P (l.drop (k + 1)) (k + 1) := by
        rw [List.drop_eq_getElem_cons hk, idxR]
      rw [e]
      cases hP : P l[k] with
      | true =>
        rw [hP] at hpr hsh
        simp only [RB, abin, cmpInt, asVal, Nat.reduceEqDiff, Int.reduceNeg, ↓reduceIte, reduceCtorEq, f1, huf, g1, g3, hpr, hsh]
      | false =>
        rw [hP] at hpr hsh
        simp only [RB, abin, cmpInt, asVal, Nat.reduceEqDiff, Int.reduceNeg, ↓reduceIte, reduceCtorEq, f1, f6, huf, g1, g3, hpr, hsh, List.take_length]
        exact ih (k + 1) (by omega)
    · simp only [RB, abin, cmpInt, Nat.reduceEqDiff, Int.reduceNeg, ↓reduceIte, reduceCtorEq, show ¬ (k : Int) < (l.length : Int) by omega]
      rw [List.drop_eq_nil_of_le (by omega)]; rfl
set_option maxHeartbeats 1000000 in
theorem r66 {ys : List Hd} {bs : List Blk} {pend : List (Option AExit)} {id gen n : Nat} {l : List Rt} {P : Rt → Bool} {g : FuncId} {caps : List AV} (hl : l.length ≤ 1000000) (hn : l.length = n) (hb : bs[id]? = some (.lst 0 gen 53 21 (l.map rtv))) (hp : ∀ Y, PredG E rtv g caps P (bs.set id (.lst 0 gen 53 21 Y))) (hlow : belowAll bs.length bs = true) (hc : belowL bs.length caps = true) :
    ∃ z r, LR E ys 66 [.lis id gen 0 n, .clo g caps] ⟨bs, pend⟩ = some (.lis id gen 0 (l.filter fun x => !P x).length, ⟨bs.set id (.lst 0 gen 53 21 (((l.filter fun x => !P x) ++ z).map rtv)) ++ r, pend⟩) := by
  subst hn
  have hid := (List.getElem?_eq_some_iff.1 hb).1
  have hself : bs.set id (.lst 0 gen 53 21 (l.map rtv)) = bs := by
    rw [List.getElem?_eq_getElem hid] at hb
    rw [← Option.some.inj hb, List.set_getElem_self]
  have hlow0 : ∀ Y, belowAll bs.length (bs.set id (.lst 0 gen 53 21 Y)) = true := fun Y => by
    unfold belowAll at *
    rw [List.all_eq_true] at *
    intro b hb
    rcases List.mem_or_eq_of_mem_set hb with h | rfl
    · exact hlow b h
    · rfl
  have hlowS : ∀ m Y, bs.length ≤ m → belowAll m (bs.set id (.lst 0 gen 53 21 Y)) = true := fun m Y h => belowAll_mono h (hlow0 Y)
  have hix := r85 (ys := ys) (pend := pend) (bs := bs ++ [Blk.lst 0 0 53 21 []]) (v := .lis id gen 0 l.length) (l := l) (P := P) (g := g) (caps := caps) (by omega) (SlV.lis (get_lt hb) (by simp) (by simp [rtv_len])) (fun ys pend ext x => by
    have := hp (l.map rtv) ys pend ([Blk.lst 0 0 53 21 []] ++ ext) x
    rw [hself] at this
    simpa only [List.append_assoc] using this) (by rw [ball_app, belowAll_mono (by simp) hlow]; rfl) (belowL_mono (by simp) _ hc)
  rw [LR_R (fn := f66) rfl rfl rfl]
  simp only [f66, ← rtv_zer, RB, params, newAt, Nat.reduceEqDiff, Int.reduceNeg, ↓reduceIte, reduceCtorEq, R7B]
  have hsh : ∀ m, shrink false (bs ++ [Blk.lst 0 0 53 21 []]).length (.int .i64 m) ⟨bs ++ [Blk.lst 0 0 53 21 []], pend⟩ = some ⟨bs ++ [Blk.lst 0 0 53 21 []], pend⟩ := fun m => shrink_id rfl rfl (by rw [ball_app, belowAll_mono (by simp) hlow]; rfl)
  cases hP : l.any P with
  | false =>
    rw [idxR_none hP] at hix
    simp only [RB, abin, cmpInt, Int.reduceNeg, ↓reduceIte, reduceCtorEq, hix, hsh]
    have e : (l.filter fun x => !P x) = l := List.filter_eq_self.2 fun x hx => by
      have := List.any_eq_false.1 hP x hx
      simpa using this
    rw [e]
    exact ⟨[], [Blk.lst 0 0 53 21 []], by rw [List.append_nil, hself]⟩
  | true =>
    obtain ⟨i0, hi, hi1, hi2, hi3⟩ := idxR_some (k := 0) hP
    rw [Nat.zero_add] at hi
    rw [hi] at hix
    have f0 : ((i0 : Int) == -1) = false := by rw [beq_eq_false_iff_ne]; omega
    have f6 : IntKind.i64.wrap ((i0 : Int) + 1) = ((i0 + 1 : Nat) : Int) := by rw [IntWalk.i64_in _ (by omega)] <;> omega
    simp only [RB, abin, cmpInt, Nat.reduceEqDiff, Int.reduceNeg, ↓reduceIte, reduceCtorEq, hix, hsh, f0, f6]
    simp only [List.length_append, List.length_cons, List.length_nil, Nat.zero_add]
    have eF : ((l.take (i0 + 1)).filter fun x => !P x) = l.take i0 := by
      rw [List.take_add_one, List.getElem?_eq_getElem hi1, Option.toList_some, List.filter_append]
      have h1 : ((l.take i0).filter fun x => !P x) = l.take i0 := List.filter_eq_self.2 fun x hx => by
        have := List.any_eq_false.1 hi3 x hx
        simpa using this
      rw [h1]; simp [hi2]
    have hQ : ∀ j (ms : List Rt), j ≤ l.length → ((l.take j).filter fun x => !P x).length + ms.length = j → (((l.take j).filter fun x => !P x) ++ ms ++ l.drop j).length = l.length := fun j ms h h' => by
      simp only [List.length_append, List.length_drop]; omega
    refine W_recP2 (ι := {s : Nat × List Rt // s.1 ≤ l.length ∧ 0 < s.2.length ∧ ((l.take s.1).filter fun x => !P x).length + s.2.length = s.1})
      (Q := fun s x => ∃ z r, x = some ((AV.lis id gen 0 (l.filter fun x => !P x).length, ⟨bs.set id (.lst 0 gen 53 21 (((l.filter fun x => !P x) ++ z).map rtv)) ++ r, pend⟩) : AV × Hp))
      (M := fun s => [(0, .lis id gen 0 l.length), (1, .clo g caps), (5, .int .i64 (((l.take s.1.1).filter fun x => !P x).length : Int)), (6, .int .i64 (s.1.1 : Int))])
      (H := fun s => ⟨bs.set id (.lst 0 gen 53 21 ((((l.take s.1.1).filter fun x => !P x) ++ s.1.2 ++ l.drop s.1.1).map rtv)) ++ [Blk.lst 0 0 53 21 []], pend⟩)
      (μ := fun s => l.length - s.1.1) (fun s => ?_) (fun s ih => ?_) ⟨(i0 + 1, [l[i0]]), by omega, by simp, by rw [eF]; simp; omega⟩ ?_ ?_
    · refine ⟨?_, ?_⟩
      · have h1 : id < bs.length + 1 := by omega
        simp only [List.map_cons, List.map_nil, LPB, belowL_mono (show bs.length ≤ bs.length + 1 by omega) _ hc, h1, decide_true, Bool.and_self]
      · rw [ball_app, hlowS _ _ (by omega)]; rfl
    · obtain ⟨⟨j, ms⟩, hj, hms, hjm⟩ := s
      simp only at ih hj hms hjm ⊢
      generalize hF : ((l.take j).filter fun x => !P x) = F at *
      have hql := hQ j ms hj (by rw [hF]; exact hjm)
      rw [hF] at hql
      by_cases hk : j < l.length
      · have f1 : (j : Int) < (l.length : Int) := by omega
        have f2 : (0 : Int) ≤ (j : Int) := by omega
        have f3 : (0 : Int) ≤ (F.length : Int) := by omega
        have f4 : F.length < l.length := by omega
        have f5 : IntKind.i64.wrap ((j : Int) + 1) = ((j + 1 : Nat) : Int) := by rw [IntWalk.i64_in _ (by omega)] <;> omega
        have f7 : IntKind.i64.wrap ((F.length : Int) + 1) = ((F.length + 1 : Nat) : Int) := by rw [IntWalk.i64_in _ (by omega)] <;> omega
        have edrop : l.drop j = l[j] :: l.drop (j + 1) := List.drop_eq_getElem_cons hk
        have etake : ((l.take (j + 1)).filter fun x => !P x) = if P l[j] then F else F ++ [l[j]] := by
          rw [List.take_add_one, List.getElem?_eq_getElem hk, Option.toList_some, List.filter_append, hF]
          cases hPj : P l[j] <;> simp [hPj]
        have g1 : ((F ++ (ms ++ l.drop j)).map rtv)[j]? = some (rtv l[j]) := by
          rw [← List.append_assoc, List.getElem?_map, List.getElem?_append_right (by simp; omega)]
          rw [show j - (F ++ ms).length = 0 by simp; omega, edrop]; rfl
        have hSset : ∀ r Y, (bs.set id (.lst 0 gen 53 21 ((F ++ ms ++ l.drop j).map rtv)) ++ r).set id Y = bs.set id Y ++ r := fun r Y => by
          rw [setK_in (by simpa using hid), List.set_set]
        generalize hS : bs.set id (.lst 0 gen 53 21 ((F ++ ms ++ l.drop j).map rtv)) = S at hSset
        have hSl : S.length = bs.length := by rw [← hS]; simp
        have hSid : ∀ r, (S ++ r)[id]? = some (.lst 0 gen 53 21 ((F ++ (ms ++ l.drop j)).map rtv)) := fun r => by rw [← List.append_assoc, ← hS]; exact setK_self hid r
        have hSlow : ∀ m, bs.length ≤ m → belowAll m S = true := fun m h => by rw [← hS]; exact hlowS m _ h
        obtain ⟨ext, hpr⟩ := hp ((F ++ ms ++ l.drop j).map rtv) ys pend [Blk.lst 0 0 53 21 [], Blk.box 0 53 (rtv l[j])] l[j]
        rw [hS] at hpr
        have hsh2 : shrink false (bs.length + 2) (.bool (P l[j])) ⟨(S ++ [Blk.lst 0 0 53 21 [], Blk.box 0 53 (rtv l[j])]) ++ ext, pend⟩ = some ⟨S ++ [Blk.lst 0 0 53 21 [], Blk.box 0 53 (rtv l[j])], pend⟩ := shrink_app (by simp [hSl]) rfl (by rw [ball_app, hSlow _ (by omega)]; simp only [LPB, rtv_below, Bool.and_self])
        simp only [List.append_assoc, List.cons_append, List.nil_append] at hpr hsh2
        have hhd : headFits 21 [rtv l[j]] = true := by simp [headFits, rtv_len]
        cases hPj : P l[j] with
        | true =>
          rw [hPj] at hpr hsh2 etake
          have ih := ih ⟨(j + 1, ms ++ [l[j]]), by omega, by simp, by simp only [etake, if_true]; simp; omega⟩ (by simp only; omega)
          simp only [etake, if_true] at ih
          rw [show F ++ (ms ++ [l[j]]) ++ l.drop (j + 1) = F ++ ms ++ l.drop j by rw [edrop]; simp, hS] at ih
          simp only [RB, notV, iaddrV, abin, cmpInt, growLists, newAt, rdPtr, wrPtr, AV.cells, asVal, lenOf, Nat.reduceAdd, Nat.reduceEqDiff, ↓reduceIte, reduceCtorEq, DB4, R7B, f1, f2, f5, lisFits, hSid, g1, List.append_assoc, List.length_append, hSl, hk, hpr, hsh2, take_add hSl]
          exact ih
        | false =>
          rw [hPj] at hpr hsh2 etake
          obtain ⟨m0, ms', rfl⟩ : ∃ m0 ms', ms = m0 :: ms' := by cases ms with
            | nil => simp at hms
            | cons a b => exact ⟨a, b, rfl⟩
          have g4 : ((F ++ (m0 :: ms' ++ l.drop j)).map rtv)[F.length]? = some (rtv m0) := by simp
          have g5 : ((F ++ (m0 :: ms' ++ l.drop j)).map rtv).set F.length (rtv l[j]) = (F ++ [l[j]] ++ (ms' ++ [l[j]]) ++ l.drop (j + 1)).map rtv := by
            rw [edrop, List.map_append, show F.length = (F.map rtv).length by simp, List.set_append_right _ _ (Nat.le_refl _)]; simp
          have ih := ih ⟨(j + 1, ms' ++ [l[j]]), by omega, by simp, by simp only [etake, Bool.false_eq_true, if_false]; simp at hjm ⊢; omega⟩ (by simp only; omega)
          simp only [etake, Bool.false_eq_true, if_false, List.length_append, List.length_cons, List.length_nil, Nat.zero_add] at ih
          rw [← g5] at ih
          simp only [List.cons_append] at g1 g4 hSid ih
          have hBt : ∀ Y r i, (bs.set id Y ++ r).take (bs.length + i) = bs.set id Y ++ r.take i := fun Y r i => take_add (by simp)
          simp only [RB, notV, iaddrV, abin, cmpInt, growLists, newAt, rdPtr, wrPtr, AV.cells, asVal, lenOf, Nat.reduceAdd, Nat.reduceEqDiff, ↓reduceIte, reduceCtorEq, DB4, R7B, f1, f2, f3, f4, f5, f7, lisFits, hSid, g1, List.append_assoc, List.length_append, hSl, hk, hpr, hsh2, take_add hSl, g4, hSset, hBt]
          exact ih
      · have : j = l.length := by omega
        subst this
        simp only [List.take_length, List.drop_length, List.append_nil] at *
        generalize hS : bs.set id (.lst 0 gen 53 21 ((F ++ ms).map rtv)) = S
        have hSid : ∀ r, (S ++ r)[id]? = some (.lst 0 gen 53 21 ((F ++ ms).map rtv)) := fun r => by rw [← hS]; exact setK_self hid r
        have hSset : ∀ r Y, (S ++ r).set id Y = bs.set id Y ++ r := fun r Y => by
          rw [← hS, setK_in (by simpa using hid), List.set_set]
        have hBid : ∀ Y r, (bs.set id Y ++ r)[id]? = some Y := fun Y r => setK_self hid r
        simp only [RB, abin, cmpInt, lenOf, boundOf, Nat.reduceEqDiff, ↓reduceIte, reduceCtorEq, DB4, hBid, show ¬ (l.length : Int) < (l.length : Int) by omega, aslice, lisFits, hSid, hSset, aop, show F.length ≤ l.length by omega, show F.length + (l.length - F.length) ≤ (F ++ ms).length by omega, List.length_map, List.length_append, show F.length + (l.length - F.length) ≤ F.length + ms.length by omega, ]
        refine ⟨List.replicate (l.length - F.length) zerT, [Blk.lst 0 0 53 21 []], ?_⟩
        rw [hF, show F.length + (l.length - F.length) = ((F ++ ms).map rtv).length by simp; omega, List.drop_length, List.append_nil, List.map_append, List.map_append, List.map_replicate, show F.length = (F.map rtv).length by simp, List.take_left]
    · simp only [eF, List.length_take, Nat.min_eq_left (Nat.le_of_lt hi1)]
    · simp only [eF]
      rw [show l.take i0 ++ [l[i0]] ++ l.drop (i0 + 1) = l by rw [List.append_assoc, List.singleton_append, ← List.drop_eq_getElem_cons hi1, List.take_append_drop], hself]
theorem r63 {bs : List Blk} {i lk e : Nat} {s : Int} (h : bs[i]? = some (.box lk e [.int .i64 s])) : PredG E rtv 63 [.ptr i 0 0 0] (fun x => decide (x.src ≠ s)) bs := fun ys pend ext x => by
  have g : ∀ r, (bs ++ r)[i]? = some (.box lk e [.int .i64 s]) := fun r => get_lt h
  refine ⟨[.box 0 53 (rtv x)], ?_⟩
  rw [LR_R (fn := f63) rfl rfl rfl]
  by_cases h1 : x.src = s
  · subst h1
    simp only [f63, RB, faddrV, abin, cmpInt, params, growLists, newAt, rdPtr, AV.cells, asVal, Nat.reduceEqDiff, ↓reduceIte, reduceCtorEq, DB4, R7B, List.append_assoc, List.length_append, g, bne_self_eq_false]
  · have z : (x.src != s) = true := by rw [bne_iff_ne]; exact h1
    simp only [f63, RB, faddrV, abin, cmpInt, params, growLists, newAt, rdPtr, AV.cells, asVal, Nat.reduceEqDiff, ↓reduceIte, reduceCtorEq, DB4, R7B, List.append_assoc, List.length_append, g, z, h1]
theorem r64 {bs : List Blk} {i lk e : Nat} {s : Int} (h : bs[i]? = some (.box lk e [.int .i64 s])) : PredG E rtv 64 [.ptr i 0 0 0] (fun x => decide (x.src = s)) bs := fun ys pend ext x => by
  have g : ∀ r, (bs ++ r)[i]? = some (.box lk e [.int .i64 s]) := fun r => get_lt h
  refine ⟨[.box 0 53 (rtv x)], ?_⟩
  rw [LR_R (fn := f64) rfl rfl rfl]
  by_cases h1 : x.src = s
  · subst h1
    simp only [f64, RB, faddrV, abin, cmpInt, params, growLists, newAt, rdPtr, AV.cells, asVal, Nat.reduceEqDiff, ↓reduceIte, reduceCtorEq, DB4, R7B, List.append_assoc, List.length_append, g]
  · have z : (x.src == s) = false := by rw [beq_eq_false_iff_ne]; exact h1
    simp only [f64, RB, faddrV, abin, cmpInt, params, growLists, newAt, rdPtr, AV.cells, asVal, Nat.reduceEqDiff, ↓reduceIte, reduceCtorEq, DB4, R7B, List.append_assoc, List.length_append, g, z, h1]
end Go.Proofs.YtgajekpigkknnaaDoor.F
namespace Go.Proofs.YtgajekpigkknnaaDoor.D
open Go Go.Proofs.YtgajekpigkknnaaDoor.A
def mixL (a b : List Rt) (s : Int) : List Rt := (a.filter fun x => decide (x.src ≠ s)) ++ (b.filter fun x => decide (x.src = s))
def mixS (a b : List Rt) (s : Int) : List Rt := sortL cmpR (mixL a b s)
theorem filt_not (a : List Rt) (s : Int) : (a.filter fun x => !decide (x.src = s)) = a.filter fun x => decide (x.src ≠ s) := by
  congr 1; funext x; simp
theorem filt_not2 (a : List Rt) (s : Int) : (a.filter fun x => !decide (x.src ≠ s)) = a.filter fun x => decide (x.src = s) := by
  congr 1; funext x; simp
end Go.Proofs.YtgajekpigkknnaaDoor.D
namespace Go.Proofs.YtgajekpigkknnaaDoor.F
open Go Go.Proofs.YtgajekpigkknnaaDoor.A Go.Proofs.YtgajekpigkknnaaDoor.D
theorem trows_scalar (l : List Rt) : ((trows l).all fun r => r.all scalar1) = true := by
  rw [List.all_eq_true]; intro r hr
  obtain ⟨p, _, rfl⟩ := List.mem_map.1 hr
  simp [rtv, pav, bav, u8c, scalar1]
theorem fr66 {bs : List Blk} {pend : List (Option AExit)} {id n : Nat} {l : List Rt} {P : Rt → Bool} {g : FuncId} {caps : List AV} (B : List Blk) (hB : (bs.map lockQ).set id (.lst 0 0 53 21 (trows l)) = B) (hl : l.length ≤ 1000000) (hn : l.length = n) (h : bs[id]? = some (.lst 0 0 53 21 (trows l)))
    (hp : ∀ Y, PredG E rtv g caps P (B.set id (.lst 0 0 53 21 Y))) (hlow : belowAll B.length B = true) (hc : belowL B.length caps = true) :
    ∃ z : List Rt, frameR (LR E []) [] 66 [.lis id 0 0 n, .clo g caps] ⟨bs, pend⟩ = some (.ro (trows (l.filter fun x => !P x)), ⟨bs.set id (.lst 2 0 53 21 (trows ((l.filter fun x => !P x) ++ z))), pend⟩) := by
  have hid := (List.getElem?_eq_some_iff.1 h).1
  have hBl : B.length = bs.length := by rw [← hB]; simp
  obtain ⟨z, r, h1⟩ := r66 (ys := []) (pend := []) (bs := B) (id := id) (gen := 0) (n := n) (l := l) (P := P) (g := g) (caps := caps) hl hn (by rw [← hB]; exact List.getElem?_set_self (by simpa using hid)) hp hlow hc
  have h2 := frameR_lis (hp := ⟨bs, pend⟩) h (by simp only [hB]; exact h1) (setK_self (by rw [hBl]; exact hid) r) (trows_scalar _) (by rw [Nat.zero_add]; show _ ≤ (trows _).length; rw [trows_len, List.length_append]; omega)
  refine ⟨z, ?_⟩
  rw [h2, List.drop_zero]
  congr 3
  show (trows _).take _ = _
  rw [trows_take, List.take_left]
set_option maxHeartbeats 1000000 in
theorem e44 (a b : List Rt) (s : Int) (ha : a.length ≤ 1000000) (hb : b.length ≤ 1000000) (hs : SortD okR cmpR (mixL a b s)) : LV E 44 [.agg [.ro (trows a)], .agg [.ro (trows b)], .int .i64 s] = some (.agg [.fresh 53 21 (trows (mixS a b s))]) := by
  rw [LV_R (fn := f44) rfl rfl rfl]
  have h36a := e36 a ha
  have h36b := e36 b hb
  obtain ⟨z1, h1⟩ := fr66 (bs := [.box 0 46 [.ro (trows a)], .box 0 46 [.ro (trows b)], .box 0 3 [.int .i64 s], .box 0 46 [.lis 4 0 0 0], .lst 0 0 53 21 [], .lst 0 0 53 21 (trows a), .dead, .dead]) (pend := []) (id := 5) (l := a) (P := fun x => decide (x.src = s)) (g := 64) (caps := [.ptr 2 0 0 0]) _ rfl ha rfl rfl (fun Y => r64 rfl) (by simp [LPB, lockQ]) (by simp [LPB, lockQ])
  rw [filt_not] at h1
  simp only [List.set_cons_succ, List.set_cons_zero] at h1
  obtain ⟨z2, h2⟩ := fr66 (bs := [.box 0 46 [.ro (trows a)], .box 0 46 [.ro (trows b)], .box 0 3 [.int .i64 s], .box 0 46 [.lis 4 0 0 0], .lst 0 0 53 21 [], .lst 2 0 53 21 (trows ((a.filter fun x => decide (x.src ≠ s)) ++ z1)), .lst 0 0 53 21 (trows b), .dead]) (pend := []) (id := 6) (l := b) (P := fun x => decide (x.src ≠ s)) (g := 63) (caps := [.ptr 2 0 0 0]) _ rfl hb rfl rfl (fun Y => r63 rfl) (by simp [LPB, lockQ]) (by simp [LPB, lockQ])
  rw [filt_not2] at h2
  simp only [List.set_cons_succ, List.set_cons_zero] at h2
  have h65 := e65 [a.filter fun x => decide (x.src ≠ s), b.filter fun x => decide (x.src = s)] (by simp) (by
    have h1 := List.length_filter_le (fun x : Rt => decide (x.src ≠ s)) a
    have h2 := List.length_filter_le (fun x : Rt => decide (x.src = s)) b
    simp only [List.flatten_cons, List.flatten_nil, List.append_nil, List.length_append]; omega)
  have eY : yrows [a.filter fun x => decide (x.src ≠ s), b.filter fun x => decide (x.src = s)] = [[.ro (trows (a.filter fun x => decide (x.src ≠ s)))], [.ro (trows (b.filter fun x => decide (x.src = s)))]] := rfl
  have eF : [a.filter fun x => decide (x.src ≠ s), b.filter fun x => decide (x.src = s)].flatten = mixL a b s := by simp [mixL]
  rw [eY, eF] at h65
  clear eY eF
  generalize hF1 : (a.filter fun x => decide (x.src ≠ s)) = F1 at *
  generalize hF2 : (b.filter fun x => decide (x.src = s)) = F2 at *
  have hsort := sortD_call (E := E) (ys := []) (pend := []) (f := 67) (g := 68) (enc := rtv) (ok := okR) (cf := cmpR) (e := 53) (k := 21) rfl rtv_inj (bs := [.box 0 46 [.ro (trows a)], .box 0 46 [.ro (trows b)], .box 0 3 [.int .i64 s], .box 0 46 [.lis 4 0 0 0], .lst 0 0 53 21 [], .lst 2 0 53 21 (trows (F1 ++ z1)), .lst 2 0 53 21 (trows (F2 ++ z2)), .lst 0 0 53 21 (trows (mixL a b s))]) (id := 7) (gn := 0) (len := (mixL a b s).length) (xs := mixL a b s) rfl rfl (by
    have h1 := List.length_filter_le (fun x : Rt => decide (x.src ≠ s)) a
    have h2 := List.length_filter_le (fun x : Rt => decide (x.src = s)) b
    unfold mixL; rw [List.length_append]; omega) hs
  have hml : (sortL cmpR (mixL a b s)).length = (mixL a b s).length := sortL_len _ _
  have hma := trows_all (sortL cmpR (mixL a b s))
  rw [hml] at hma
  unfold mixS
  rw [show List.map rtv (sortL cmpR (mixL a b s)) = trows (sortL cmpR (mixL a b s)) from rfl] at hsort
  simp only [f44, RB, faddrV, cloV, params, growLists, fillCells, newAt, rdPtr, wrPtr, AV.cells, asVal, rowsOf, argIds, AV.isData, AV.isYld, Nat.reduceAdd, Nat.reduceEqDiff, Nat.reduceLT, ↓reduceIte, reduceCtorEq, DB4, R7B, shrink_lit, LPB, fillRows, asData, pairOk, AV.ids, List.contains_cons, List.contains_nil, Nat.reduceBEq, Bool.or_self, rowsOf, h36a, h36b, h1, h2, h65, hsort, expRes_aggm, hma, hml, Nat.le_refl, expCell, List.nodup_cons, List.nodup_nil, List.not_mem_nil, and_false, mutIds]
  done
end Go.Proofs.YtgajekpigkknnaaDoor.F

/- A RIB mixed with another one by a source, checked. No condition. -/
set_option linter.unusedSimpArgs false
set_option maxRecDepth 20000
namespace Go.Proofs.YtgajekpigkknnaaDoor.D
open Go Go.Proofs.YtgajekpigkknnaaDoor.A
theorem RibP.pair {l : List Rt} (h : RibP l) : l.Pairwise Ahead := sort_pair.1 h.sort
theorem RibP.fits {l : List Rt} (h : RibP l) : ∀ x ∈ l, FitsP x := fun x hx => by
  obtain ⟨j, hj, rfl⟩ := List.mem_iff_getElem.1 hx
  have := (h.2.1 j hj).1
  rwa [tow_eq l hj] at this
theorem key_uniq {l : List Rt} (h : l.Pairwise Ahead) : ∀ {x y : Rt}, x ∈ l → y ∈ l → KeyEq x y → x = y := by
  induction l with
  | nil => intro x y hx; simp at hx
  | cons a l ih =>
    intro x y hx hy hk
    obtain ⟨h1, h2⟩ := List.pairwise_cons.1 h
    rcases List.mem_cons.1 hx with rfl | hx
    · rcases List.mem_cons.1 hy with rfl | hy
      · rfl
      · exact absurd (h1 y hy) (keyEq_irr hk)
    · rcases List.mem_cons.1 hy with he | hy
      · exact absurd (he ▸ h1 x hx) (keyEq_irr' hk)
      · exact ih h2 hx hy hk
theorem cmpR_key {a b : Rt} (h : cmpR a b = 0) : KeyEq a b := by
  unfold cmpR at h
  by_cases h0 : cmpP a.p b.p = 0
  · rw [if_neg (by simpa using h0)] at h
    exact ⟨cmp_zero h0, by omega⟩
  · rw [if_pos h0] at h; exact absurd h h0
theorem fits_ok {x : Rt} (h : FitsP x) : okR x := by
  unfold FitsP at h; unfold okR; omega
theorem mix_sortD {a b : List Rt} (ha : RibP a) (hb : RibP b) (s : Int) : SortD okR cmpR (mixL a b s) := by
  have hm : ∀ x ∈ mixL a b s, (x ∈ a ∧ x.src ≠ s) ∨ (x ∈ b ∧ x.src = s) := fun x hx => by
    unfold mixL at hx
    rcases List.mem_append.1 hx with h | h
    · obtain ⟨h1, h2⟩ := List.mem_filter.1 h
      exact .inl ⟨h1, of_decide_eq_true h2⟩
    · obtain ⟨h1, h2⟩ := List.mem_filter.1 h
      exact .inr ⟨h1, of_decide_eq_true h2⟩
  refine ⟨fun x hx => ?_, fun x hx y hy h => ?_⟩
  · rcases hm x hx with h | h
    · exact fits_ok (ha.fits x h.1)
    · exact fits_ok (hb.fits x h.1)
  · have hk := cmpR_key h
    rcases hm x hx with h1 | h1
    · rcases hm y hy with h2 | h2
      · exact key_uniq ha.pair h1.1 h2.1 hk
      · exact absurd (hk.2.trans h2.2) h1.2
    · rcases hm y hy with h2 | h2
      · exact absurd (hk.2.symm.trans h1.2) h2.2
      · exact key_uniq hb.pair h1.1 h2.1 hk
theorem mixS_len (a b : List Rt) (s : Int) : (mixS a b s).length ≤ a.length + b.length := by
  unfold mixS; rw [sortL_len]; unfold mixL; rw [List.length_append]
  have h1 := List.length_filter_le (fun x : Rt => decide (x.src ≠ s)) a
  have h2 := List.length_filter_le (fun x : Rt => decide (x.src = s)) b
  omega
theorem rightS_zero {a b : List Rt} {s least : Int} (h : rightS a b s least = 0) : RibP a ∧ RibP b ∧ least ≤ s ∧ s ≤ 4 := by
  unfold rightS at h
  split at h
  · rename_i h1
    split at h
    · rename_i h2
      split at h
      · cases h
      · exact ⟨h1, h2, by omega, by omega⟩
    · cases h
  · cases h
/-- A RIB mixed, or why not. -/
def mixR (a b : List Rt) (s : Int) : List Rt × Int := if rightS a b s 1 ≠ 0 then ([], rightS a b s 1) else if RibP (mixS a b s) then (mixS a b s, 0) else ([], 6)
end Go.Proofs.YtgajekpigkknnaaDoor.D
namespace Go.Proofs.YtgajekpigkknnaaDoor.F
open Go Go.Proofs.YtgajekpigkknnaaDoor.A Go.Proofs.YtgajekpigkknnaaDoor.D
theorem take_agg1 {s : Nat} {e : TypeId} {k : Nat} {rows : List (List AV)} {bs : List Blk} : takeRes true s (.agg [.fresh e k rows]) bs = (takeL true s [.fresh e k rows] bs).map fun r => (.agg r.1, r.2) := rfl
set_option maxHeartbeats 1000000 in
theorem e24 (a b : List Rt) (s : Int) (ha : a.length ≤ 1000000) (hb : b.length ≤ 1000000) : LV E 24 [.agg [.ro (trows a)], .agg [.ro (trows b)], .int .i64 s] = some (.tup [.agg [.ro (trows (mixR a b s).1)], .int .i64 (mixR a b s).2]) := by
  rw [LV_R (fn := f24) rfl rfl rfl]
  have h41 := e41 a b s 1 (by omega) (by omega)
  unfold mixR
  by_cases h0 : rightS a b s 1 = 0
  · obtain ⟨hA, hB, h1, h2⟩ := rightS_zero h0
    rw [if_neg (by simpa using h0)]
    have h44 := e44 a b s ha hb (mix_sortD hA hB s)
    have hl := mixS_len a b s
    have h30 := e30 (mixS a b s) (by omega)
    generalize mixS a b s = m at *
    rw [h0] at h41
    by_cases hR : RibP m
    · rw [if_pos hR] at h30 ⊢
      simp only [f24, RB, abin, cmpInt, params, growLists, newAt, rdPtr, wrPtr, AV.cells, asVal, rowsOf, argIds, scalar1, AV.isData, Nat.reduceAdd, Nat.reduceEqDiff, ↓reduceIte, reduceCtorEq, DB4, R7B, h41, h44, h30, take_agg1, bne_self_eq_false, snap, snapCell, rowsOf, CW_some, scalar, scalar1, reduceCtorEq, expIn_tabT, expCell, List.nodup_cons, List.nodup_nil, List.not_mem_nil, and_false, mutIds, Nat.le_refl, List.take_length]
      done
    · rw [if_neg hR] at h30 ⊢
      simp only [f24, RB, abin, cmpInt, params, growLists, fillCells, newAt, rdPtr, wrPtr, AV.cells, asVal, rowsOf, argIds, scalar1, AV.isData, Nat.reduceAdd, Nat.reduceEqDiff, ↓reduceIte, reduceCtorEq, DB4, R7B, h41, h44, h30, take_agg1, bne_self_eq_false, show ((211 : Int) != 0) = true from rfl, snap, snapCell, rowsOf, CW_some, scalar, scalar1, reduceCtorEq, expIn_tabT, expCell, List.nodup_cons, List.nodup_nil, List.not_mem_nil, and_false, mutIds, Nat.le_refl, List.take_length]
      rfl
  · rw [if_pos h0]
    have z : (rightS a b s 1 != 0) = true := by rw [bne_iff_ne]; exact h0
    simp only [f24, RB, abin, cmpInt, params, growLists, fillCells, newAt, rdPtr, wrPtr, AV.cells, asVal, rowsOf, argIds, scalar1, AV.isData, Nat.reduceAdd, Nat.reduceEqDiff, ↓reduceIte, reduceCtorEq, h41, z, CW_some, scalar, scalar1, reduceCtorEq, expIn_tabT, expCell, List.nodup_cons, List.nodup_nil, List.not_mem_nil, and_false, mutIds, Nat.le_refl]
    rfl
end Go.Proofs.YtgajekpigkknnaaDoor.F

/- The routes of a RIB of which another one has none that is such, told in turn. No condition. -/
set_option linter.unusedSimpArgs false
set_option maxRecDepth 20000
namespace Go.Proofs.YtgajekpigkknnaaDoor.D
open Go Go.Proofs.YtgajekpigkknnaaDoor.A
/-- A row has one of this key, and it is such. -/
def hasK (B : List Rt) (σ : Rt → Rt → Bool) (x : Rt) : Bool := B.any fun y => decide (KeyEq y x) && σ x y
def butS (A B : List Rt) (σ : Rt → Rt → Bool) : List Rt := A.filter fun x => !(hasK B σ x)
theorem hasK_at {B : List Rt} {σ : Rt → Rt → Bool} {x : Rt} {i : Nat} (hs : SortR B) (hlo : LoR B x i) (hhi : HiR B x i) : hasK B σ x = (decide (i < B.length ∧ KeyEq (tow B i) x) && σ x (tow B i)) := by
  unfold hasK
  rw [Bool.eq_iff_iff, List.any_eq_true, Bool.and_eq_true, decide_eq_true_eq]
  constructor
  · rintro ⟨y, hy, h⟩
    rw [Bool.and_eq_true, decide_eq_true_eq] at h
    obtain ⟨h1, h2⟩ := h
    have ht := there_iff hs hlo hhi
    have : thereB B x = true := List.any_eq_true.2 ⟨y, hy, decide_eq_true h1⟩
    rw [this] at ht
    have h3 := of_decide_eq_true ht.symm
    have h4 : y = tow B i := key_uniq (sort_pair.1 hs) hy (by rw [tow_eq B h3.1]; exact List.getElem_mem _) ⟨h1.1.trans h3.2.1.symm, h1.2.trans h3.2.2.symm⟩
    exact ⟨h3, h4 ▸ h2⟩
  · rintro ⟨h1, h2⟩
    exact ⟨tow B i, by rw [tow_eq B h1.1]; exact List.getElem_mem _, by rw [Bool.and_eq_true, decide_eq_true_eq]; exact ⟨h1.2, h2⟩⟩
theorem but_next {A B : List Rt} {σ : Rt → Rt → Bool} {k : Nat} (h : k < A.length) : butS (A.take (k + 1)) B σ = butS (A.take k) B σ ++ (if hasK B σ A[k] = true then [] else [A[k]]) := by
  unfold butS
  rw [List.take_add_one, List.getElem?_eq_getElem h, Option.toList_some, List.filter_append]
  congr 1
  cases hK : hasK B σ A[k] <;> simp [hK]
theorem but_len (A B : List Rt) (σ : Rt → Rt → Bool) : (butS A B σ).length ≤ A.length := List.length_filter_le _ _
end Go.Proofs.YtgajekpigkknnaaDoor.D
namespace Go.Proofs.YtgajekpigkknnaaDoor.F
open Go Go.Proofs.YtgajekpigkknnaaDoor.A Go.Proofs.YtgajekpigkknnaaDoor.D
/-- Somebody who takes all that is told. -/
structure HndG {α : Type} (enc : α → List AV) (h : Hd) (S : List α → List Blk) (m N : Nat) (pd : List (Option AExit)) : Prop where
  len : ∀ s, (S s).length = m
  low : ∀ s, belowAll m (S s) = true
  hd : ∀ s p ext, s.length < N → belowAll (m + ext.length) ext = true → h [.agg (enc p)] ⟨S s ++ ext, pd⟩ = some (true, ⟨S (s ++ [p]) ++ ext, pd⟩)
/-- Whether two routes are such, as a call. -/
def SuchC (g : FuncId) (σ : Rt → Rt → Bool) : Prop := E.prim g = none ∧ ∀ ys pend bs x y, ∃ e, LR E ys g [.agg (rtv x), .agg (rtv y)] ⟨bs, pend⟩ = some (.bool (σ x y), ⟨bs ++ e, pend⟩)
theorem r59 : SuchC 59 fun _ _ => true := ⟨rfl, fun ys pend bs x y => by
  refine ⟨[.box 0 53 (rtv x), .box 0 53 (rtv y)], ?_⟩
  rw [LR_R (fn := f59) rfl rfl rfl]
  simp only [f59, RB, params, growLists, newAt, AV.cells, Nat.reduceAdd, Nat.reduceEqDiff, ↓reduceIte, reduceCtorEq, DB4, R7B, List.length_append]⟩
theorem r61 : SuchC 61 fun x y => decide (x = y) := ⟨rfl, fun ys pend bs x y => by
  refine ⟨[.box 0 53 (rtv x), .box 0 53 (rtv y)], ?_⟩
  rw [LR_R (fn := f61) rfl rfl rfl]
  simp only [f61, RB, eqaggV, params, growLists, newAt, rdPtr, AV.cells, asVal, Nat.reduceAdd, Nat.reduceEqDiff, ↓reduceIte, reduceCtorEq, DB4, R7B, List.length_append]⟩
theorem r58 {ys : List Hd} {pend : List (Option AExit)} (bs : List Blk) (A B : List Rt) (g : FuncId) : LR E ys 58 [.agg [.ro (trows A)], .agg [.ro (trows B)], .clo g []] ⟨bs, pend⟩ = some (.clo 83 [.ptr bs.length 0 0 0, .ptr (bs.length + 1) 0 0 0, .ptr (bs.length + 2) 0 0 0], ⟨bs ++ [.box 0 46 [.ro (trows A)], .box 0 46 [.ro (trows B)], .box 0 81 [.clo g []]], pend⟩) := by
  rw [LR_R (fn := f58) rfl rfl rfl]
  simp only [f58, RB, cloV, params, growLists, newAt, AV.cells, AV.isYld, Nat.reduceAdd, Nat.reduceEqDiff, ↓reduceIte, reduceCtorEq, R7B, List.length_append]
theorem low_boxR {m : Nat} (p : Rt) : belowAll (m + 1) [.box 0 53 (rtv p)] = true := by simp [LPB, rtv_below]
set_option maxHeartbeats 1000000 in
theorem r83 {a b c la lb lc ea eb ec : Nat} {A B : List Rt} {g : FuncId} {σ : Rt → Rt → Bool} (hA : A.length ≤ 1000000) (hB : B.length ≤ 1000000) (hAo : ∀ x ∈ A, okR x) (hBo : ∀ x ∈ B, okR x) (hs : SortR B) (hg : SuchC g σ)
    {h : Hd} {S : List Rt → List Blk} {m N : Nat} (ga : ∀ s r, (S s ++ r)[a]? = some (.box la ea [.ro (trows A)])) (gb : ∀ s r, (S s ++ r)[b]? = some (.box lb eb [.ro (trows B)])) (gc : ∀ s r, (S s ++ r)[c]? = some (.box lc ec [.clo g []])) {ys : List Hd} {pd : List (Option AExit)} {d : Nat} (hy : ys[d]? = some h) (H : HndG rtv h S m N pd) (hN : (butS A B σ).length ≤ N) :
    ∃ ext, LR E ys 83 [.yld d, .ptr a 0 0 0, .ptr b 0 0 0, .ptr c 0 0 0] ⟨S [], pd⟩ = some (.tup [], ⟨S (butS A B σ) ++ ext, pd⟩) := by
  have ga : ∀ s, (S s)[a]? = some (.box la ea [.ro (trows A)]) := fun s => by have := ga s []; rwa [List.append_nil] at this
  have hbm : b < m := by have := (List.getElem?_eq_some_iff.1 (gb [] [])).1; rw [List.append_nil, H.len] at this; exact this
  have hcm : c < m := by have := (List.getElem?_eq_some_iff.1 (gc [] [])).1; rw [List.append_nil, H.len] at this; exact this
  rw [LR_R (fn := f83) rfl rfl rfl]
  simp only [f83, ← rtv_zer, RB, faddrV, params, rdPtr, asVal, lenOf, Nat.reduceAdd, Nat.reduceEqDiff, ↓reduceIte, reduceCtorEq, DB4, ga, H.len]
  refine W_recP2 (ι := Nat) (Q := fun _ x => ∃ ext, x = some ((AV.tup [], ⟨S (butS A B σ) ++ ext, pd⟩) : AV × Hp))
    (M := fun k => [(0, .yld d), (2, .ptr b 0 0 0), (3, .ptr c 0 0 0), (10, .ro (trows A)), (11, .int .i64 (A.length : Int)), (12, .int .i64 (k : Int))]) (H := fun k => ⟨S (butS (A.take k) B σ), pd⟩) (μ := fun k => A.length - k) (fun k => ⟨?_, H.low _⟩) (fun k ih => ?_) 0 rfl rfl
  · simp only [List.map_cons, List.map_nil, LPB, hbm, hcm, decide_true, Bool.and_self]
  · by_cases hk : k < A.length
    · have f1 : (k : Int) < (A.length : Int) := by omega
      have f2 : (0 : Int) ≤ (k : Int) := by omega
      have f6 : IntKind.i64.wrap ((k : Int) + 1) = ((k + 1 : Nat) : Int) := by rw [IntWalk.i64_in _ (by omega)] <;> omega
      have g1 := trows_get A hk
      have en := but_next (B := B) (σ := σ) hk
      have hle : (butS (A.take (k + 1)) B σ).length ≤ (butS A B σ).length := by
        conv => rhs; rw [← List.take_append_drop (k + 1) A]
        unfold butS; rw [List.filter_append, List.length_append]; omega
      have hxo := hAo _ (List.getElem_mem hk)
      have ih := ih (k + 1) (by omega)
      rw [en] at ih hle
      generalize hxe : A[k] = x at *
      generalize butS (A.take k) B σ = s at *
      obtain ⟨e, i, i1, i2, i3, h51⟩ := r51 (ys := ys) (pend := pd) (bs := S s ++ [.box 0 53 (rtv x)]) (v := .ro (trows B)) r68 (fun p q => by rw [cmpR_lt]; rfl) cmpR_zero x hxo (fun j hj => hBo _ (by rw [tow_eq B hj]; exact List.getElem_mem _)) hB (SlV.ro (trows_k _)) hs (by rw [List.length_append, H.len, ball_app, belowAll_mono (by simp) (H.low s)]; exact low_boxR x)
      have hK := hasK_at (σ := σ) hs i2 i3
      have hsh : ∀ a, a.refsLt (m + 1) = true → shrink false (m + 1) a ⟨S s ++ [.box 0 53 (rtv x)] ++ e, pd⟩ = some ⟨S s ++ [.box 0 53 (rtv x)], pd⟩ := fun a ha => shrink_app (by rw [List.length_append, H.len]; rfl) ha (by rw [ball_app, belowAll_mono (by omega) (H.low s)]; exact low_boxR x)
      obtain ⟨e2, hsu⟩ := hg.2 ys pd (S s ++ [.box 0 53 (rtv x)]) x (tow B i)
      have hsh2 : shrink false (m + 1) (.bool (σ x (tow B i))) ⟨S s ++ [.box 0 53 (rtv x)] ++ e2, pd⟩ = some ⟨S s ++ [.box 0 53 (rtv x)], pd⟩ := shrink_app (by rw [List.length_append, H.len]; rfl) rfl (by rw [ball_app, belowAll_mono (by omega) (H.low s)]; exact low_boxR x)
      have hh := H.hd s x [.box 0 53 (rtv x)]
      rw [hK] at ih hle
      have i0 : (0 : Int) ≤ (i : Int) := by omega
      simp only [List.append_assoc, List.cons_append, List.nil_append] at h51 hsh hsu hsh2
      by_cases ht : i < B.length ∧ KeyEq (tow B i) x
      · rw [decide_eq_true ht, Bool.true_and] at ih hle
        rw [decide_eq_true ht] at h51
        have g2 := tow_get B ht.1
        cases hσ : σ x (tow B i) with
        | true =>
          rw [hσ] at ih hsu hsh2
          simp only [if_true, List.append_nil] at ih
          simp only [RB, pickV, notV, faddrV, iaddrV, extrV, abin, cmpInt, growLists, newAt, rdPtr, wrPtr, AV.cells, asVal, Nat.reduceEqDiff, ↓reduceIte, reduceCtorEq, DB4, R7B, List.length_append, f1, f2, f6, i0, g1, g2, gb, gc, H.len, h51, hsh, hsu, hsh2, LPB, take_at (H.len _)]
          exact ih
        | false =>
          rw [hσ] at ih hsu hsh2 hle
          simp only [Bool.false_eq_true, if_false] at ih hle
          have hh := hh (by rw [List.length_append] at hle; simp only [List.length_cons, List.length_nil] at hle; omega) (low_boxR x)
          simp only [RB, pickV, notV, faddrV, iaddrV, extrV, abin, cmpInt, growLists, newAt, rdPtr, wrPtr, AV.cells, asVal, AV.isYld, Nat.reduceEqDiff, Nat.reduceLT, ↓reduceIte, reduceCtorEq, DB4, R7B, List.length_append, f1, f2, f6, i0, g1, g2, gb, gc, H.len, h51, hsh, hsu, hsh2, LPB, CR_yld' hy, hh, take_at (H.len _)]
          exact ih
      · rw [decide_eq_false ht, Bool.false_and] at ih hle
        rw [decide_eq_false ht] at h51
        simp only [Bool.false_eq_true, if_false] at ih hle
        have hh := hh (by rw [List.length_append] at hle; simp only [List.length_cons, List.length_nil] at hle; omega) (low_boxR x)
        simp only [RB, pickV, notV, faddrV, iaddrV, extrV, abin, cmpInt, growLists, newAt, rdPtr, wrPtr, AV.cells, asVal, AV.isYld, Nat.reduceEqDiff, Nat.reduceLT, ↓reduceIte, reduceCtorEq, DB4, R7B, List.length_append, f1, f2, f6, g1, gb, H.len, h51, hsh, LPB, CR_yld' hy, hh, take_at (H.len _)]
        exact ih
    · have e0 : A.take k = A := List.take_of_length_le (by omega)
      simp only [RB, abin, cmpInt, Nat.reduceEqDiff, ↓reduceIte, reduceCtorEq, show ¬ (k : Int) < (A.length : Int) by omega, e0]
      exact ⟨[], by rw [List.append_nil]⟩
end Go.Proofs.YtgajekpigkknnaaDoor.F

/- What leads from a RIB to another one, told in turn. No condition. -/
set_option linter.unusedSimpArgs false
set_option maxRecDepth 20000
namespace Go.Proofs.YtgajekpigkknnaaDoor.D
open Go Go.Proofs.YtgajekpigkknnaaDoor.A
def gU (x : Rt) : Up := ⟨x.p, x.src, true, 0, 0⟩
def cU (x : Rt) : Up := ⟨x.p, x.src, false, x.pref, x.hop⟩
end Go.Proofs.YtgajekpigkknnaaDoor.D
namespace Go.Proofs.YtgajekpigkknnaaDoor.F
open Go Go.Proofs.YtgajekpigkknnaaDoor.A Go.Proofs.YtgajekpigkknnaaDoor.D
theorem g_at {α : Type} {l r : List α} {m : Nat} (h : l.length = m) : (l ++ r)[m]? = r[0]? := A.get_at h
theorem g_add {α : Type} {l r : List α} {m i : Nat} (h : l.length = m) : (l ++ r)[m + i]? = r[i]? := A.get_add h
theorem bindEx {α β γ : Type} {x : Option α} {F : α → Option β} {Q : Option β → Prop} {a : γ → α} (h : ∃ e, x = some (a e)) (h2 : ∀ e, Q (F (a e))) : Q (x.bind F) := by
  obtain ⟨e, rfl⟩ := h; exact h2 e
set_option maxHeartbeats 1000000 in
theorem r57 {a b la lb ea eb : Nat} {A B : List Rt} (hA : A.length ≤ 1000000) (hB : B.length ≤ 1000000) (hAo : ∀ x ∈ A, okR x) (hBo : ∀ x ∈ B, okR x) (hs : SortR B)
    {h : Hd} {S : List Up → List Blk} {m N : Nat} (ga : ∀ s r, (S s ++ r)[a]? = some (.box la ea [.ro (trows A)])) (gb : ∀ s r, (S s ++ r)[b]? = some (.box lb eb [.ro (trows B)])) (H : HndG upv h S m N [none]) {s0 : List Up} (hN : (s0 ++ (butS A B fun _ _ => true).map gU).length ≤ N) :
    ∃ ext, LR E [h] 57 [.yld 0, .ptr a 0 0 0, .ptr b 0 0 0] ⟨S s0, [none]⟩ = some (.tup [], ⟨S (s0 ++ (butS A B fun _ _ => true).map gU) ++ ext, [none]⟩) := by
  have ga0 : ∀ s, (S s)[a]? = some (.box la ea [.ro (trows A)]) := fun s => by have := ga s []; rwa [List.append_nil] at this
  have gb0 : ∀ s, (S s)[b]? = some (.box lb eb [.ro (trows B)]) := fun s => by have := gb s []; rwa [List.append_nil] at this
  have h58 := r58 (ys := [h]) (pend := [none]) (S s0) A B 59
  rw [H.len] at h58
  rw [LR_R (fn := f57) rfl rfl rfl]
  simp only [f57, ← rtv_zer, ← upv_zer, RB, params, rdPtr, asVal, Nat.reduceAdd, Nat.reduceEqDiff, ↓reduceIte, reduceCtorEq, R7B, H.len, ga0, gb0, h58]
  rw [R_range (g := 83) (by simp only [RB, ↓reduceIte]; rfl) rfl]
  simp only [RB, Nat.reduceAdd, List.length_append, H.len]
  refine bindEx (Q := fun y => ∃ ext, y = some ((AV.tup [], ⟨S (s0 ++ (butS A B fun _ _ => true).map gU) ++ ext, [none]⟩) : AV × Hp)) (a := fun e => ((AV.tup [], ⟨S (s0 ++ (butS A B fun _ _ => true).map gU) ++ [.box 0 46 [.ro (trows A)], .box 0 46 [.ro (trows B)], .box 0 81 [.clo 59 []]] ++ e, [none, none]⟩) : AV × Hp)) ?_ (fun e => ?_)
  · have h83 : ∀ h2, HndG rtv h2 (fun s => S (s0 ++ s.map gU) ++ [.box 0 46 [.ro (trows A)], .box 0 46 [.ro (trows B)], .box 0 81 [.clo 59 []]]) (m + 3) (butS A B fun _ _ => true).length [none, none] → ∃ e, LR E ([h] ++ [h2]) 83 [.yld 1, .ptr m 0 0 0, .ptr (m + 1) 0 0 0, .ptr (m + 2) 0 0 0] ⟨S s0 ++ [.box 0 46 [.ro (trows A)], .box 0 46 [.ro (trows B)], .box 0 81 [.clo 59 []]], [none] ++ [none]⟩ = some (.tup [], ⟨S (s0 ++ (butS A B fun _ _ => true).map gU) ++ [.box 0 46 [.ro (trows A)], .box 0 46 [.ro (trows B)], .box 0 81 [.clo 59 []]] ++ e, [none, none]⟩) := fun h2 H2 => by
      have := r83 (a := m) (b := m + 1) (c := m + 2) (la := 0) (lb := 0) (lc := 0) (ea := 46) (eb := 46) (ec := 81) (g := 59) (σ := fun _ _ => true) hA hB hAo hBo hs r59 (fun s r => by rw [List.append_assoc, g_at (H.len _)]; rfl) (fun s r => by rw [List.append_assoc, g_add (H.len _)]; rfl) (fun s r => by rw [List.append_assoc, g_add (H.len _)]; rfl) (ys := [h] ++ [h2]) (d := 1) rfl H2 (Nat.le_refl _)
      simp only [List.map_nil, List.append_nil] at this
      exact this
    refine h83 _ ⟨fun s => by rw [List.length_append, H.len]; rfl, fun s => ?_, fun s p ext hs he => ?_⟩
    · rw [ball_app, belowAll_mono (by omega) (H.low _)]; simp [LPB]
    · simp only [List.append_assoc, List.cons_append, List.nil_append]
      rw [handler_run rfl rfl]
      have hh := H.hd (s0 ++ s.map gU) (gU p) ([.box 0 46 [.ro (trows A)], .box 0 46 [.ro (trows B)], .box 0 81 [.clo 59 []]] ++ (ext ++ [.box 0 53 (rtv p)])) (by rw [List.length_append, List.length_map] at hN ⊢; omega) (by
        simp only [List.length_append, List.length_cons, List.length_nil]
        rw [ball_app, ball_app, belowAll_mono (by omega) he]; simp [LPB, rtv_below])
      simp only [List.cons_append, List.nil_append] at hh
      have eU : (⟨p.p, p.src, true, zerU.pref, zerU.hop⟩ : Up) = gU p := rfl
      have hsh : shrink false (m + (ext.length + 3)) .undef ⟨S (s0 ++ s.map gU ++ [gU p]) ++ (.box 0 46 [.ro (trows A)] :: .box 0 46 [.ro (trows B)] :: .box 0 81 [.clo 59 []] :: (ext ++ [.box 0 53 (rtv p)])), [none]⟩ = some ⟨S (s0 ++ s.map gU ++ [gU p]) ++ (.box 0 46 [.ro (trows A)] :: .box 0 46 [.ro (trows B)] :: .box 0 81 [.clo 59 []] :: ext), [none]⟩ := by
        rw [show S (s0 ++ s.map gU ++ [gU p]) ++ (.box 0 46 [.ro (trows A)] :: .box 0 46 [.ro (trows B)] :: .box 0 81 [.clo 59 []] :: (ext ++ [.box 0 53 (rtv p)])) = (S (s0 ++ s.map gU ++ [gU p]) ++ (.box 0 46 [.ro (trows A)] :: .box 0 46 [.ro (trows B)] :: .box 0 81 [.clo 59 []] :: ext)) ++ [.box 0 53 (rtv p)] by simp]
        refine shrink_app (by rw [List.length_append, H.len]; simp) rfl ?_
        rw [ball_app, belowAll_mono (by omega) (H.low _), ball_cons, ball_cons, ball_cons, belowAll_mono (by omega) he]; simp [LPB]
      simp only [RB, notV, faddrV, growLists, fillCells, newAt, rdPtr, wrPtr, AV.cells, asVal, setAll, AV.isYld, Nat.reduceAdd, Nat.reduceEqDiff, Nat.reduceLT, ↓reduceIte, DB, DB4, R7B, List.append_assoc, List.length_append, Nat.add_assoc, H.len, CR_yld' (show [h][0]? = some h from rfl), eU, hh]
      simp only [← List.append_assoc, hsh, List.map_append, List.map_cons, List.map_nil]
      rfl
  · have hsh : shrink false (m + 3) .undef ⟨S (s0 ++ (butS A B fun _ _ => true).map gU) ++ [.box 0 46 [.ro (trows A)], .box 0 46 [.ro (trows B)], .box 0 81 [.clo 59 []]] ++ e, [none]⟩ = some ⟨S (s0 ++ (butS A B fun _ _ => true).map gU) ++ [.box 0 46 [.ro (trows A)], .box 0 46 [.ro (trows B)], .box 0 81 [.clo 59 []]], [none]⟩ := by
      refine shrink_app (by rw [List.length_append, H.len]; rfl) rfl ?_
      rw [ball_app, belowAll_mono (by omega) (H.low _)]; simp [LPB]
    simp only [List.getElem?_cons_zero, List.getElem?_cons_succ, List.take_succ_cons, List.take_zero, RG, hsh]
    simp only [RB]
    exact ⟨_, rfl⟩
set_option maxHeartbeats 1000000 in
theorem r60 {a b la lb ea eb : Nat} {A B : List Rt} (hA : A.length ≤ 1000000) (hB : B.length ≤ 1000000) (hAo : ∀ x ∈ A, okR x) (hBo : ∀ x ∈ B, okR x) (hs : SortR B)
    {h : Hd} {S : List Up → List Blk} {m N : Nat} (ga : ∀ s r, (S s ++ r)[a]? = some (.box la ea [.ro (trows A)])) (gb : ∀ s r, (S s ++ r)[b]? = some (.box lb eb [.ro (trows B)])) (H : HndG upv h S m N [none]) {s0 : List Up} (hN : (s0 ++ (butS A B fun x y => decide (x = y)).map cU).length ≤ N) :
    ∃ ext, LR E [h] 60 [.yld 0, .ptr a 0 0 0, .ptr b 0 0 0] ⟨S s0, [none]⟩ = some (.tup [], ⟨S (s0 ++ (butS A B fun x y => decide (x = y)).map cU) ++ ext, [none]⟩) := by
  have ga0 : ∀ s, (S s)[a]? = some (.box la ea [.ro (trows A)]) := fun s => by have := ga s []; rwa [List.append_nil] at this
  have gb0 : ∀ s, (S s)[b]? = some (.box lb eb [.ro (trows B)]) := fun s => by have := gb s []; rwa [List.append_nil] at this
  have h58 := r58 (ys := [h]) (pend := [none]) (S s0) A B 61
  rw [H.len] at h58
  rw [LR_R (fn := f60) rfl rfl rfl]
  simp only [f60, ← rtv_zer, ← upv_zer, RB, params, rdPtr, asVal, Nat.reduceAdd, Nat.reduceEqDiff, ↓reduceIte, reduceCtorEq, R7B, H.len, ga0, gb0, h58]
  rw [R_range (g := 83) (by simp only [RB, ↓reduceIte]; rfl) rfl]
  simp only [RB, Nat.reduceAdd, List.length_append, H.len]
  refine bindEx (Q := fun y => ∃ ext, y = some ((AV.tup [], ⟨S (s0 ++ (butS A B fun x y => decide (x = y)).map cU) ++ ext, [none]⟩) : AV × Hp)) (a := fun e => ((AV.tup [], ⟨S (s0 ++ (butS A B fun x y => decide (x = y)).map cU) ++ [.box 0 46 [.ro (trows A)], .box 0 46 [.ro (trows B)], .box 0 81 [.clo 61 []]] ++ e, [none, none]⟩) : AV × Hp)) ?_ (fun e => ?_)
  · have h83 : ∀ h2, HndG rtv h2 (fun s => S (s0 ++ s.map cU) ++ [.box 0 46 [.ro (trows A)], .box 0 46 [.ro (trows B)], .box 0 81 [.clo 61 []]]) (m + 3) (butS A B fun x y => decide (x = y)).length [none, none] → ∃ e, LR E ([h] ++ [h2]) 83 [.yld 1, .ptr m 0 0 0, .ptr (m + 1) 0 0 0, .ptr (m + 2) 0 0 0] ⟨S s0 ++ [.box 0 46 [.ro (trows A)], .box 0 46 [.ro (trows B)], .box 0 81 [.clo 61 []]], [none] ++ [none]⟩ = some (.tup [], ⟨S (s0 ++ (butS A B fun x y => decide (x = y)).map cU) ++ [.box 0 46 [.ro (trows A)], .box 0 46 [.ro (trows B)], .box 0 81 [.clo 61 []]] ++ e, [none, none]⟩) := fun h2 H2 => by
      have := r83 (a := m) (b := m + 1) (c := m + 2) (la := 0) (lb := 0) (lc := 0) (ea := 46) (eb := 46) (ec := 81) (g := 61) (σ := fun x y => decide (x = y)) hA hB hAo hBo hs r61 (fun s r => by rw [List.append_assoc, g_at (H.len _)]; rfl) (fun s r => by rw [List.append_assoc, g_add (H.len _)]; rfl) (fun s r => by rw [List.append_assoc, g_add (H.len _)]; rfl) (ys := [h] ++ [h2]) (d := 1) rfl H2 (Nat.le_refl _)
      simp only [List.map_nil, List.append_nil] at this
      exact this
    refine h83 _ ⟨fun s => by rw [List.length_append, H.len]; rfl, fun s => ?_, fun s p ext hs he => ?_⟩
    · rw [ball_app, belowAll_mono (by omega) (H.low _)]; simp [LPB]
    · simp only [List.append_assoc, List.cons_append, List.nil_append]
      rw [handler_run rfl rfl]
      have hh := H.hd (s0 ++ s.map cU) (cU p) ([.box 0 46 [.ro (trows A)], .box 0 46 [.ro (trows B)], .box 0 81 [.clo 61 []]] ++ (ext ++ [.box 0 53 (rtv p)])) (by rw [List.length_append, List.length_map] at hN ⊢; omega) (by
        simp only [List.length_append, List.length_cons, List.length_nil]
        rw [ball_app, ball_app, belowAll_mono (by omega) he]; simp [LPB, rtv_below])
      simp only [List.cons_append, List.nil_append] at hh
      have eU : (⟨p.p, p.src, zerU.gone, p.pref, p.hop⟩ : Up) = cU p := rfl
      have hsh : shrink false (m + (ext.length + 3)) .undef ⟨S (s0 ++ s.map cU ++ [cU p]) ++ (.box 0 46 [.ro (trows A)] :: .box 0 46 [.ro (trows B)] :: .box 0 81 [.clo 61 []] :: (ext ++ [.box 0 53 (rtv p)])), [none]⟩ = some ⟨S (s0 ++ s.map cU ++ [cU p]) ++ (.box 0 46 [.ro (trows A)] :: .box 0 46 [.ro (trows B)] :: .box 0 81 [.clo 61 []] :: ext), [none]⟩ := by
        rw [show S (s0 ++ s.map cU ++ [cU p]) ++ (.box 0 46 [.ro (trows A)] :: .box 0 46 [.ro (trows B)] :: .box 0 81 [.clo 61 []] :: (ext ++ [.box 0 53 (rtv p)])) = (S (s0 ++ s.map cU ++ [cU p]) ++ (.box 0 46 [.ro (trows A)] :: .box 0 46 [.ro (trows B)] :: .box 0 81 [.clo 61 []] :: ext)) ++ [.box 0 53 (rtv p)] by simp]
        refine shrink_app (by rw [List.length_append, H.len]; simp) rfl ?_
        rw [ball_app, belowAll_mono (by omega) (H.low _), ball_cons, ball_cons, ball_cons, belowAll_mono (by omega) he]; simp [LPB]
      simp only [RB, notV, faddrV, growLists, fillCells, newAt, rdPtr, wrPtr, AV.cells, asVal, setAll, AV.isYld, Nat.reduceAdd, Nat.reduceEqDiff, Nat.reduceLT, ↓reduceIte, DB, DB4, R7B, List.append_assoc, List.length_append, Nat.add_assoc, H.len, CR_yld' (show [h][0]? = some h from rfl), eU, hh]
      simp only [← List.append_assoc, hsh, List.map_append, List.map_cons, List.map_nil]
      rfl
  · have hsh : shrink false (m + 3) .undef ⟨S (s0 ++ (butS A B fun x y => decide (x = y)).map cU) ++ [.box 0 46 [.ro (trows A)], .box 0 46 [.ro (trows B)], .box 0 81 [.clo 61 []]] ++ e, [none]⟩ = some ⟨S (s0 ++ (butS A B fun x y => decide (x = y)).map cU) ++ [.box 0 46 [.ro (trows A)], .box 0 46 [.ro (trows B)], .box 0 81 [.clo 61 []]], [none]⟩ := by
      refine shrink_app (by rw [List.length_append, H.len]; rfl) rfl ?_
      rw [ball_app, belowAll_mono (by omega) (H.low _)]; simp [LPB]
    simp only [List.getElem?_cons_zero, List.getElem?_cons_succ, List.take_succ_cons, List.take_zero, RG, hsh]
    simp only [RB]
    exact ⟨_, rfl⟩
end Go.Proofs.YtgajekpigkknnaaDoor.F

/- What leads from a RIB to another one: the run. No condition. -/
set_option linter.unusedSimpArgs false
set_option maxRecDepth 20000
namespace Go.Proofs.YtgajekpigkknnaaDoor.D
open Go Go.Proofs.YtgajekpigkknnaaDoor.A
def filU (s : Int) (u : Up) : Bool := decide (s = 0 ∨ u.src = s)
def goneL (a b : List Rt) : List Up := (butS a b fun _ _ => true).map gU
def comeL (a b : List Rt) : List Up := (butS b a fun x y => decide (x = y)).map cU
def leadS (a b : List Rt) (s : Int) : List Up := (goneL a b ++ comeL a b).filter (filU s)
theorem lead_len (a b : List Rt) (s : Int) : (leadS a b s).length ≤ a.length + b.length := by
  unfold leadS
  refine Nat.le_trans (List.length_filter_le _ _) ?_
  rw [List.length_append]
  unfold goneL comeL
  rw [List.length_map, List.length_map]
  have h1 := but_len a b (fun _ _ => true)
  have h2 := but_len b a (fun x y => decide (x = y))
  omega
end Go.Proofs.YtgajekpigkknnaaDoor.D
namespace Go.Proofs.YtgajekpigkknnaaDoor.F
open Go Go.Proofs.YtgajekpigkknnaaDoor.A Go.Proofs.YtgajekpigkknnaaDoor.D
/-- The store while updates are told. -/
def rowH (a b : List Rt) (s : Int) (u : List Up) : List Blk := [.box 0 46 [.ro (trows a)], .box 0 46 [.ro (trows b)], .lst 0 0 42 22 [], .box 0 3 [.int .i64 s], .lst 0 0 42 22 [], .box 0 24 [.lis 6 (u.filter (filU s)).length 0 (u.filter (filU s)).length], .lst 0 (u.filter (filU s)).length 42 22 (vrows (u.filter (filU s)))]
theorem row_shrink {a b : List Rt} {s : Int} {n : Nat} {R : List (List AV)} {ext X : List Blk} (he : belowAll (7 + ext.length) ext = true) : shrink false (ext.length + 1 + 1 + 1 + 1 + 1 + 1 + 1) .undef ⟨.box 0 46 [.ro (trows a)] :: .box 0 46 [.ro (trows b)] :: .lst 0 0 42 22 [] :: .box 0 3 [.int .i64 s] :: .lst 0 0 42 22 [] :: .box 0 24 [.lis 6 n 0 n] :: .lst 0 n 42 22 R :: (ext ++ X), []⟩ = some ⟨.box 0 46 [.ro (trows a)] :: .box 0 46 [.ro (trows b)] :: .lst 0 0 42 22 [] :: .box 0 3 [.int .i64 s] :: .lst 0 0 42 22 [] :: .box 0 24 [.lis 6 n 0 n] :: .lst 0 n 42 22 R :: ext, []⟩ := by
  have h6 : 6 < ext.length + 1 + 1 + 1 + 1 + 1 + 1 + 1 := by omega
  have := shrink_app (pend := []) (a := .undef) (l := .box 0 46 [.ro (trows a)] :: .box 0 46 [.ro (trows b)] :: .lst 0 0 42 22 [] :: .box 0 3 [.int .i64 s] :: .lst 0 0 42 22 [] :: .box 0 24 [.lis 6 n 0 n] :: .lst 0 n 42 22 R :: ext) (r := X) (m := ext.length + 1 + 1 + 1 + 1 + 1 + 1 + 1) (by simp) rfl (by
    simp only [ball_cons]
    rw [belowAll_mono (by omega) he]; simp [LPB, h6])
  simpa only [List.cons_append] using this
set_option maxHeartbeats 1000000 in
theorem r62 (a b : List Rt) (s : Int) (hA : a.length ≤ 1000000) (hB : b.length ≤ 1000000) (hAo : ∀ x ∈ a, okR x) (hBo : ∀ x ∈ b, okR x) (hsa : SortR a) (hsb : SortR b) :
    LR E [] 62 [.int .i64 s, .refs [[.clo 57 [.ptr 0 0 0 0, .ptr 1 0 0 0]], [.clo 60 [.ptr 1 0 0 0, .ptr 0 0 0 0]]]] ⟨[.box 0 46 [.ro (trows a)], .box 0 46 [.ro (trows b)], .lst 0 0 42 22 []], []⟩ = some (.lis 6 (leadS a b s).length 0 (leadS a b s).length, ⟨rowH a b s (goneL a b ++ comeL a b), []⟩) := by
  have h57 : ∀ h, HndG upv h (rowH a b s) 7 2000000 [none] → ∃ e, LR E ([] ++ [h]) 57 [.yld 0, .ptr 0 0 0 0, .ptr 1 0 0 0] ⟨rowH a b s [], [] ++ [none]⟩ = some (.tup [], ⟨rowH a b s (goneL a b) ++ e, [none]⟩) := fun h H => by
    have := r57 (a := 0) (b := 1) (la := 0) (lb := 0) (ea := 46) (eb := 46) hA hB hAo hBo hsb (fun u r => rfl) (fun u r => rfl) H (s0 := []) (by
      have := but_len a b (fun _ _ => true)
      simp only [List.nil_append, List.length_map]; omega)
    exact this
  have h60 : ∀ h, HndG upv h (rowH a b s) 7 2000000 [none] → ∃ e, LR E ([] ++ [h]) 60 [.yld 0, .ptr 1 0 0 0, .ptr 0 0 0 0] ⟨rowH a b s (goneL a b), [] ++ [none]⟩ = some (.tup [], ⟨rowH a b s (goneL a b ++ comeL a b) ++ e, [none]⟩) := fun h H => by
    have := r60 (a := 1) (b := 0) (la := 0) (lb := 0) (ea := 46) (eb := 46) hB hA hBo hAo hsa (fun u r => rfl) (fun u r => rfl) H (s0 := goneL a b) (by
      have h1 := but_len a b (fun _ _ => true)
      have h2 := but_len b a (fun x y => decide (x = y))
      unfold goneL
      simp only [List.length_append, List.length_map]; omega)
    exact this
  rw [LR_R (fn := f62) rfl rfl rfl]
  simp only [f62, ← upv_zer, RB, params, growLists, newAt, AV.cells, lenOf, Nat.reduceAdd, Nat.reduceEqDiff, ↓reduceIte, reduceCtorEq]
  refine (W_rec2 (ι := {k : Nat // k ≤ 2}) (M := fun k => [(2, .ptr 3 0 0 0), (4, .lis 4 0 0 0), (5, .ptr 5 0 0 0), (9, .refs [[.clo 57 [.ptr 0 0 0 0, .ptr 1 0 0 0]], [.clo 60 [.ptr 1 0 0 0, .ptr 0 0 0 0]]]), (10, .int .i64 2), (11, .int .i64 (k.1 : Int))])
    (H := fun k => ⟨rowH a b s (if k.1 = 0 then [] else if k.1 = 1 then goneL a b else goneL a b ++ comeL a b), []⟩) (r := fun _ => some ((.lis 6 (leadS a b s).length 0 (leadS a b s).length, ⟨rowH a b s (goneL a b ++ comeL a b), []⟩) : AV × Hp)) (μ := fun k => 2 - k.1) (fun k => ?_) (fun k ih => ?_) ⟨0, Nat.zero_le _⟩ rfl rfl)
  · simp [LPB, rowH]
  · obtain ⟨k, hk⟩ := k
    simp only at ih ⊢
    match k, hk with
    | 0, _ =>
      have ih := ih ⟨1, by omega⟩ (by simp only; omega)
      simp only [if_true, Nat.one_ne_zero, if_false] at ih
      simp only [RB, iaddrV, abin, cmpInt, rdPtr, asVal, Nat.reduceAdd, Nat.reduceEqDiff, ↓reduceIte, Int.reduceLT, Int.reduceLE, Int.reduceToNat, rowH]
      rw [R_range (g := 57) (by simp only [RB, ↓reduceIte]; rfl) rfl]
      refine bindEx (Q := fun y => y = _) (a := fun e => ((AV.tup [], ⟨rowH a b s (goneL a b) ++ e, [none]⟩) : AV × Hp)) (h57 _ ⟨fun u => rfl, fun u => ?_, fun u p ext hs he => ?_⟩) (fun e => ?_)
      · simp [LPB, rowH]
      · rw [rowH, handler_run rfl rfl]
        have hf : (u.filter (filU s)).length ≤ u.length := List.length_filter_le _ _
        have f7 : ((u.filter (filU s)).length + 1) * 64 ≤ 140737488355328 := by omega
        have f8 : (u.filter (filU s)).length + 1 ≤ 4611686018427387904 := by omega
        have tF : (vrows (u.filter (filU s))).take (u.filter (filU s)).length = vrows (u.filter (filU s)) := vrows_all _
        by_cases hp : s = 0 ∨ p.src = s
        · have e1 : (u ++ [p]).filter (filU s) = u.filter (filU s) ++ [p] := by
            rw [List.filter_append, List.filter_cons_of_pos (by unfold filU; exact decide_eq_true hp)]; rfl
          simp only [rowH, e1, List.length_append, List.length_cons, List.length_nil, Nat.zero_add]
          generalize u.filter (filU s) = F at *
          by_cases h0 : s = 0
          · subst h0
            simp only [RB, pickV, abin, cmpInt, growLists, newAt, rdPtr, wrPtr, AV.cells, asVal, rowsOf, setAll, Nat.reduceEqDiff, Nat.reduceLT, ↓reduceIte, DB4, R7B, O_buildSlq, quietOk, aop_buildSl, fillRows, asData, aappend, List.append_assoc, f7, f8, tF, Nat.le_refl, row_shrink he]
          · have z : (s == 0) = false := by rw [beq_eq_false_iff_ne]; exact h0
            have z2 : (p.src == s) = true := by rw [beq_iff_eq]; exact hp.resolve_left h0
            simp only [RB, pickV, faddrV, abin, cmpInt, growLists, newAt, rdPtr, wrPtr, AV.cells, asVal, rowsOf, setAll, Nat.reduceEqDiff, Nat.reduceLT, ↓reduceIte, DB4, R7B, O_buildSlq, quietOk, aop_buildSl, fillRows, asData, aappend, List.append_assoc, z, z2, f7, f8, tF, Nat.le_refl, row_shrink he]
        · have e1 : (u ++ [p]).filter (filU s) = u.filter (filU s) := by
            rw [List.filter_append, List.filter_cons_of_neg (by unfold filU; simpa using hp)]; simp
          simp only [rowH, e1]
          generalize u.filter (filU s) = F at *
          have z : (s == 0) = false := by rw [beq_eq_false_iff_ne]; exact fun h => hp (.inl h)
          have z2 : (p.src == s) = false := by rw [beq_eq_false_iff_ne]; exact fun h => hp (.inr h)
          simp only [RB, pickV, faddrV, abin, cmpInt, growLists, newAt, rdPtr, wrPtr, AV.cells, asVal, setAll, Nat.reduceEqDiff, ↓reduceIte, DB4, R7B, z, z2, row_shrink he]
      · have h6 : ∀ k : Nat, shrink false 7 .undef ⟨rowH a b s (goneL a b) ++ e, []⟩ = some ⟨rowH a b s (goneL a b), []⟩ := fun _ => shrink_app rfl rfl (by simp [LPB, rowH])
        simp only [List.length_cons, List.length_nil, Nat.zero_add, List.getElem?_cons_zero, List.take_zero, RG, h6 0]
        simp only [RB, abin, Nat.reduceEqDiff, Int.reduceNeg, ↓reduceIte, Int.reduceLE]
        exact ih
    | 1, _ =>
      have ih := ih ⟨2, by omega⟩ (by simp only; omega)
      simp only [show ¬ (2 : Nat) = 0 from by decide, show ¬ (2 : Nat) = 1 from by decide, if_false] at ih
      simp only [RB, iaddrV, abin, cmpInt, rdPtr, asVal, Nat.reduceAdd, Nat.reduceEqDiff, ↓reduceIte, reduceCtorEq, Int.reduceLT, Int.reduceLE, Int.reduceToNat, rowH]
      rw [R_range (g := 60) (by simp only [RB, ↓reduceIte]; rfl) rfl]
      refine bindEx (Q := fun y => y = _) (a := fun e => ((AV.tup [], ⟨rowH a b s (goneL a b ++ comeL a b) ++ e, [none]⟩) : AV × Hp)) (h60 _ ⟨fun u => rfl, fun u => ?_, fun u p ext hs he => ?_⟩) (fun e => ?_)
      · simp [LPB, rowH]
      · rw [rowH, handler_run rfl rfl]
        have hf : (u.filter (filU s)).length ≤ u.length := List.length_filter_le _ _
        have f7 : ((u.filter (filU s)).length + 1) * 64 ≤ 140737488355328 := by omega
        have f8 : (u.filter (filU s)).length + 1 ≤ 4611686018427387904 := by omega
        have tF : (vrows (u.filter (filU s))).take (u.filter (filU s)).length = vrows (u.filter (filU s)) := vrows_all _
        by_cases hp : s = 0 ∨ p.src = s
        · have e1 : (u ++ [p]).filter (filU s) = u.filter (filU s) ++ [p] := by
            rw [List.filter_append, List.filter_cons_of_pos (by unfold filU; exact decide_eq_true hp)]; rfl
          simp only [rowH, e1, List.length_append, List.length_cons, List.length_nil, Nat.zero_add]
          generalize u.filter (filU s) = F at *
          by_cases h0 : s = 0
          · subst h0
            simp only [RB, pickV, abin, cmpInt, growLists, newAt, rdPtr, wrPtr, AV.cells, asVal, rowsOf, setAll, Nat.reduceEqDiff, Nat.reduceLT, ↓reduceIte, DB4, R7B, O_buildSlq, quietOk, aop_buildSl, fillRows, asData, aappend, List.append_assoc, f7, f8, tF, Nat.le_refl, row_shrink he]
          · have z : (s == 0) = false := by rw [beq_eq_false_iff_ne]; exact h0
            have z2 : (p.src == s) = true := by rw [beq_iff_eq]; exact hp.resolve_left h0
            simp only [RB, pickV, faddrV, abin, cmpInt, growLists, newAt, rdPtr, wrPtr, AV.cells, asVal, rowsOf, setAll, Nat.reduceEqDiff, Nat.reduceLT, ↓reduceIte, DB4, R7B, O_buildSlq, quietOk, aop_buildSl, fillRows, asData, aappend, List.append_assoc, z, z2, f7, f8, tF, Nat.le_refl, row_shrink he]
        · have e1 : (u ++ [p]).filter (filU s) = u.filter (filU s) := by
            rw [List.filter_append, List.filter_cons_of_neg (by unfold filU; simpa using hp)]; simp
          simp only [rowH, e1]
          generalize u.filter (filU s) = F at *
          have z : (s == 0) = false := by rw [beq_eq_false_iff_ne]; exact fun h => hp (.inl h)
          have z2 : (p.src == s) = false := by rw [beq_eq_false_iff_ne]; exact fun h => hp (.inr h)
          simp only [RB, pickV, faddrV, abin, cmpInt, growLists, newAt, rdPtr, wrPtr, AV.cells, asVal, setAll, Nat.reduceEqDiff, ↓reduceIte, DB4, R7B, z, z2, row_shrink he]
      · have h6 : ∀ k : Nat, shrink false 7 .undef ⟨rowH a b s (goneL a b ++ comeL a b) ++ e, []⟩ = some ⟨rowH a b s (goneL a b ++ comeL a b), []⟩ := fun _ => shrink_app rfl rfl (by simp [LPB, rowH])
        simp only [List.length_cons, List.length_nil, Nat.zero_add, List.getElem?_cons_zero, List.take_zero, RG, h6 0]
        simp only [RB, abin, Nat.reduceEqDiff, Int.reduceNeg, ↓reduceIte, Int.reduceLE, Int.reduceAdd]
        exact ih
    | 2, _ =>
      simp only [RB, abin, cmpInt, rdPtr, asVal, Nat.reduceAdd, Nat.reduceEqDiff, ↓reduceIte, reduceCtorEq, Int.reduceLT, rowH]
      rfl
theorem e42 (a b : List Rt) (s : Int) (hA : a.length ≤ 1000000) (hB : b.length ≤ 1000000) (hAo : ∀ x ∈ a, okR x) (hBo : ∀ x ∈ b, okR x) (hsa : SortR a) (hsb : SortR b) :
    LV E 42 [.agg [.ro (trows a)], .agg [.ro (trows b)], .int .i64 s] = some (.fresh 42 22 (vrows (leadS a b s))) := by
  rw [LV_R (fn := f42) rfl rfl rfl]
  have h62 := r62 a b s hA hB hAo hBo hsa hsb
  have hl : (vrows ((goneL a b ++ comeL a b).filter (filU s))).take (leadS a b s).length = vrows (leadS a b s) := vrows_all _
  have hl2 : ((goneL a b ++ comeL a b).filter (filU s)).length = (leadS a b s).length := rfl
  simp only [f42, RB, cloV, params, growLists, newAt, AV.cells, rowsOf, AV.isYld, Nat.reduceAdd, Nat.reduceEqDiff, Nat.reduceLT, ↓reduceIte, reduceCtorEq, DB4, R7B, fillRf, h62, rowH, hl2, expCell, hl, Nat.le_refl]
  done
def allR (a b : List Rt) : List Up × Int := if rightS a b 0 0 = 0 then (leadS a b 0, 0) else ([], rightS a b 0 0)
theorem e20 (a b : List Rt) (hA : a.length ≤ 1000000) (hB : b.length ≤ 1000000) : LV E 20 [.agg [.ro (trows a)], .agg [.ro (trows b)]] = some (.tup [.fresh 42 22 (vrows (allR a b).1), .int .i64 (allR a b).2]) := by
  rw [LV_R (fn := f20) rfl rfl rfl]
  have h41 := e41 a b 0 0 (by omega) (by omega)
  unfold allR
  by_cases h0 : rightS a b 0 0 = 0
  · obtain ⟨hRa, hRb, _⟩ := rightS_zero h0
    have h42 := e42 a b 0 hA hB (fun x hx => fits_ok (hRa.fits x hx)) (fun x hx => fits_ok (hRb.fits x hx)) hRa.sort hRb.sort
    rw [if_pos h0]
    rw [h0] at h41
    simp only [f20, RB, abin, cmpInt, params, growLists, newAt, rdPtr, AV.cells, asVal, rowsOf, argIds, AV.isData, Nat.reduceAdd, Nat.reduceEqDiff, ↓reduceIte, reduceCtorEq, DB4, R7B, h41, h42, bne_self_eq_false, expCell, List.nodup_cons, List.nodup_nil, List.not_mem_nil, and_false, Nat.le_refl, List.take_length]
    done
  · rw [if_neg h0]
    have z : (rightS a b 0 0 != 0) = true := by rw [bne_iff_ne]; exact h0
    simp only [f20, RB, abin, cmpInt, params, growLists, newAt, rdPtr, AV.cells, asVal, rowsOf, argIds, AV.isData, Nat.reduceAdd, Nat.reduceEqDiff, ↓reduceIte, reduceCtorEq, h41, z, expCell, List.nodup_cons, List.nodup_nil, List.not_mem_nil, and_false, Nat.le_refl]
    rfl
end Go.Proofs.YtgajekpigkknnaaDoor.F

/- The layer does something. No condition. -/
set_option linter.unusedSimpArgs false
set_option maxRecDepth 20000
namespace Go.Proofs.YtgajekpigkknnaaDoor.D
open Go Go.Proofs.YtgajekpigkknnaaDoor.A
def wP : Pfx := ⟨⟨4, ⟨[10, 0, 0, 0, 0, 0, 0, 0, 0, 0, 0, 0, 0, 0, 0, 0], rfl, by decide⟩⟩, 8⟩
def wQ : Pfx := ⟨⟨4, ⟨[10, 1, 0, 0, 0, 0, 0, 0, 0, 0, 0, 0, 0, 0, 0, 0], rfl, by decide⟩⟩, 16⟩
def wA : List Rt := [⟨wP, 1, 5, 7⟩]
def wB : List Rt := [⟨wP, 2, 0, 1⟩, ⟨wQ, 1, 5, 7⟩]
theorem w1 : RibP wA := by decide +kernel
theorem w2 : RibP wB := by decide +kernel
theorem w3 : leadS wA wB 0 = [⟨wP, 1, true, 0, 0⟩, ⟨wP, 2, false, 0, 1⟩, ⟨wQ, 1, false, 5, 7⟩] := by decide +kernel
theorem w4 : doS wA (leadS wA wB 0) = (wB, 1, 0) := by decide +kernel
theorem w5 : mixS wA wB 1 = [⟨wQ, 1, 5, 7⟩] := by decide +kernel
theorem w6 : RibP [⟨wQ, 1, 5, 7⟩] := by decide +kernel
end Go.Proofs.YtgajekpigkknnaaDoor.D
namespace Go.Proofs.YtgajekpigkknnaaDoor.F
open Go Go.Proofs.YtgajekpigkknnaaDoor.A Go.Proofs.YtgajekpigkknnaaDoor.D
theorem e33 : LV E 33 [] = some (.tup [.agg [.ro (trows wA)], .agg [.ro (trows wB)]]) := LV_of (n := 100) _ (by kernel_rfl)
theorem e9 : LV E 9 [] = some (.bool true) := by
  rw [LV_R (fn := f9) rfl rfl rfl]
  have h20 := e20 wA wB (by decide) (by decide)
  have h16 := e16 wA (leadS wA wB 0) (by decide) (Nat.le_trans (lead_len _ _ _) (by decide))
  have h24 := e24 wA wB 1 (by decide) (by decide)
  have h19 := e19 wB wB (by decide)
  have a1 : allR wA wB = (leadS wA wB 0, 0) := by unfold allR; rw [if_pos (by decide +kernel)]
  have a2 : mixR wA wB 1 = ([⟨wQ, 1, 5, 7⟩], 0) := by
    unfold mixR; rw [if_neg (by decide +kernel), w5, if_pos w6]
  rw [a1] at h20
  rw [w4] at h16
  rw [a2] at h24
  have g0 : (vrows (leadS wA wB 0))[0]? = some (upv ⟨wP, 1, true, 0, 0⟩) := by rw [w3]; rfl
  have gl : (leadS wA wB 0).length = 3 := by rw [w3]; rfl
  have gt : (vrows (leadS wA wB 0)).take 3 = vrows (leadS wA wB 0) := by rw [← gl]; exact vrows_all _
  simp only [doR] at h20 h16 h24
  generalize leadS wA wB 0 = L at *
  simp only [f9, RB, pickV, faddrV, iaddrV, extrV, abin, cmpInt, params, growLists, newAt, rdPtr, wrPtr, AV.cells, asVal, lenOf, rowsOf, argIds, freshIn, scalar1, AV.isData, Nat.reduceAdd, Nat.reduceEqDiff, Nat.reduceLT, ↓reduceIte, reduceCtorEq, Int.reduceLE, Int.reduceToNat, DB4, R7B, e33, h20, h16, h24, h19, CW_some, scalar, scalar1, lockAll, lockAt, reduceCtorEq, extrV, lisFits, g0, gl, gt]
  done
end Go.Proofs.YtgajekpigkknnaaDoor.F

/- RIBs on the way: plain laws. No condition. -/
set_option linter.unusedSimpArgs false
set_option maxRecDepth 20000
namespace Go.Proofs.YtgajekpigkknnaaDoor.D
open Go Go.Proofs.YtgajekpigkknnaaDoor.A
theorem mem_lp {l : List Rt} {r x : Rt} : x ∈ lowR l r ++ pastR l r ↔ x ∈ l ∧ ¬ KeyEq x r := by
  rw [List.mem_append]
  unfold lowR pastR
  rw [List.mem_filter, List.mem_filter, decide_eq_true_eq, decide_eq_true_eq]
  constructor
  · rintro (⟨h1, h2⟩ | ⟨h1, h2⟩)
    · exact ⟨h1, fun k => keyEq_irr k h2⟩
    · exact ⟨h1, fun k => keyEq_irr' k h2⟩
  · rintro ⟨h1, h2⟩
    rcases ahead_tri x r with h3 | h3 | h3
    · exact .inl ⟨h1, h3⟩
    · exact absurd h3 h2
    · exact .inr ⟨h1, h3⟩
theorem mem_step {l l' : List Rt} {u : Up} (h : stepA l u = some l') (x : Rt) : x ∈ l' ↔ (x ∈ l ∧ ¬ KeyEq x (uR u)) ∨ (u.gone = false ∧ x = uR u) := by
  unfold stepA at h
  split at h
  · rename_i hg
    split at h
    · cases h
      rw [mem_lp]
      constructor
      · exact .inl
      · rintro (h | ⟨h, _⟩)
        · exact h
        · rw [hg] at h; cases h
    · cases h
  · rename_i hg
    cases h
    have hg : u.gone = false := by simpa using hg
    rw [List.append_assoc, List.mem_append, List.mem_append, List.mem_singleton]
    have := mem_lp (l := l) (r := uR u) (x := x)
    rw [List.mem_append] at this
    constructor
    · rintro (h | h | h)
      · exact .inl (this.1 (.inl h))
      · exact .inr ⟨hg, h⟩
      · exact .inl (this.1 (.inr h))
    · rintro (h | ⟨_, h⟩)
      · rcases this.2 h with h | h
        · exact .inl h
        · exact .inr (.inr h)
      · exact .inr (.inl h)
end Go.Proofs.YtgajekpigkknnaaDoor.D

/- What leads there leads there, and on the way each RIB may be: plain laws. No condition. -/
set_option linter.unusedSimpArgs false
set_option maxRecDepth 20000
namespace Go.Proofs.YtgajekpigkknnaaDoor.D
open Go Go.Proofs.YtgajekpigkknnaaDoor.A
def DistU (us : List Up) : Prop := us.Pairwise fun u v => ¬ KeyEq (uR u) (uR v)
theorem KeyEq.symm {a b : Rt} (h : KeyEq a b) : KeyEq b a := ⟨h.1.symm, h.2.symm⟩
theorem KeyEq.trans {a b c : Rt} (h : KeyEq a b) (k : KeyEq b c) : KeyEq a c := ⟨h.1.trans k.1, h.2.trans k.2⟩
theorem KeyEq.refl (a : Rt) : KeyEq a a := ⟨rfl, rfl⟩
theorem runA_cons {l : List Rt} {u : Up} {us : List Up} : runA l (u :: us) = (stepA l u).bind fun l' => runA l' us := by
  conv => lhs; unfold runA
  cases stepA l u <;> rfl
theorem runA_append : ∀ {p q : List Up} {l : List Rt}, runA l (p ++ q) = (runA l p).bind fun r => runA r q
  | [], q, l => rfl
  | u :: p, q, l => by
    rw [List.cons_append, runA_cons, runA_cons]
    cases stepA l u with
    | none => rfl
    | some l' => exact runA_append
theorem run_char : ∀ {q : List Up} {l r : List Rt}, runA l q = some r → l.Pairwise Ahead → DistU q → r.Pairwise Ahead ∧ ∀ x, x ∈ r ↔ (x ∈ l ∧ ∀ u ∈ q, ¬ KeyEq x (uR u)) ∨ ∃ u ∈ q, u.gone = false ∧ x = uR u
  | [], l, r, h, hl, _ => by cases h; exact ⟨hl, fun x => by simp⟩
  | u :: q, l, r, h, hl, hd => by
    obtain ⟨d1, d2⟩ := List.pairwise_cons.1 hd
    unfold runA at h
    split at h
    · rename_i l' h1
      have hl' : l'.Pairwise Ahead := sort_pair.1 (stepA_sort (sort_pair.2 hl) h1)
      obtain ⟨k1, k2⟩ := run_char h hl' d2
      refine ⟨k1, fun x => ?_⟩
      rw [k2 x, mem_step h1 x]
      constructor
      · rintro (⟨h2 | h2, h3⟩ | ⟨v, h2, h3⟩)
        · exact .inl ⟨h2.1, fun v hv => by
            rcases List.mem_cons.1 hv with rfl | hv
            · exact h2.2
            · exact h3 v hv⟩
        · exact .inr ⟨u, by simp, h2⟩
        · exact .inr ⟨v, by simp [h2], h3⟩
      · rintro (⟨h2, h3⟩ | ⟨v, h2, h3⟩)
        · exact .inl ⟨.inl ⟨h2, h3 u (by simp)⟩, fun v hv => h3 v (by simp [hv])⟩
        · rcases List.mem_cons.1 h2 with rfl | hv
          · exact .inl ⟨.inr h3, fun w hw => by rw [h3.2]; exact d1 w hw⟩
          · exact .inr ⟨v, hv, h3⟩
    · cases h
theorem uR_g (x : Rt) : KeyEq (uR (gU x)) x := ⟨rfl, rfl⟩
theorem uR_c (x : Rt) : uR (cU x) = x := rfl
theorem hasK_true {B : List Rt} {x : Rt} : hasK B (fun _ _ => true) x = true ↔ ∃ y ∈ B, KeyEq y x := by
  unfold hasK; rw [List.any_eq_true]; simp
theorem mem_gone {a c : List Rt} {u : Up} : u ∈ goneL a c ↔ ∃ x ∈ a, (∀ y ∈ c, ¬ KeyEq y x) ∧ u = gU x := by
  unfold goneL butS
  rw [List.mem_map]
  constructor
  · rintro ⟨x, hx, rfl⟩
    obtain ⟨h1, h2⟩ := List.mem_filter.1 hx
    refine ⟨x, h1, fun y hy hk => ?_, rfl⟩
    rw [hasK_true.2 ⟨y, hy, hk⟩] at h2; cases h2
  · rintro ⟨x, h1, h2, rfl⟩
    refine ⟨x, List.mem_filter.2 ⟨h1, ?_⟩, rfl⟩
    cases h : hasK c (fun _ _ => true) x with
    | false => rfl
    | true => obtain ⟨y, hy, hk⟩ := hasK_true.1 h; exact absurd hk (h2 y hy)
theorem mem_come {a c : List Rt} {u : Up} : u ∈ comeL a c ↔ ∃ x ∈ c, x ∉ a ∧ u = cU x := by
  unfold comeL butS
  rw [List.mem_map]
  constructor
  · rintro ⟨x, hx, rfl⟩
    obtain ⟨h1, h2⟩ := List.mem_filter.1 hx
    refine ⟨x, h1, fun h3 => ?_, rfl⟩
    have : hasK a (fun x y => decide (x = y)) x = true := List.any_eq_true.2 ⟨x, h3, by simp [KeyEq.refl]⟩
    rw [this] at h2; cases h2
  · rintro ⟨x, h1, h2, rfl⟩
    refine ⟨x, List.mem_filter.2 ⟨h1, ?_⟩, rfl⟩
    cases h : hasK a (fun x y => decide (x = y)) x with
    | false => rfl
    | true =>
      obtain ⟨y, hy, hk⟩ := List.any_eq_true.1 h
      rw [Bool.and_eq_true, decide_eq_true_eq, decide_eq_true_eq] at hk
      exact absurd (hk.2 ▸ hy) h2
theorem lead_dist {a c : List Rt} (ha : a.Pairwise Ahead) (hc : c.Pairwise Ahead) : DistU (goneL a c ++ comeL a c) := by
  refine List.pairwise_append.2 ⟨?_, ?_, fun u hu v hv => ?_⟩
  · unfold goneL butS
    rw [List.pairwise_map]
    exact (ha.filter _).imp fun h k => keyEq_irr (((uR_g _).symm.trans k).trans (uR_g _)) h
  · unfold comeL butS
    rw [List.pairwise_map]
    exact (hc.filter _).imp fun h k => keyEq_irr k h
  · obtain ⟨x, hx, h1, rfl⟩ := mem_gone.1 hu
    obtain ⟨y, hy, h2, rfl⟩ := mem_come.1 hv
    exact fun k => h1 y hy ((uR_g x).symm.trans k).symm
theorem lead_zero (a b : List Rt) : leadS a b 0 = goneL a b ++ comeL a b := by
  unfold leadS
  exact List.filter_eq_self.2 fun u _ => by simp [filU]
end Go.Proofs.YtgajekpigkknnaaDoor.D

/- What leads to a RIB mixed by a source; it leads there. No condition. -/
set_option linter.unusedSimpArgs false
set_option maxRecDepth 20000
namespace Go.Proofs.YtgajekpigkknnaaDoor.D
open Go Go.Proofs.YtgajekpigkknnaaDoor.A
end Go.Proofs.YtgajekpigkknnaaDoor.D

/- Without any one of the updates it does not lead there: plain law. No condition. -/
set_option linter.unusedSimpArgs false
set_option maxRecDepth 20000
namespace Go.Proofs.YtgajekpigkknnaaDoor.D
open Go Go.Proofs.YtgajekpigkknnaaDoor.A
theorem cut_flat : ∀ {us : List Up} {out : List (List Up)} {cur : List Up} {p : List (List Up) × List Up}, cutF us out cur = some p → (endC p).flatten = out.flatten ++ (cur ++ us)
  | [], out, cur, p, h => by
    cases h
    simp only [endC]
    split
    · rename_i h; rw [h]; simp
    · simp
  | u :: us, out, cur, p, h => by
    unfold cutF at h
    split at h
    · split at h
      · rw [cut_flat h]; simp
      · rw [cut_flat h]; simp
    · cases h
theorem appC_run {l r : List Rt} {b : List Up} (h : appC l b = (0, r)) : runA l b = some r := by
  unfold appC at h
  split at h
  · split at h
    · split at h
      · cases h
      · rename_i r0 h0
        split at h
        · cases h; exact h0
        · cases h
    · cases h
  · cases h
theorem doB_run : ∀ {L : List (List Up)} {r0 r : List Rt} {i n : Nat}, doB r0 L i = (r, n, 0) → runA r0 L.flatten = some r
  | [], r0, r, i, n, h => by cases h; rfl
  | b :: L, r0, r, i, n, h => by
    unfold doB at h
    split at h
    · rename_i h0
      have h1 := appC_run (l := r0) (b := b) (r := (appC r0 b).2) (by rw [← h0])
      rw [List.flatten_cons, runA_append, h1]
      exact doB_run h
    · rename_i h0
      simp only [Prod.mk.injEq] at h
      exact absurd h.2.2 h0
theorem doS_run {a r : List Rt} {us : List Up} {n : Nat} (h : doS a us = (r, n, 0)) : runA a us = some r := by
  unfold doS at h
  split at h
  · split at h
    · cases h
    · rename_i p hp
      have := doB_run h
      rw [cut_flat hp] at this
      simpa using this
  · cases h
theorem needs {a b r : List Rt} (ha : RibP a) (hb : RibP b) {i n : Nat} (hi : i < (leadS a b 0).length) (h : doS a ((leadS a b 0).take i ++ (leadS a b 0).drop (i + 1)) = (r, n, 0)) : r ≠ b := by
  have hr := doS_run h
  rw [lead_zero] at hi hr
  have hd := lead_dist ha.pair hb.pair
  have hsp : goneL a b ++ comeL a b = (goneL a b ++ comeL a b).take i ++ (goneL a b ++ comeL a b)[i] :: (goneL a b ++ comeL a b).drop (i + 1) := by
    rw [← List.drop_eq_getElem_cons hi, List.take_append_drop]
  have hu : (goneL a b ++ comeL a b)[i] ∈ goneL a b ++ comeL a b := List.getElem_mem hi
  generalize (goneL a b ++ comeL a b)[i] = u at *
  rw [hsp] at hd
  obtain ⟨d1, d2, d3⟩ := List.pairwise_append.1 hd
  obtain ⟨d4, d5⟩ := List.pairwise_cons.1 d2
  have hd' : DistU ((goneL a b ++ comeL a b).take i ++ (goneL a b ++ comeL a b).drop (i + 1)) := List.pairwise_append.2 ⟨d1, d5, fun v hv w hw => d3 v hv w (by simp [hw])⟩
  have hne : ∀ v ∈ (goneL a b ++ comeL a b).take i ++ (goneL a b ++ comeL a b).drop (i + 1), ¬ KeyEq (uR u) (uR v) := fun v hv k => by
    rcases List.mem_append.1 hv with hv | hv
    · exact d3 v hv u (by simp) k.symm
    · exact d4 v hv k
  obtain ⟨_, k2⟩ := run_char hr ha.pair hd'
  rintro rfl
  rcases List.mem_append.1 hu with hu | hu
  · obtain ⟨x, hx, h1, rfl⟩ := mem_gone.1 hu
    have : x ∈ r := (k2 x).2 (.inl ⟨hx, fun v hv k => hne v hv ((uR_g x).trans k)⟩)
    exact h1 x this (KeyEq.refl x)
  · obtain ⟨y, hy, h1, rfl⟩ := mem_come.1 hu
    rcases (k2 y).1 hy with h2 | ⟨v, hv, _, h3⟩
    · exact h1 h2.1
    · exact hne v hv (by rw [uR_c, h3]; exact KeyEq.refl _)
end Go.Proofs.YtgajekpigkknnaaDoor.D
