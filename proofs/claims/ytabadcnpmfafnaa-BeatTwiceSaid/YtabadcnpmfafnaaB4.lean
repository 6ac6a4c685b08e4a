/- Part B4 of the proofs of these statements. No condition. -/
import Derived.Test.YtabadcnpmfafnaaB3
set_option linter.unusedVariables false
set_option linter.unusedSimpArgs false
namespace Go.Proofs.Ytabadcnpmfafnaa
open Go Go.RowKit J
/-- Four cells written out. -/
theorem four_cells {W : World} {pb o : Nat} {cs : List Value} (hc4 : cs.length = 4) (hcell : ∀ j u, cs[j]? = some u → W.cell? ⟨pb, o + j, none⟩ = some u) :
    ∃ x0 x1 x2 x3, cs = [x0, x1, x2, x3] ∧ W.cell? ⟨pb, o, none⟩ = some x0 ∧ W.cell? ⟨pb, o + 1, none⟩ = some x1 ∧ W.cell? ⟨pb, o + 2, none⟩ = some x2 ∧ W.cell? ⟨pb, o + 3, none⟩ = some x3 := by
  match cs, hc4 with
  | [x0, x1, x2, x3], _ => exact ⟨x0, x1, x2, x3, rfl, hcell 0 _ rfl, hcell 1 _ rfl, hcell 2 _ rfl, hcell 3 _ rfl⟩
set_option maxHeartbeats 2000000 in
theorem bsearch_50 (a : Option Addr) (cp : Nat) (css : List (List Value)) (tgt : Value) (g : Nat) (lb : Array Value) (eg : ∀ args w, (callFunc g args).run Try.prog w = .ok (.enter g args) w) (cm : Nat → Int) (m : Nat) (w : World)
    (hs : SlC w 4 a css) (hlen : css.length ≤ 4611686018427387904) (hm : m ≤ css.length) (hlo : ∀ i, i < m → cm i < 0) (hhi : ∀ i, m ≤ i → i < css.length → 0 ≤ cm i)
    (hcall : ∀ i cs W, css[i]? = some cs → Ext w W → Calls Try.prog g (#[.agg cs.toArray, tgt] ++ lb) W fun e W' => e = .returned (.int .i64 (cm i)) ∧ Ext W W') :
    Calls Try.prog 50 #[.slice a css.length cp, tgt, .func (.func g) #[] lb] w fun e w' => e = .returned (.tuple #[.int .i64 m, .bool (decide (m < css.length) && cm m == 0)]) ∧ Ext w w' := by
  go_enter Try.func50, Try.ntmps50
  go_wp2
  go_loopw [9, 10, 11] (fun u v _ wr => ∃ i j : Nat, i ≤ m ∧ m ≤ j ∧ j ≤ css.length ∧ u = .int .i64 i ∧ v = .int .i64 j ∧ Ext w wr) (fun u v _ _ => (intOf v - intOf u).toNat)
  case atStart => exact ⟨0, css.length, Nat.zero_le _, hm, Nat.le_refl _, rfl, rfl, Ext.refl _⟩
  case round =>
    obtain ⟨i, j, hi, hj, hjn, rfl, rfl, hE⟩ := hrel
    by_cases hij : i < j
    · obtain ⟨k, hk⟩ : ∃ k, (i + j) / 2 = k := ⟨_, rfl⟩
      have hk1 : i ≤ k := by omega
      have hk2 : k < j := by omega
      have hkI : ((i : Int) + j) / 2 = k := by omega
      obtain ⟨cs, hcs⟩ : ∃ cs, css[k]? = some cs := ⟨css[k], List.getElem?_eq_getElem (by omega)⟩
      obtain ⟨hc4, pb, po, rfl, hcell⟩ := (hs.ext hE) k cs hcs
      obtain ⟨x0, x1, x2, x3, rfl, q0, q1, q2, q3⟩ := four_cells hc4 hcell
      have hc := hcall k _ wr hcs hE
      have hkl : (k : Int) < css.length := by omega
      clear hk
      by_cases hneg : cm k < 0
      · have hmk : k < m := by
          rcases Nat.lt_or_ge k m with h | h
          · exact h
          · have := hhi k h (by omega); omega
        go_wp2
        refine hc.mono ?_
        rintro _ w1 ⟨rfl, hE1⟩
        go_wp2
        go_roundw
        case rel => exact ⟨k + 1, j, by omega, by omega, by omega, by go_num, rfl, hE.trans hE1⟩
        case measure => simp [intOf]; omega
      · have hmk : m ≤ k := by
          rcases Nat.lt_or_ge k m with h | h
          · have := hlo k h; omega
          · exact h
        go_wp2
        refine hc.mono ?_
        rintro _ w1 ⟨rfl, hE1⟩
        go_wp2
        go_roundw
        case rel => exact ⟨i, k, by omega, by omega, by omega, rfl, rfl, hE.trans hE1⟩
        case measure => simp [intOf]; omega
    · obtain rfl : i = m := by omega
      by_cases hin : i < css.length
      · obtain ⟨cs, hcs⟩ : ∃ cs, css[i]? = some cs := ⟨css[i], List.getElem?_eq_getElem (by omega)⟩
        obtain ⟨hc4, pb, po, rfl, hcell⟩ := (hs.ext hE) i cs hcs
        obtain ⟨x0, x1, x2, x3, rfl, q0, q1, q2, q3⟩ := four_cells hc4 hcell
        have hc := hcall i _ wr hcs hE
        go_wp2
        refine hc.mono ?_
        rintro _ w1 ⟨rfl, hE1⟩
        go_wp2
        go_ret2
        exact ⟨by simp [hin], hE.trans hE1⟩
      · go_wp2
        go_ret2
        exact ⟨by simp [hin], hE⟩
end Go.Proofs.Ytabadcnpmfafnaa
