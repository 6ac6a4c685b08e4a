/- Part R5 of the proofs of these statements. No condition. -/
import Derived.Test.YtabadcnpmfafnaaR4
set_option linter.unusedVariables false
set_option linter.unusedSimpArgs false
namespace Go.Proofs.Ytabadcnpmfafnaa
open Go Go.RowKit J

set_option maxRecDepth 20000 in
set_option maxHeartbeats 2000000 in
/-- Same, of watches that are the same. -/
theorem refsame_eq (now : Int) (a a' : Option Addr) (c c' : Nat) (l : List Pu) (w : World) (hs : SlC w 4 a (l.map Pu.enc)) (hs' : SlC w 4 a' (l.map Pu.enc)) (hlen : l.length ≤ 1000) :
    Calls Try.prog 12 #[.agg #[.int .i64 now, .slice a l.length c], .agg #[.int .i64 now, .slice a' l.length c']] w fun e w' => e = .returned (.bool true) ∧ Ext w w' := by
  have b2 := (Blk.new w #[.int .i64 now, .slice a l.length c] 24).alloc (.cells #[.int .i64 now, .slice a' l.length c'] 24)
  have b3 := Blk.new (w.alloc (.cells #[.int .i64 now, .slice a l.length c] 24)) #[.int .i64 now, .slice a' l.length c'] 24
  have E0 := ((Ext.refl w).alloc (.cells #[.int .i64 now, .slice a l.length c] 24)).alloc (.cells #[.int .i64 now, .slice a' l.length c'] 24)
  simp only [World.size_alloc] at b3
  go_enter Try.func12, Try.ntmps12
  go_wp2
  generalize (w.alloc (.cells #[.int .i64 now, .slice a l.length c] 24)).alloc (.cells #[.int .i64 now, .slice a' l.length c'] 24) = W0 at *
  go_loopw [5] (fun u wr => ∃ k : Nat, k ≤ l.length ∧ u = .int .i64 k ∧ Ext W0 wr) (fun u _ => l.length - (intOf u).toNat)
  case atStart => exact ⟨0, Nat.zero_le _, rfl, Ext.refl _⟩
  case round =>
    obtain ⟨k, hk, rfl, hE⟩ := hrel
    have z1 := (hE.blk b2).cell (i := 1) rfl
    have z2 := (hE.blk b3).cell (i := 1) rfl
    by_cases hlt : k < l.length
    · obtain ⟨p, hp⟩ : ∃ p, l[k]? = some p := ⟨l[k], List.getElem?_eq_getElem hlt⟩
      obtain ⟨pb, po, rfl, r0, r1, r2, r3⟩ := slc_pu (hs.ext (E0.trans hE)) hp
      obtain ⟨qb, qo, rfl, s0, s1, s2, s3⟩ := slc_pu (hs'.ext (E0.trans hE)) hp
      have hltI : (k : Int) < l.length := by omega
      clear hp
      go_wp2
      go_quiet (fail)
      go_wp2
      go_roundw
      case rel => exact ⟨k + 1, by omega, by go_num, hE.drewN _⟩
      case measure => simp [intOf]; omega
    · have hltI : ¬ (k : Int) < l.length := by omega
      go_wp2
      go_ret
      exact ⟨rfl, E0.trans hE⟩

set_option maxRecDepth 20000 in
set_option maxHeartbeats 2000000 in
/-- same, of the same numbers. -/
theorem same_eq (a a' : Option Addr) (c c' : Nat) (l : List Int) (w : World) (hs : SlC w 1 a (encI l)) (hs' : SlC w 1 a' (encI l)) (hlen : l.length ≤ 1000) :
    Calls Try.prog 13 #[.slice a l.length c, .slice a' l.length c'] w fun e w' => e = .returned (.bool true) ∧ Ext w w' := by
  go_enter Try.func13, Try.ntmps13
  go_wp2
  go_loopw [5, 13] (fun _ u wr => ∃ k : Nat, k ≤ l.length ∧ u = .int .i64 k ∧ Ext w wr) (fun _ u _ => l.length - (intOf u).toNat)
  case atStart => exact ⟨0, Nat.zero_le _, rfl, Ext.refl _⟩
  case round =>
    obtain ⟨k, hk, rfl, hE⟩ := hrel
    by_cases hlt : k < l.length
    · obtain ⟨-, pb, po, rfl, r⟩ := (hs.ext hE) k [.int .i64 l[k]] (by simp [encI, hlt])
      obtain ⟨-, qb, qo, rfl, s⟩ := (hs'.ext hE) k [.int .i64 l[k]] (by simp [encI, hlt])
      have r0 := r 0 _ rfl
      have s0 := s 0 _ rfl
      simp only [Nat.mul_one, Nat.add_zero] at r0 s0
      generalize l[k] = x at *
      have hltI : (k : Int) < l.length := by omega
      clear r s
      go_wp2
      go_quiet (fail)
      go_wp2
      go_roundw
      case rel => exact ⟨k + 1, by omega, by go_num, hE.drewN _⟩
      case measure => simp [intOf]; omega
    · have hltI : ¬ (k : Int) < l.length := by omega
      go_wp2
      go_ret
      exact ⟨rfl, hE⟩

theorem one_cells' {l : List Pu} : ∀ cs ∈ l.map Pu.enc, ∀ u ∈ cs, u.oneCell' = true := one_cells
set_option maxRecDepth 20000 in
set_option maxHeartbeats 2000000 in
/-- A watch in memory of its own. -/
theorem copied_any (now : Int) (a : Option Addr) (c : Nat) (l : List Pu) (w : World) (hs : SlC w 4 a (l.map Pu.enc)) (hlen : l.length ≤ 1000) :
    Calls Try.prog 9 #[.agg #[.int .i64 now, .slice a l.length c]] w fun e w' => ∃ a' c', e = .returned (.agg #[.int .i64 now, .slice a' l.length c']) ∧ OwnL w' w.heap.size 40 4 (.slice a' l.length c') (l.map Pu.enc) ∧ Ext w w' := by
  have b1 := ((Blk.new w #[.int .i64 now, .slice a l.length c] 24).alloc (.cells #[.int .i64 0, .slice none 0 0] 24)).alloc (.cells #[] 40)
  have b2 := (Blk.new (w.alloc (.cells #[.int .i64 now, .slice a l.length c] 24)) #[.int .i64 0, .slice none 0 0] 24).alloc (.cells #[] 40)
  have E0 := (((Ext.refl w).alloc (.cells #[.int .i64 now, .slice a l.length c] 24)).alloc (.cells #[.int .i64 0, .slice none 0 0] 24)).alloc (.cells #[] 40)
  have ho : OwnL (((w.alloc (.cells #[.int .i64 now, .slice a l.length c] 24)).alloc (.cells #[.int .i64 0, .slice none 0 0] 24)).alloc (.cells #[] 40)) (w.heap.size + 1 + 1) 40 4 (.slice (some ⟨w.heap.size + 1 + 1, 0, none⟩) 0 0) [] := by
    have h : OwnL (((w.alloc (.cells #[.int .i64 now, .slice a l.length c] 24)).alloc (.cells #[.int .i64 0, .slice none 0 0] 24)).alloc (.cells #[] 40)) ((w.alloc (.cells #[.int .i64 now, .slice a l.length c] 24)).alloc (.cells #[.int .i64 0, .slice none 0 0] 24)).heap.size 40 4 (.slice (some ⟨((w.alloc (.cells #[.int .i64 now, .slice a l.length c] 24)).alloc (.cells #[.int .i64 0, .slice none 0 0] 24)).heap.size, 0, none⟩) 0 0) [] := ⟨World.ownsRow_lit _ #[] 0 (Nat.le_refl _) (Nat.zero_le _) (by simp), fun c hc => by cases hc⟩
    simp only [World.size_alloc] at h
    exact h
  have hs3 := hs.ext E0
  have hz : ((((w.alloc (.cells #[.int .i64 now, .slice a l.length c] 24)).alloc (.cells #[.int .i64 0, .slice none 0 0] 24)).alloc (.cells #[] 40))).heap.size = w.heap.size + 3 := by simp
  simp only [World.size_alloc] at b2
  have c1 := b1.cell (i := 0) rfl
  go_enter Try.func9, Try.ntmps9
  go_wp2_with (at_builtin; refine wpl_append rfl _ _ 22 rfl elemT_22 (w.heap.size + 1 + 1) rfl ho (news := l.map Pu.enc) rfl (by simp) hs3 one_cells (by simp; omega) (by decide) (by simp) ?_; intro v' W' O4 hg'; obtain ⟨a4, n4, c4, rfl⟩ := O4.form'; have B1 := b1.grown hg' (own_ne_blk ho b1 (by decide)); have B2 := b2.grown hg' (own_ne_blk ho b2 (by decide)); have E4 : Ext w W' := E0.below.grown hg' (by omega) (fun j hj => by have := (ho.base_le _ hj).1; omega); have k0 := B1.cell (i := 0) rfl; have k1 := B1.cell (i := 1) rfl; have kf := B1.free 1; have m0 := B2.cell (i := 0) rfl; have m1 := B2.cell (i := 1) rfl; have mf0 := B2.free 0; have mf1 := B2.free 1)
  obtain rfl : n4 = l.length := by obtain ⟨_, _, h, _⟩ := O4.form; injection h with _ h _; simpa using h
  go_wp2
  have C1 := B1.set 1 (.slice a4 l.length c4)
  have b9 := (((B2.other (a := ⟨w.heap.size, 1, none⟩) (by dsimp only; omega) (.slice a4 l.length c4)).set 0 (.int .i64 now)).set 1 (.slice a4 l.length c4))
  have E9 := ((E4.setC (p := ⟨w.heap.size, 1, none⟩) (Nat.le_refl _) (.slice a4 l.length c4)).setC (p := ⟨w.heap.size + 1, 0, none⟩) (by dsimp only; omega) (.int .i64 now)).setC (p := ⟨w.heap.size + 1, 1, none⟩) (by dsimp only; omega) (.slice a4 l.length c4)
  have O9 := own_far' (own_far' (own_far' O4 (b := w.heap.size) (by omega) 1 (.slice a4 l.length c4)) (b := w.heap.size + 1) (by omega) 0 (.int .i64 now)) (b := w.heap.size + 1) (by omega) 1 (.slice a4 l.length c4)
  exact ⟨rfl, .agg #[.int .i64 now, .slice a4 l.length c4], by simp [results, Try.f9, go_sem, b9.cell (i := 0) rfl, b9.cell (i := 1) rfl], a4, c4, rfl, O9.rebase (by omega), E9⟩
end Go.Proofs.Ytabadcnpmfafnaa
