/- Part B6 of the proofs of these statements. No condition. -/
import Derived.Test.YtabadcnpmfafnaaB5
set_option linter.unusedVariables false
set_option linter.unusedSimpArgs false
namespace Go.Proofs.Ytabadcnpmfafnaa
open Go Go.RowKit J

theorem one_cells {l : List Pu} : ∀ cs ∈ l.map Pu.enc, ∀ u ∈ cs, u.oneCell' = true := by
  intro cs hcs u hu
  obtain ⟨p, _, rfl⟩ := List.mem_map.1 hcs
  simp [Pu.enc] at hu
  rcases hu with rfl | rfl | rfl | rfl <;> rfl

/-- Behind turn. -/
def TurnPost (now : Int) (l : List Pu) (n0 : Nat) (S : Int → Int → List Pu → World → Prop) (w : World) (e : Ending) (w' : World) : Prop :=
  ∃ (now' : Int) (a' : Option Addr) (c' : Nat) (l' : List Pu) (code : Int), e = .returned (.tuple #[.agg #[.int .i64 now', .slice a' l'.length c'], .int .i64 code]) ∧ OwnL w' (w.heap.size + 2) 40 4 (.slice a' l'.length c') (l'.map Pu.enc) ∧ Below n0 w w' ∧
    ((¬ CheckP now l ∧ code = 390 ∧ now' = 0 ∧ l' = [] ∧ Ext w w') ∨
     (CheckP now l ∧ ∃ now1 l1, S code now1 l1 w' ∧ (code ≠ 0 → now' = 0 ∧ l' = []) ∧ (code = 0 → now' = now1 ∧ l' = l1)))

/-- What turn asks of a closure. -/
def DoesPost (n0 bw base : Nat) (S : Int → Int → List Pu → World → Prop) (W : World) (e : Ending) (W' : World) : Prop :=
  ∃ (code now' : Int) (v' : Value) (l' : List Pu), e = .returned (.int .i64 code) ∧ Blk W' bw 24 #[.int .i64 now', v'] ∧ OwnL W' base 40 4 v' (l'.map Pu.enc) ∧ Below n0 W W' ∧
    (∀ k, bw < k → k < base → W'.heap[k]? = W.heap[k]?) ∧ S code now' l' W'

set_option maxHeartbeats 2000000 in
theorem turn_any (now : Int) (a : Option Addr) (c : Nat) (l : List Pu) (g : Nat) (lb : Array Value) (eg : ∀ args w, (callFunc g args).run Try.prog w = .ok (.enter g args) w) (n0 : Nat) (w : World) (S : Int → Int → List Pu → World → Prop)
    (hn0 : n0 ≤ w.heap.size) (hn : I64 now) (hl : ∀ p ∈ l, p.ok) (hs : SlC w 4 a (l.map Pu.enc)) (hlen : l.length ≤ 4398046511104)
    (sS : ∀ code now' l' A B, S code now' l' A → (∀ k, k ≠ w.heap.size + 1 → B.heap[k]? = A.heap[k]?) → S code now' l' B)
    (hcall : ∀ W bw base v, Ext w W → w.heap.size = bw → w.heap.size + 2 ≤ base → base ≤ W.heap.size → Blk W bw 24 #[.int .i64 now, v] → OwnL W base 40 4 v (l.map Pu.enc) → CheckP now l →
      Calls Try.prog g (#[.pointer (some ⟨bw, 0, none⟩)] ++ lb) W (DoesPost n0 bw base S W)) :
    Calls Try.prog 32 #[.agg #[.int .i64 now, .slice a l.length c], .func (.func g) #[] lb] w (TurnPost now l n0 S w) := by
  have b2 := (Blk.new w #[.int .i64 now, .slice a l.length c] 24).alloc (.cells #[.int .i64 0, .slice none 0 0] 24)
  have b4 := Blk.new (w.alloc (.cells #[.int .i64 now, .slice a l.length c] 24)) #[.int .i64 0, .slice none 0 0] 24
  have E0 := ((Ext.refl w).alloc (.cells #[.int .i64 now, .slice a l.length c] 24)).alloc (.cells #[.int .i64 0, .slice none 0 0] 24)
  simp only [World.size_alloc] at b4
  go_enter Try.func32, Try.ntmps32
  go_wp2_with fail
  have hchk := check_any now a c l ((w.alloc (.cells #[.int .i64 now, .slice a l.length c] 24)).alloc (.cells #[.int .i64 0, .slice none 0 0] 24)) hn hl (hs.ext E0) (by simp only [maxLen]; omega)
  generalize (w.alloc (.cells #[.int .i64 now, .slice a l.length c] 24)).alloc (.cells #[.int .i64 0, .slice none 0 0] 24) = W0 at *
  refine hchk.mono ?_
  rintro _ W1 ⟨rfl, E1⟩
  have b2 := E1.blk b2
  have b4 := E1.blk b4
  have E1 := E0.trans E1
  have hb4 := b4.lt
  have c0 := b2.cell (i := 0) rfl
  have c1 := b2.cell (i := 1) rfl
  have f1 := b2.free 1
  have d0 := b4.cell (i := 0) rfl
  have d1 := b4.cell (i := 1) rfl
  have e0 := b4.free 0
  have e1 := b4.free 1
  by_cases hP : CheckP now l
  · have hc : checkE now l = 0 := if_pos hP
    rw [hc]
    have HP := Lib.hid hP
    clear hP hc hchk
    go_wp2_with fail
    have hcl := clone_22 a c (l.map Pu.enc) W1 (hs.ext E1) one_cells (by simp; omega)
    rw [List.length_map] at hcl
    refine hcl.mono ?_
    rintro _ W2 ⟨v, rfl, O2, E2⟩
    have b2 := E2.blk b2
    have b4 := E2.blk b4
    have c0 := b2.cell (i := 0) rfl
    have c1 := b2.cell (i := 1) rfl
    have f1 := b2.free 1
    have d0 := b4.cell (i := 0) rfl
    have d1 := b4.cell (i := 1) rfl
    have e0 := b4.free 0
    have e1 := b4.free 1
    obtain ⟨a2, c2, rfl, hc2, hc3⟩ := O2.form
    rw [List.length_map] at *
    go_wp2_with fail
    have E3 : Ext w (W2.setCell ⟨w.heap.size, 1, none⟩ (.slice a2 l.length c2)) := (E1.trans E2).setC (Nat.le_refl _) _
    have b2' := b2.set 1 (.slice a2 l.length c2)
    have b4' := b4.other (a := ⟨w.heap.size, 1, none⟩) (by simp) (.slice a2 l.length c2)
    have O3 := O2.other (a := ⟨w.heap.size, 1, none⟩) (fun h => by have := (O2.base_le _ h).1; dsimp only at this; omega) (.slice a2 l.length c2)
    have hsz3 : W1.heap.size ≤ (W2.setCell ⟨w.heap.size, 1, none⟩ (.slice a2 l.length c2)).heap.size := by simpa using E2.size
    generalize W2.setCell ⟨w.heap.size, 1, none⟩ (.slice a2 l.length c2) = W3 at *
    refine (hcall W3 w.heap.size W1.heap.size _ E3 rfl (by omega) hsz3 b2' O3 HP.out).mono ?_
    rintro _ W4 ⟨code, now', v', l', rfl, b5, O5, B5, hk5, hS⟩
    have b6 : Blk W4 (w.heap.size + 1) 24 #[.int .i64 0, .slice none 0 0] := (hk5 _ (by omega) (by omega)).trans b4'
    have d0 := b6.cell (i := 0) rfl
    have d1 := b6.cell (i := 1) rfl
    have e0 := b6.free 0
    have e1 := b6.free 1
    obtain ⟨a5, c5, rfl, hc5, hc6⟩ := O5.form
    rw [List.length_map] at *
    have c0 := b5.cell (i := 0) rfl
    have c1 := b5.cell (i := 1) rfl
    have B6 := (E3.below.mono hn0).trans B5
    by_cases hcode : code = 0
    · subst hcode
      go_wp2
      have b4' := (b6.set 0 (.int .i64 now')).set 1 (.slice a5 l'.length c5)
      have O6 := (O5.other (a := ⟨w.heap.size + 1, 0, none⟩) (fun h => by have := (O5.base_le _ h).1; dsimp only at this; omega) (.int .i64 now')).other (a := ⟨w.heap.size + 1, 1, none⟩) (fun h => by have := (O5.base_le _ h).1; dsimp only at this; omega) (.slice a5 l'.length c5)
      refine ⟨rfl, .tuple #[.agg #[.int .i64 now', .slice a5 l'.length c5], .int .i64 0], by simp [results, Try.f32, go_sem, b4'.cell (i := 0) rfl, b4'.cell (i := 1) rfl], now', a5, c5, l', 0, rfl, O6.rebase (by omega), ?_, .inr ⟨HP.out, now', l', sS _ _ _ _ _ hS (fun k hk => ?_), fun h => absurd rfl h, fun _ => ⟨rfl, rfl⟩⟩⟩
      · exact (B6.setCell (by dsimp only; omega) _).setCell (by dsimp only; omega) _
      · exact (Below.heap_setCell _ _ _ _ (by dsimp only; omega)).trans (Below.heap_setCell _ _ _ _ (by dsimp only; omega))
    · have hne : (code != 0) = true := by simpa using hcode
      have hne2 : (code == 0) = false := by simpa using hcode
      go_wp2
      have b4' := (b6.set 0 (.int .i64 0)).set 1 (.slice none 0 0)
      refine ⟨rfl, .tuple #[.agg #[.int .i64 0, .slice none 0 0], .int .i64 code], by simp [results, Try.f32, go_sem, b4'.cell (i := 0) rfl, b4'.cell (i := 1) rfl], 0, none, 0, [], code, rfl, OwnL.nil _ _ _ _, ?_, .inr ⟨HP.out, now', l', sS _ _ _ _ _ hS (fun k hk => ?_), fun _ => ⟨rfl, rfl⟩, fun h => absurd h hcode⟩⟩
      · exact (B6.setCell (by dsimp only; omega) _).setCell (by dsimp only; omega) _
      · exact (Below.heap_setCell _ _ _ _ (by dsimp only; omega)).trans (Below.heap_setCell _ _ _ _ (by dsimp only; omega))
  · have hc : checkE now l = 390 := if_neg hP
    rw [hc]
    have HP := Lib.hid hP
    clear hP hc hchk
    go_wp2
    have b4' := (b4.set 0 (.int .i64 0)).set 1 (.slice none 0 0)
    refine ⟨rfl, .tuple #[.agg #[.int .i64 0, .slice none 0 0], .int .i64 390], by simp [results, Try.f32, go_sem, b4'.cell (i := 0) rfl, b4'.cell (i := 1) rfl], 0, none, 0, [], 390, rfl, OwnL.nil _ _ _ _, ?_, .inl ⟨HP.out, rfl, rfl, rfl, ?_⟩⟩
    · exact ((E1.below.setCell (by dsimp only; omega) _).setCell (by dsimp only; omega) _).mono hn0
    · exact (E1.setC (by dsimp only; omega) _).setC (by dsimp only; omega) _
end Go.Proofs.Ytabadcnpmfafnaa
