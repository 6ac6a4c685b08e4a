/- Part B8 of the proofs of these statements. No condition. -/
import Derived.Test.YtabadcnpmfafnaaB7
set_option linter.unusedVariables false
set_option linter.unusedSimpArgs false
namespace Go.Proofs.Ytabadcnpmfafnaa
open Go Go.RowKit J

/-- Value v is a watch. -/
def WtV (w : World) (v : Value) (now : Int) (l : List Pu) : Prop := ∃ a c, v = .agg #[.int .i64 now, .slice a l.length c] ∧ SlC w 4 a (l.map Pu.enc) ∧ l.length ≤ c ∧ c ≤ maxLen
theorem WtV.ext {w w' : World} {v : Value} {now : Int} {l : List Pu} (h : WtV w v now l) (he : Ext w w') : WtV w' v now l := let ⟨a, c, h1, h2, h3⟩ := h; ⟨a, c, h1, h2.ext he, h3⟩
/-- Value v is a slice of numbers. -/
def SlI (w : World) (v : Value) (ds : List Int) : Prop := ∃ a c, v = .slice a ds.length c ∧ SlC w 1 a (encI ds) ∧ ds.length ≤ c ∧ c ≤ maxLen
theorem SlI.ext {w w' : World} {v : Value} {ds : List Int} (h : SlI w v ds) (he : Ext w w') : SlI w' v ds := let ⟨a, c, h1, h2, h3⟩ := h; ⟨a, c, h1, h2.ext he, h3⟩
theorem sli_own {w : World} {base : Nat} {e : TypeId} {v : Value} {ds : List Int} (h : OwnL w base e 1 v (encI ds)) : SlI w v ds := by
  obtain ⟨a, c, rfl, h1, h2⟩ := h.form
  exact ⟨a, c, by simp [encI], h.slc, by simpa [encI] using h1, h2⟩

/-- What Pass computes: the code, the tick, the peers, those that came down. -/
def passP (now ticks : Int) (l : List Pu) : Int × Int × List Pu × List Int :=
  if ¬ CheckP now l then (390, 0, [], []) else if ticks < 0 ∨ 1099511627776 - now < ticks then (2, 0, [], []) else (0, now + ticks, l.map (later (now + ticks)), downOf (now + ticks) l)
def PassPost (now ticks : Int) (l : List Pu) (w : World) (e : Ending) (w' : World) : Prop :=
  ∃ vw vd, e = .returned (.tuple #[vw, vd, .int .i64 (passP now ticks l).1]) ∧ WtV w' vw (passP now ticks l).2.1 (passP now ticks l).2.2.1 ∧ SlI w' vd (passP now ticks l).2.2.2 ∧ Ext w w'

theorem wtv_own {w : World} {base : Nat} {e : TypeId} {a : Option Addr} {c : Nat} {now : Int} {l : List Pu} (h : OwnL w base e 4 (.slice a l.length c) (l.map Pu.enc)) : WtV w (.agg #[.int .i64 now, .slice a l.length c]) now l := by
  obtain ⟨a', c', h1, h2, h3⟩ := h.form
  rw [List.length_map] at h1 h2
  cases h1
  exact ⟨a, c, rfl, h.slc, h2, h3⟩
/-- Cells of a block below are written. -/
theorem own_far' {w : World} {sz k : Nat} {e : TypeId} {v : Value} {xs : List (List Value)} (h : OwnL w sz e k v xs) {b : Nat} (hb : b < sz) (o : Nat) (u : Value) : OwnL (w.setCell ⟨b, o, none⟩ u) sz e k v xs :=
  h.other (fun h' => by have := (h.base_le _ h').1; dsimp only at this; omega) u
theorem passS_same {w : World} {B7 : Nat} {now ticks : Int} {l : List Pu} (h7 : B7 < w.heap.size) (code now' : Int) (l' : List Pu) (A B : World) (h : passS B7 (w.heap.size + 2) now ticks l code now' l' A) (hk : ∀ k, k ≠ w.heap.size + 1 → B.heap[k]? = A.heap[k]?) :
    passS B7 (w.heap.size + 2) now ticks l code now' l' B := by
  obtain ⟨v, h1, h2⟩ := h
  refine ⟨v, (hk _ (by omega)).trans h1, ?_⟩
  rcases h2 with h2 | ⟨a, b, c, d, e, ⟨f1, f2⟩, f3⟩
  · exact .inl h2
  · refine .inr ⟨a, b, c, d, e, ⟨f1, ?_⟩, f3⟩
    rcases f2 with f2 | ⟨g, cap, cur, g1, g2, g3, g4⟩
    · exact .inl f2
    · exact .inr ⟨g, cap, cur, g1, g2, (hk _ (by omega)).trans g3, g4⟩

set_option maxRecDepth 20000 in
set_option maxHeartbeats 1000000 in
theorem pass_any (now ticks : Int) (a : Option Addr) (c : Nat) (l : List Pu) (w : World) (hn : I64 now) (ht : I64 ticks) (hl : ∀ p ∈ l, p.ok) (hs : SlC w 4 a (l.map Pu.enc)) (hlen : l.length ≤ 100) :
    Calls Try.prog 10 #[.agg #[.int .i64 now, .slice a l.length c], .int .i64 ticks] w (PassPost now ticks l w) := by
  have E0 := ((((Ext.refl w).alloc (.cells #[.int .i64 now, .slice a l.length c] 24)).alloc (.cells #[.int .i64 ticks] 2)).alloc (.cells #[.int .i64 0, .slice none 0 0] 24)).alloc (.cells #[.slice none 0 0] 27)
  have b3 := ((Blk.new (w.alloc (.cells #[.int .i64 now, .slice a l.length c] 24)) #[.int .i64 ticks] 2).alloc (.cells #[.int .i64 0, .slice none 0 0] 24)).alloc (.cells #[.slice none 0 0] 27)
  have b4 := (Blk.new ((w.alloc (.cells #[.int .i64 now, .slice a l.length c] 24)).alloc (.cells #[.int .i64 ticks] 2)) #[.int .i64 0, .slice none 0 0] 24).alloc (.cells #[.slice none 0 0] 27)
  have b7 := Blk.new (((w.alloc (.cells #[.int .i64 now, .slice a l.length c] 24)).alloc (.cells #[.int .i64 ticks] 2)).alloc (.cells #[.int .i64 0, .slice none 0 0] 24)) #[.slice none 0 0] 27
  simp only [World.size_alloc] at b3 b4 b7
  go_enter Try.func10, Try.ntmps10
  go_wp2_with fail
  have hz : ((((w.alloc (.cells #[.int .i64 now, .slice a l.length c] 24)).alloc (.cells #[.int .i64 ticks] 2)).alloc (.cells #[.int .i64 0, .slice none 0 0] 24)).alloc (.cells #[.slice none 0 0] 27)).heap.size = w.heap.size + 4 := by simp
  generalize (((w.alloc (.cells #[.int .i64 now, .slice a l.length c] 24)).alloc (.cells #[.int .i64 ticks] 2)).alloc (.cells #[.int .i64 0, .slice none 0 0] 24)).alloc (.cells #[.slice none 0 0] 27) = W0 at *
  have H := turn_any now a c l 33 #[.pointer (some ⟨w.heap.size + 1, 0, none⟩), .pointer (some ⟨w.heap.size + 1 + 1 + 1, 0, none⟩)] (enters_of Try.func33 (by kernel_rfl) rfl) (w.heap.size + 1 + 1 + 1) W0
    (passS (w.heap.size + 1 + 1 + 1) (W0.heap.size + 2) now ticks l) (by omega) hn hl (hs.ext E0) (by omega) (passS_same (by omega)) (fun W bw base v hE hbw hb2 hbs hB hO hP => by
      subst hbw
      exact pass1_any now ticks l _ base (W0.heap.size + 2) (w.heap.size + 1) (w.heap.size + 1 + 1 + 1) v W hP ht hl hlen hB hO (by omega) hbs (by omega) (by omega) (by omega) (by omega) (hE.blk b3) (hE.blk b7))
  refine H.mono ?_
  clear H
  rintro _ w1 ⟨now', a', c', l', code, rfl, hs1, hBel, hS⟩
  have e4 : Blk w1 (w.heap.size + 1 + 1) 24 #[.int .i64 0, .slice none 0 0] := (hBel.block _ (by omega)).trans b4
  have hfin : ∃ vd, Blk w1 (w.heap.size + 1 + 1 + 1) 27 #[vd] ∧ OwnL w1 (W0.heap.size + 2) 3 1 vd (encI (passP now ticks l).2.2.2) ∧ (passP now ticks l).1 = code ∧ (passP now ticks l).2.1 = now' ∧ (passP now ticks l).2.2.1 = l' := by
    unfold passP
    rcases hS with ⟨h1, rfl, rfl, rfl, he⟩ | ⟨h1, now1, l1, ⟨vd, hv, h2⟩, h3, h4⟩
    · rw [if_pos h1]
      exact ⟨_, he.blk b7, OwnL.nil _ _ _ _, rfl, rfl, rfl⟩
    · rw [if_neg (not_not_intro h1)]
      rcases h2 with ⟨rfl, h5, rfl⟩ | ⟨rfl, h5, h6, rfl, rfl, h7⟩
      · obtain ⟨rfl, rfl⟩ := h3 (by decide)
        rw [if_pos h5]
        exact ⟨_, hv, OwnL.nil _ _ _ _, rfl, rfl, rfl⟩
      · obtain ⟨rfl, rfl⟩ := h4 rfl
        rw [if_neg (by omega)]
        exact ⟨_, hv, h7, rfl, rfl, rfl⟩
  obtain ⟨vd, e7, hvd, r1, r2, r3⟩ := hfin
  have hpost : ∀ w2 vw, WtV w2 vw now' l' → OwnL w2 (W0.heap.size + 2) 3 1 vd (encI (passP now ticks l).2.2.2) → Ext w w2 → PassPost now ticks l w (.returned (.tuple #[vw, vd, .int .i64 code])) w2 := fun w2 vw h1 h2 h3 => ⟨vw, vd, by rw [r1], by rw [r2, r3]; exact h1, sli_own h2, h3⟩
  have Hp := Lib.hid hpost
  clear hpost hS
  obtain ⟨ad, dn, cd, rfl⟩ := hvd.form'
  have E1 : Ext w w1 := E0.below.trans (hBel.mono (by omega))
  clear r1 r2 r3
  have E2 := (Ext.refl w1).alloc (.cells #[.int .i64 now', .slice a' l'.length c'] 24)
  have b8 := Blk.new w1 #[.int .i64 now', .slice a' l'.length c'] 24
  have e7 := E2.blk e7
  have e4 := E2.blk e4
  have c70 := e7.cell (i := 0) rfl
  have c40 := e4.cell (i := 0) rfl
  have c41 := e4.cell (i := 1) rfl
  have f40 := e4.free 0
  have f41 := e4.free 1
  have c80 := b8.cell (i := 0) rfl
  have c81 := b8.cell (i := 1) rfl
  go_wp2
  go_region
  go_wp2
  have b9 := ((e4.set 0 (.int .i64 now')).set 1 (.slice a' l'.length c')).drew
  have O9 := (own_far' (own_far' (hs1.ext E2) (b := w.heap.size + 1 + 1) (by omega) 0 (.int .i64 now')) (b := w.heap.size + 1 + 1) (by omega) 1 (.slice a' l'.length c')).ext (Ext.refl _).drew
  have D9 := (own_far' (own_far' (hvd.ext E2) (b := w.heap.size + 1 + 1) (by omega) 0 (.int .i64 now')) (b := w.heap.size + 1 + 1) (by omega) 1 (.slice a' l'.length c')).ext (Ext.refl _).drew
  have E9 := (((E1.trans E2).setC (p := ⟨w.heap.size + 1 + 1, 0, none⟩) (by dsimp only; omega) (.int .i64 now')).setC (p := ⟨w.heap.size + 1 + 1, 1, none⟩) (by dsimp only; omega) (.slice a' l'.length c')).drew
  exact ⟨rfl, .tuple #[.agg #[.int .i64 now', .slice a' l'.length c'], .slice ad dn cd, .int .i64 code], by simp [results, Try.f10, go_sem, b9.cell (i := 0) rfl, b9.cell (i := 1) rfl], Hp.out _ _ (wtv_own O9) D9 E9⟩
end Go.Proofs.Ytabadcnpmfafnaa
