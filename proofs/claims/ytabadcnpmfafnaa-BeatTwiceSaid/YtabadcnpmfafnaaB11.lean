/- Part B11 of the proofs of these statements. No condition. -/
import Derived.Test.YtabadcnpmfafnaaB10
set_option linter.unusedVariables false
set_option linter.unusedSimpArgs false
namespace Go.Proofs.Ytabadcnpmfafnaa
open Go Go.RowKit J

def addP (now : Int) (l : List Pu) (x : Int) : Int × Int × List Pu :=
  if ¬ CheckP now l then (390, 0, []) else if x < 1 ∨ 8 < x then (2, 0, []) else if foundN l x = true then (5, 0, []) else (0, now, addL now l x)
def AddPost (now : Int) (l : List Pu) (x : Int) (w : World) (e : Ending) (w' : World) : Prop :=
  ∃ vw, e = .returned (.tuple #[vw, .int .i64 (addP now l x).1]) ∧ WtV w' vw (addP now l x).2.1 (addP now l x).2.2 ∧ Ext w w'

set_option maxRecDepth 20000 in
set_option maxHeartbeats 1000000 in
theorem add_any (now x : Int) (a : Option Addr) (c : Nat) (l : List Pu) (w : World) (hn : I64 now) (hx : I64 x) (hl : ∀ p ∈ l, p.ok) (hs : SlC w 4 a (l.map Pu.enc)) (hlen : l.length ≤ 100)
    (hpos : foundN l x = false → 1 ≤ x → x ≤ 8 → posN l x = l.length) :
    Calls Try.prog 14 #[.agg #[.int .i64 now, .slice a l.length c], .int .i64 x] w (AddPost now l x w) := by
  have E0 := (((Ext.refl w).alloc (.cells #[.int .i64 now, .slice a l.length c] 24)).alloc (.cells #[.int .i64 x] 3)).alloc (.cells #[.int .i64 0, .slice none 0 0] 24)
  have b3 := (Blk.new (w.alloc (.cells #[.int .i64 now, .slice a l.length c] 24)) #[.int .i64 x] 3).alloc (.cells #[.int .i64 0, .slice none 0 0] 24)
  have b4 := Blk.new ((w.alloc (.cells #[.int .i64 now, .slice a l.length c] 24)).alloc (.cells #[.int .i64 x] 3)) #[.int .i64 0, .slice none 0 0] 24
  simp only [World.size_alloc] at b3 b4
  go_enter Try.func14, Try.ntmps14
  go_wp2_with fail
  have hz : (((w.alloc (.cells #[.int .i64 now, .slice a l.length c] 24)).alloc (.cells #[.int .i64 x] 3)).alloc (.cells #[.int .i64 0, .slice none 0 0] 24)).heap.size = w.heap.size + 3 := by simp
  generalize ((w.alloc (.cells #[.int .i64 now, .slice a l.length c] 24)).alloc (.cells #[.int .i64 x] 3)).alloc (.cells #[.int .i64 0, .slice none 0 0] 24) = W0 at *
  have H := turn_any now a c l 36 #[.pointer (some ⟨w.heap.size + 1, 0, none⟩)] (enters_of Try.func36 (by kernel_rfl) rfl) W0.heap.size W0
    (addS now l x) (by omega) hn hl (hs.ext E0) (by omega) (fun _ _ _ _ _ h _ => h) (fun W bw base v hE hbw hb2 hbs hB hO hP => by
      subst hbw
      exact add1_any now x l _ base (w.heap.size + 1) v W hP hx hl hlen hpos hB hO (by omega) hbs (by omega) (hE.blk b3))
  refine H.mono ?_
  clear H hpos
  rintro _ w1 ⟨now', a', c', l', code, rfl, hs1, hBel, hS⟩
  have e4 : Blk w1 (w.heap.size + 1 + 1) 24 #[.int .i64 0, .slice none 0 0] := (hBel.block _ (by omega)).trans b4
  have hfin : (addP now l x).1 = code ∧ (addP now l x).2.1 = now' ∧ (addP now l x).2.2 = l' := by
    unfold addP
    rcases hS with ⟨h1, rfl, rfl, rfl, he⟩ | ⟨h1, now1, l1, h2, h3, h4⟩
    · rw [if_pos h1]
      exact ⟨rfl, rfl, rfl⟩
    · rw [if_neg (not_not_intro h1)]
      rcases h2 with ⟨rfl, h5⟩ | ⟨rfl, h5, h6, h7⟩ | ⟨rfl, h5, h6, h7, rfl, rfl⟩
      · obtain ⟨rfl, rfl⟩ := h3 (by decide)
        rw [if_pos h5]
        exact ⟨rfl, rfl, rfl⟩
      · obtain ⟨rfl, rfl⟩ := h3 (by decide)
        rw [if_neg (by omega), if_pos h7]
        exact ⟨rfl, rfl, rfl⟩
      · obtain ⟨rfl, rfl⟩ := h4 rfl
        rw [if_neg (by omega), if_neg (by rw [h7]; decide)]
        exact ⟨rfl, rfl, rfl⟩
  obtain ⟨r1, r2, r3⟩ := hfin
  have hpost : ∀ w2 vw, WtV w2 vw now' l' → Ext w w2 → AddPost now l x w (.returned (.tuple #[vw, .int .i64 code])) w2 := fun w2 vw h1 h3 => ⟨vw, by rw [r1], by rw [r2, r3]; exact h1, h3⟩
  have Hp := Lib.hid hpost
  clear hpost hS
  have E1 : Ext w w1 := E0.below.trans (hBel.mono (by omega))
  clear r1 r2 r3
  have c40 := e4.cell (i := 0) rfl
  have c41 := e4.cell (i := 1) rfl
  have f40 := e4.free 0
  have f41 := e4.free 1
  go_wp2
  have b9 := (e4.set 0 (.int .i64 now')).set 1 (.slice a' l'.length c')
  have O9 := own_far' (own_far' hs1 (b := w.heap.size + 1 + 1) (by omega) 0 (.int .i64 now')) (b := w.heap.size + 1 + 1) (by omega) 1 (.slice a' l'.length c')
  have E9 := (E1.setC (p := ⟨w.heap.size + 1 + 1, 0, none⟩) (by dsimp only; omega) (.int .i64 now')).setC (p := ⟨w.heap.size + 1 + 1, 1, none⟩) (by dsimp only; omega) (.slice a' l'.length c')
  exact ⟨rfl, .tuple #[.agg #[.int .i64 now', .slice a' l'.length c'], .int .i64 code], by simp [results, Try.f14, go_sem, b9.cell (i := 0) rfl, b9.cell (i := 1) rfl], Hp.out _ _ (wtv_own O9) E9⟩

/-! ### Hear -/
def hearP (now : Int) (l : List Pu) (x : Int) : Int × Int × List Pu × Bool :=
  if ¬ CheckP now l then (390, 0, [], false) else if foundN l x = true then (0, now, l.set (posN l x) (heardP now (l.getD (posN l x) default)), cameP now (l.getD (posN l x) default)) else (4, 0, [], false)
def HearPost (now : Int) (l : List Pu) (x : Int) (w : World) (e : Ending) (w' : World) : Prop :=
  ∃ vw, e = .returned (.tuple #[vw, .bool (hearP now l x).2.2.2, .int .i64 (hearP now l x).1]) ∧ WtV w' vw (hearP now l x).2.1 (hearP now l x).2.2.1 ∧ Ext w w'
theorem hearS_same {w : World} {B7 : Nat} {now x : Int} {l : List Pu} (h7 : B7 < w.heap.size) (code now' : Int) (l' : List Pu) (A B : World) (h : hearS B7 now l x code now' l' A) (hk : ∀ k, k ≠ w.heap.size + 1 → B.heap[k]? = A.heap[k]?) :
    hearS B7 now l x code now' l' B := by
  obtain ⟨b, h1, h2⟩ := h
  exact ⟨b, (hk _ (by omega)).trans h1, h2⟩

set_option maxRecDepth 20000 in
set_option maxHeartbeats 1000000 in
theorem hear_any (now x : Int) (a : Option Addr) (c : Nat) (l : List Pu) (w : World) (hn : I64 now) (hx : I64 x) (hl : ∀ p ∈ l, p.ok) (hs : SlC w 4 a (l.map Pu.enc)) (hlen : l.length ≤ 100) :
    Calls Try.prog 16 #[.agg #[.int .i64 now, .slice a l.length c], .int .i64 x] w (HearPost now l x w) := by
  have E0 := ((((Ext.refl w).alloc (.cells #[.int .i64 now, .slice a l.length c] 24)).alloc (.cells #[.int .i64 x] 3)).alloc (.cells #[.int .i64 0, .slice none 0 0] 24)).alloc (.cells #[.bool false] 4)
  have b3 := ((Blk.new (w.alloc (.cells #[.int .i64 now, .slice a l.length c] 24)) #[.int .i64 x] 3).alloc (.cells #[.int .i64 0, .slice none 0 0] 24)).alloc (.cells #[.bool false] 4)
  have b4 := (Blk.new ((w.alloc (.cells #[.int .i64 now, .slice a l.length c] 24)).alloc (.cells #[.int .i64 x] 3)) #[.int .i64 0, .slice none 0 0] 24).alloc (.cells #[.bool false] 4)
  have b7 := Blk.new (((w.alloc (.cells #[.int .i64 now, .slice a l.length c] 24)).alloc (.cells #[.int .i64 x] 3)).alloc (.cells #[.int .i64 0, .slice none 0 0] 24)) #[.bool false] 4
  simp only [World.size_alloc] at b3 b4 b7
  go_enter Try.func16, Try.ntmps16
  go_wp2_with fail
  have hz : ((((w.alloc (.cells #[.int .i64 now, .slice a l.length c] 24)).alloc (.cells #[.int .i64 x] 3)).alloc (.cells #[.int .i64 0, .slice none 0 0] 24)).alloc (.cells #[.bool false] 4)).heap.size = w.heap.size + 4 := by simp
  generalize (((w.alloc (.cells #[.int .i64 now, .slice a l.length c] 24)).alloc (.cells #[.int .i64 x] 3)).alloc (.cells #[.int .i64 0, .slice none 0 0] 24)).alloc (.cells #[.bool false] 4) = W0 at *
  have H := turn_any now a c l 41 #[.pointer (some ⟨w.heap.size + 1, 0, none⟩), .pointer (some ⟨w.heap.size + 1 + 1 + 1, 0, none⟩)] (enters_of Try.func41 (by kernel_rfl) rfl) (w.heap.size + 1 + 1 + 1) W0
    (hearS (w.heap.size + 1 + 1 + 1) now l x) (by omega) hn hl (hs.ext E0) (by omega) (hearS_same (by omega)) (fun W bw base v hE hbw hb2 hbs hB hO hP => by
      subst hbw
      exact hear1_any now x l _ base (w.heap.size + 1) (w.heap.size + 1 + 1 + 1) v W hP hx hl hlen hB hO (by omega) hbs (by omega) (by omega) (hE.blk b3) (hE.blk b7))
  refine H.mono ?_
  clear H
  rintro _ w1 ⟨now', a', c', l', code, rfl, hs1, hBel, hS⟩
  have e4 : Blk w1 (w.heap.size + 1 + 1) 24 #[.int .i64 0, .slice none 0 0] := (hBel.block _ (by omega)).trans b4
  have hfin : ∃ b, Blk w1 (w.heap.size + 1 + 1 + 1) 4 #[.bool b] ∧ (hearP now l x).2.2.2 = b ∧ (hearP now l x).1 = code ∧ (hearP now l x).2.1 = now' ∧ (hearP now l x).2.2.1 = l' := by
    unfold hearP
    rcases hS with ⟨h1, rfl, rfl, rfl, he⟩ | ⟨h1, now1, l1, ⟨b, hv, h2⟩, h3, h4⟩
    · rw [if_pos h1]
      exact ⟨_, he.blk b7, rfl, rfl, rfl, rfl⟩
    · rw [if_neg (not_not_intro h1)]
      rcases h2 with ⟨rfl, h5, rfl⟩ | ⟨rfl, h5, rfl, p, h6, rfl, rfl⟩
      · obtain ⟨rfl, rfl⟩ := h3 (by decide)
        rw [if_neg (by rw [h5]; decide)]
        exact ⟨_, hv, rfl, rfl, rfl, rfl⟩
      · obtain ⟨rfl, rfl⟩ := h4 rfl
        rw [if_pos h5, getD_of h6]
        exact ⟨_, hv, rfl, rfl, rfl, rfl⟩
  obtain ⟨b, e7, r0, r1, r2, r3⟩ := hfin
  have hpost : ∀ w2 vw, WtV w2 vw now' l' → Ext w w2 → HearPost now l x w (.returned (.tuple #[vw, .bool b, .int .i64 code])) w2 := fun w2 vw h1 h3 => ⟨vw, by rw [r0, r1], by rw [r2, r3]; exact h1, h3⟩
  have Hp := Lib.hid hpost
  clear hpost hS
  have E1 : Ext w w1 := E0.below.trans (hBel.mono (by omega))
  clear r0 r1 r2 r3
  have E2 := (Ext.refl w1).alloc (.cells #[.int .i64 now', .slice a' l'.length c'] 24)
  have b8 := Blk.new w1 #[.int .i64 now', .slice a' l'.length c'] 24
  have e7 := E2.blk e7
  have e4 := E2.blk e4
  have c70 := e7.cell (i := 0) rfl
  have c40 := e4.cell (i := 0) rfl
  have c41 := e4.cell (i := 1) rfl
  have f40 := e4.free 0
  have f41 := e4.free 1
  have c80 := b8.cell (i := 0) rfl
  have c81 := b8.cell (i := 1) rfl
  go_wp2
  go_region
  go_wp2
  have b9 := ((e4.set 0 (.int .i64 now')).set 1 (.slice a' l'.length c')).drew
  have O9 := (own_far' (own_far' (hs1.ext E2) (b := w.heap.size + 1 + 1) (by omega) 0 (.int .i64 now')) (b := w.heap.size + 1 + 1) (by omega) 1 (.slice a' l'.length c')).ext (Ext.refl _).drew
  have E9 := (((E1.trans E2).setC (p := ⟨w.heap.size + 1 + 1, 0, none⟩) (by dsimp only; omega) (.int .i64 now')).setC (p := ⟨w.heap.size + 1 + 1, 1, none⟩) (by dsimp only; omega) (.slice a' l'.length c')).drew
  exact ⟨rfl, .tuple #[.agg #[.int .i64 now', .slice a' l'.length c'], .bool b, .int .i64 code], by simp [results, Try.f16, go_sem, b9.cell (i := 0) rfl, b9.cell (i := 1) rfl], Hp.out _ _ (wtv_own O9) E9⟩
end Go.Proofs.Ytabadcnpmfafnaa
