/- Part 4 of the proofs of these statements. No condition. -/
import Derived.Test.YtgajekpigkknnaaDoorM3
import Derived.RangeFuncNested
import Derived.RangeFuncBound
import Derived.RangeFuncCalls
import Derived.RangeFuncLeaves
import Derived.RangeFuncBox
import Derived.OneCell
import Derived.Below
import Derived.Deep.Draws
import Derived.ProofKit
import Derived.OpenShut
import Derived.OrdersIn
import Derived.LoopNIn
set_option linter.unusedVariables false
set_option linter.unusedSimpArgs false
/- The ground of all proofs of this seat: what a step keeps of the heap; a law for a range over a function; a function's end behind such loops. No condition. -/
set_option linter.unusedVariables false
set_option linter.unusedSimpArgs false
namespace Go.Proofs.YtgajekpigkknnaaDoor.J
open Go Go.RowKit

/-- All blocks of w lie in w' as they lay. -/
def Ext (w w' : World) : Prop := Below w.heap.size w w'
theorem Ext.below {w w' : World} (h : Ext w w') : Below w.heap.size w w' := h
theorem Ext.refl (w : World) : Ext w w := Below.refl _ _
theorem Ext.size {w w' : World} (h : Ext w w') : w.heap.size ≤ w'.heap.size := Below.size h
theorem Ext.trans {a b c : World} (h : Ext a b) (k : Ext b c) : Ext a c := Below.trans h (Below.mono k h.size)
theorem Ext.alloc {a w : World} (h : Ext a w) (o : Obj) : Ext a (w.alloc o) := Below.alloc h h.size o
theorem Ext.drew {a w : World} (h : Ext a w) : Ext a w.drew := Below.drew h
theorem Ext.drewN {a w : World} (h : Ext a w) (n : Nat) : Ext a (w.drewN n) := ⟨h.os, h.tape, h.output, Ext.size (w' := w) h, h.block⟩
theorem Ext.heap {w w' : World} (h : Ext w w') {k : Nat} {o : Obj} (hk : w.heap[k]? = some o) : w'.heap[k]? = some o :=
  (h.block k (Array.getElem?_eq_some_iff.1 hk).1).trans hk
theorem Ext.cell {w w' : World} (h : Ext w w') {a : Addr} {v : Value} (hc : w.cell? a = some v) : w'.cell? a = some v :=
  (Below.cell h (World.block_lt_of_cell? w a hc)).trans hc
/-- What is no cells lies as it lay. -/
def Keep0 (w w' : World) : Prop := w.heap.size ≤ w'.heap.size ∧ ∀ (k : Nat) (o : Obj), w.heap[k]? = some o → o.isCells = false → w'.heap[k]? = some o
theorem Keep0.refl (w : World) : Keep0 w w := ⟨Nat.le_refl _, fun _ _ h _ => h⟩
theorem Keep0.trans {a b c : World} (h : Keep0 a b) (k : Keep0 b c) : Keep0 a c := ⟨Nat.le_trans h.1 k.1, fun i o hi ho => k.2 i o (h.2 i o hi ho) ho⟩
theorem Ext.keep0 {w w' : World} (h : Ext w w') : Keep0 w w' := ⟨h.size, fun _ _ hk _ => h.heap hk⟩
theorem Keep0.ext {a b c : World} (h : Keep0 a b) (k : Ext b c) : Keep0 a c := h.trans k.keep0
theorem Keep0.alloc {a b : World} (h : Keep0 a b) (o : Obj) : Keep0 a (b.alloc o) := h.ext ((Ext.refl b).alloc o)
theorem Keep0.drew {a b : World} (h : Keep0 a b) : Keep0 a b.drew := h.ext (Ext.refl b).drew
theorem Keep0.drewN {a b : World} (h : Keep0 a b) (n : Nat) : Keep0 a (b.drewN n) := h.ext ((Ext.refl b).drewN n)
theorem Keep0.setCell {a b : World} (h : Keep0 a b) (p : Addr) (v : Value) : Keep0 a (b.setCell p v) :=
  h.trans ⟨by simp, fun k o hk ho => (KeepsOthers.setCell b p v).same k o hk ho⟩
theorem Keep0.grown {a b c : World} {row : Option Nat} (h : Keep0 a b) (hg : b.grownBy c row) (hrow : ∀ j, row = some j → ∃ o, b.heap[j]? = some o ∧ o.isCells = true) : Keep0 a c :=
  h.trans ⟨hg.size, fun k o hk ho => (hg.block k (Array.getElem?_eq_some_iff.1 hk).1 (fun e => by obtain ⟨o', h1, h2⟩ := hrow k e.symm; rw [hk] at h1; cases h1; rw [ho] at h2; cases h2)).trans hk⟩

/-- A step that turns, of what lies from B on, no cells. -/
structure Gr (B : Nat) (w w' : World) : Prop where
  os : w'.os = w.os
  tape : w'.tape = w.tape
  output : w'.output = w.output
  size : w.heap.size ≤ w'.heap.size
  same : ∀ (k : Nat) (o : Obj), w.heap[k]? = some o → (k < B ∨ o.isCells = true) → w'.heap[k]? = some o
  drawn : w.drawn ≤ w'.drawn
theorem Gr.refl (B : Nat) (w : World) : Gr B w w := ⟨rfl, rfl, rfl, Nat.le_refl _, fun _ _ h _ => h, Nat.le_refl _⟩
theorem Gr.trans {B : Nat} {a b c : World} (h : Gr B a b) (k : Gr B b c) : Gr B a c :=
  ⟨k.os.trans h.os, k.tape.trans h.tape, k.output.trans h.output, Nat.le_trans h.size k.size, fun i o hi ho => k.same i o (h.same i o hi ho) ho, Nat.le_trans h.drawn k.drawn⟩
theorem Gr.mono {B B' : Nat} {a b : World} (h : Gr B a b) (hB : B' ≤ B) : Gr B' a b := ⟨h.os, h.tape, h.output, h.size, fun k o hk ho => h.same k o hk (ho.imp (fun e => Nat.lt_of_lt_of_le e hB) id), h.drawn⟩
theorem Ext.gr {a b : World} (h : Ext a b) (hd : a.drawn ≤ b.drawn) (B : Nat) : Gr B a b := ⟨h.os, h.tape, h.output, h.size, fun _ _ hk _ => h.heap hk, hd⟩
theorem Gr.putObj {B : Nat} {w : World} {r : Nat} {o : Obj} (o' : Obj) (h : w.heap[r]? = some o) (ho : o.isCells = false) (hB : B ≤ r) : Gr B w (w.putObj r o') :=
  ⟨rfl, rfl, rfl, by simp, fun k o'' hk hc => by
    by_cases e : k = r
    · subst e; rw [h] at hk; cases hk
      rcases hc with hc | hc
      · omega
      · rw [ho] at hc; cases hc
    · exact (World.putObj_heap_other e).trans hk, Nat.le_refl _⟩
theorem Gr.alloc (B : Nat) (w : World) (o : Obj) : Gr B w (w.alloc o) := ((Ext.refl w).alloc o).gr (Nat.le_refl _) B
theorem Gr.cell {B : Nat} {w w' : World} (h : Gr B w w') {a : Addr} {v : Value} (hc : w.cell? a = some v) : w'.cell? a = some v := by
  obtain ⟨o, ho, hoc⟩ := cells_of_cell hc
  exact (World.cell?_of_block (w := w) (by rw [h.same _ _ ho (.inr hoc), ho])).trans hc
/-- Block b is a row of cells that may be written. -/
def Blk (w : World) (b : Nat) (t : TypeId) (cs : Array Value) : Prop := w.heap[b]? = some (.cells cs t (0, 0))
theorem Gr.blk {B : Nat} {w w' : World} (h : Gr B w w') {b : Nat} {t : TypeId} {cs : Array Value} (hc : Blk w b t cs) : Blk w' b t cs := h.same _ _ hc (.inr rfl)
theorem Ext.blk {w w' : World} (h : Ext w w') {b : Nat} {t : TypeId} {cs : Array Value} (hc : Blk w b t cs) : Blk w' b t cs := h.heap hc
theorem Gr.below {n B : Nat} {w0 w w' : World} (h : Gr B w w') (hn : n ≤ w0.heap.size) (hB : n ≤ B) (hb : Below n w0 w) : Below n w0 w' :=
  hb.trans ⟨h.os, h.tape, h.output, h.size, fun k hk => by
    have hlt : k < w.heap.size := Nat.lt_of_lt_of_le hk (Nat.le_trans hn hb.size)
    have he : w.heap[k]? = some w.heap[k] := Array.getElem?_eq_getElem hlt
    rw [he]; exact h.same k _ he (.inl (Nat.lt_of_lt_of_le hk hB))⟩
theorem Gr.ext {B : Nat} {w0 w w' : World} (h : Gr B w w') (hB : w0.heap.size ≤ B) (hb : Ext w0 w) : Ext w0 w' := h.below (Nat.le_refl _) hB hb
theorem Blk.new (w : World) (cs : Array Value) (t : TypeId) : Blk (w.alloc (.cells cs t)) w.heap.size t cs := World.alloc_heap_new w _
theorem Blk.lt {w : World} {b : Nat} {t : TypeId} {cs : Array Value} (h : Blk w b t cs) : b < w.heap.size := (Array.getElem?_eq_some_iff.1 h).1
theorem Blk.alloc {w : World} {b : Nat} {t : TypeId} {cs : Array Value} (h : Blk w b t cs) (o : Obj) : Blk (w.alloc o) b t cs := ((Ext.refl w).alloc o).blk h
theorem Blk.drew {w : World} {b : Nat} {t : TypeId} {cs : Array Value} (h : Blk w b t cs) : Blk w.drew b t cs := h
theorem Blk.drewN {w : World} {b : Nat} {t : TypeId} {cs : Array Value} (h : Blk w b t cs) (n : Nat) : Blk (w.drewN n) b t cs := h
theorem Blk.cell {w : World} {b : Nat} {t : TypeId} {cs : Array Value} (h : Blk w b t cs) {i : Nat} {v : Value} (hi : cs[i]? = some v) : w.cell? ⟨b, i, none⟩ = some v := by
  unfold Blk at h; simp [World.cell?, h, hi]
theorem Blk.free {w : World} {b : Nat} {t : TypeId} {cs : Array Value} (h : Blk w b t cs) (i : Nat) : w.frozen? ⟨b, i, none⟩ = false := by
  unfold Blk at h; simp [World.frozen?, h]
theorem Blk.set {w : World} {b : Nat} {t : TypeId} {cs : Array Value} (h : Blk w b t cs) (i : Nat) (v : Value) : Blk (w.setCell ⟨b, i, none⟩ v) b t (cs.setIfInBounds i v) := by
  have hlt := h.lt
  have h' : w.heap[b] = .cells cs t (0, 0) := by unfold Blk at h; simpa [Array.getElem?_eq_getElem hlt] using h
  show (w.heap.modify b _)[b]? = _
  rw [Array.getElem?_eq_getElem (by simpa using hlt), Array.getElem_modify_self, h']
  rfl
theorem Blk.other {w : World} {b : Nat} {t : TypeId} {cs : Array Value} (h : Blk w b t cs) {a : Addr} (ha : b ≠ a.block) (v : Value) : Blk (w.setCell a v) b t cs :=
  (Below.heap_setCell w a v b ha).trans h
theorem Blk.grown {w w' : World} {b : Nat} {t : TypeId} {cs : Array Value} (h : Blk w b t cs) {row : Option Nat} (hg : w.grownBy w' row) (hr : row ≠ some b) : Blk w' b t cs :=
  (hg.block b h.lt (fun e => hr e.symm)).trans h
theorem Gr.owns {B : Nat} {w w' : World} (h : Gr B w w') {base : Nat} {e : TypeId} {size : Nat} {v : Value} {n : Nat} {xs : List Value} (ho : w.ownsRow base e size v n xs) : w'.ownsRow base e size v n xs := by
  obtain ⟨h1, h2⟩ := ho
  refine ⟨h1, ?_⟩
  rcases h2 with h2 | ⟨g, cap, cur, hv, hg, hh, r⟩
  · exact Or.inl h2
  · exact Or.inr ⟨g, cap, cur, hv, hg, h.same _ _ hh (.inr rfl), r⟩
theorem Ext.owns {w w' : World} (h : Ext w w') {base : Nat} {e : TypeId} {size : Nat} {v : Value} {n : Nat} {xs : List Value} (ho : w.ownsRow base e size v n xs) : w'.ownsRow base e size v n xs := by
  obtain ⟨h1, h2⟩ := ho
  refine ⟨h1, ?_⟩
  rcases h2 with h2 | ⟨g, cap, cur, hv, hg, hh, r⟩
  · exact Or.inl h2
  · exact Or.inr ⟨g, cap, cur, hv, hg, h.heap hh, r⟩

/-! ### The fence that lets everything in -/
theorem cin {P : Program} {f : FuncId} {args : Array Value} {w : World} {R : Ending → World → Prop} {n : Nat} (h : Calls P f args w R) : CallsIn Fence.wide n P f args w R := callsIn_wide.2 h
theorem cinR {P : Program} {f : FuncId} {args : Array Value} {w : World} {R : Ending → World → Prop} {n : Nat} (l : Nat) (h : Calls P f args w R) : CallsIn (Fence.wide.inRound l) n P f args w R := CallsIn.inRound l (callsIn_wide.2 h)

/-! ### An iterator's contract -/
/-- A call of yield. -/
def YieldC (P : Program) (l : Nat) (args : Array Value) (W : World) (R : Ending → World → Prop) : Prop :=
  ∃ fn tmps assign body, (Instr.yield l args).run P W = .ok (.round l fn tmps assign body) W ∧ RoundIn Fence.wide 0 P l fn tmps assign body W R

/-- The walk stands at a call of yield. -/
theorem upon_yield {P : Program} {o : Oper} {a : Act} {next : Act → World → Prop} {Q : Exit → Act → World → Prop} {l : Nat} {args : Array Value} {W : World} {R : Ending → World → Prop} (h : YieldC P l args W R)
    (hn : ∀ e W', R e W' → ∃ v, e = .returned v ∧ next (a.put o.dst v) W') : o.uponIn Fence.wide 0 P a next Q ((Instr.yield l args).run P W) := by
  obtain ⟨fn, tmps, assign, body, hy, hR⟩ := h
  rw [hy, Oper.uponIn_round]
  exact ⟨fun h => (by cases h), hR.mono fun e w' hr => by obtain ⟨v, rfl, hv⟩ := hn e w' hr; exact hv⟩
theorem upon_yield_in {P : Program} {o : Oper} {a : Act} {next : Act → World → Prop} {Q : Exit → Act → World → Prop} {l m : Nat} {args : Array Value} {W : World} {R : Ending → World → Prop} (h : YieldC P l args W R)
    (hn : ∀ e W', R e W' → ∃ v, e = .returned v ∧ next (a.put o.dst v) W') : o.uponIn (Fence.wide.inRound m) 0 P a next Q ((Instr.yield l args).run P W) := by
  obtain ⟨fn, tmps, assign, body, hy, hR⟩ := h
  rw [hy, Oper.uponIn_round]
  exact ⟨fun h => (by cases h), RoundIn.mono (F := Fence.wide.inRound m) hR fun e w' hr => by obtain ⟨v, rfl, hv⟩ := hn e w' hr; exact hv⟩

/-- Behind an iterator: all has come; or a round has said 'no more'. -/
def IterEnd {α : Type} (J Jx : List α → World → Prop) (xs : List α) (e : Ending) (B : World) : Prop := (∃ v, e = .returned v) ∧ (J xs B ∨ ∃ pre x post, xs = pre ++ x :: post ∧ Jx (pre ++ [x]) B)
theorem IterEnd.all {α : Type} {J Jx : List α → World → Prop} {xs pre : List α} {v : Value} {B : World} (h : xs = pre) (hj : J pre B) : IterEnd J Jx xs (.returned v) B := ⟨⟨v, rfl⟩, .inl (h ▸ hj)⟩
theorem IterEnd.part {α : Type} {J Jx : List α → World → Prop} {xs pre post : List α} {x : α} {v : Value} {B : World} (h : xs = pre ++ x :: post) (hj : Jx (pre ++ [x]) B) : IterEnd J Jx xs (.returned v) B := ⟨⟨v, rfl⟩, .inr ⟨pre, x, post, h, hj⟩⟩

/-- Called with whatever yield, where N holds all the while, function g (capturing lb) hands over xs, one by one, till a round says 'no more'. -/
def IterOf {α : Type} (P : Program) (g : Nat) (lb : Array Value) (enc : α → Array Value) (xs : List α) (N : World → Prop) : Prop :=
  ∀ (l : Nat) (J Jx : List α → World → Prop) (W : World),
    (∀ pre A B, J pre A → Gr W.heap.size A B → J pre B) → (∀ pre A B, Jx pre A → Gr W.heap.size A B → Jx pre B) →
    (∀ pre A, J pre A → N A) → J [] W →
    (∀ pre x post A, xs = pre ++ x :: post → J pre A → YieldC P l (enc x) A fun e B =>
      (e = .returned (.bool true) ∧ J (pre ++ [x]) B) ∨ (e = .returned (.bool false) ∧ Jx (pre ++ [x]) B)) →
    Calls P g (#[.func (.yield l) #[] #[]] ++ lb) W (IterEnd J Jx xs)

theorem IterOf.mono {α : Type} {P : Program} {g : Nat} {lb : Array Value} {enc : α → Array Value} {xs : List α} {N M : World → Prop} (h : IterOf P g lb enc xs N) (k : ∀ A, M A → N A) : IterOf P g lb enc xs M :=
  fun l J Jx W s1 s2 hE h0 hY => h l J Jx W s1 s2 (fun pre A hj => k A (hE pre A hj)) h0 hY

/-! ### The statement 'for .. := range f' -/
def mark (D : Nat) : Deferred := { target := .collected D, args := #[] }

theorem enters_run {P : Program} {a : Act} {g : Operand} {gf : Nat} {lb : Array Value} (hg : a.eval g = .func (.func gf) #[] lb) (l : Nat) (W : World) :
    (resolve a.eval (rangeCall g l) 0).run P W = .ok { target := .fn (.func gf) lb, args := #[.func (.yield l) #[] #[]] } W := by
  simp only [resolve, hg]; simp [go_sem]

/-- The marks that loops over iterators have left, of blocks from n on. -/
def Marks (n : Nat) (ds : List Deferred) (w : World) : Prop := ∃ Ds : List Nat, ds = Ds.map mark ∧ Ds.Nodup ∧ ∀ D ∈ Ds, n ≤ D ∧ w.heap[D]? = some (.deferred (some []))
theorem Marks.nil (n : Nat) (w : World) : Marks n [] w := ⟨[], rfl, List.nodup_nil, fun _ h => by cases h⟩
theorem Marks.keep {n : Nat} {ds : List Deferred} {w w' : World} (h : Marks n ds w) (k : Keep0 w w') : Marks n ds w' :=
  let ⟨Ds, h1, h2, h3⟩ := h
  ⟨Ds, h1, h2, fun D hD => ⟨(h3 D hD).1, k.2 _ _ (h3 D hD).2 rfl⟩⟩
theorem Marks.more {n : Nat} {ds : List Deferred} {w : World} {D : Nat} (h : Marks n ds w) (hn : n ≤ D) (hD : w.heap[D]? = some (.deferred (some []))) (hne : ∀ d ∈ ds, d ≠ mark D) : Marks n (mark D :: ds) w := by
  obtain ⟨Ds, rfl, h2, h3⟩ := h
  refine ⟨D :: Ds, rfl, List.nodup_cons.2 ⟨fun hm => hne _ (List.mem_map_of_mem hm) rfl, h2⟩, ?_⟩
  rintro E (hE | ⟨_, hE⟩)
  · exact ⟨hn, hD⟩
  · exact h3 _ (by assumption)

/-! ### A function's end behind such loops -/
/-- Whatever marks stand, the results read v and R holds, also behind steps that turn no cells. -/
def postM (P : Program) (fn : Func) (n : Nat) (R : Ending → World → Prop) : Exit → Act → World → Prop
  | .normal, a, A | .ret, a, A => Marks n a.defers A ∧ ∃ v, ∀ B, Gr n A B → (results fn a.tmps).run P B = .ok v B ∧ R (.returned v) B
  | _, _, _ => False

theorem leaves_marks {P : Program} {fn : Func} {tmps : Array Value} {n : Nat} {v : Value} {R : Ending → World → Prop} : ∀ (Ds : List Nat) (A : World), Ds.Nodup → (∀ D ∈ Ds, n ≤ D ∧ A.heap[D]? = some (.deferred (some []))) →
    (∀ B, Gr n A B → (results fn tmps).run P B = .ok v B ∧ R (.returned v) B) → LeavesInM Fence.wide 0 P fn tmps R (Ds.map mark) .returning A
  | [], A, _, _, h => ⟨v, h A (Gr.refl _ _)⟩
  | D :: Ds, A, hnd, hD, h => by
    have h1 := hD D (by simp)
    have hg : Gr n A (A.putObj D (.deferred none)) := Gr.putObj _ h1.2 rfl h1.1
    refine ⟨by simp, .inl ⟨D, _, rfl, run_takeDeferred h1.2, leaves_marks Ds _ (List.nodup_cons.1 hnd).2 ?_ (fun B hB => h B (hg.trans hB))⟩⟩
    intro E hE
    have hne : E ≠ D := fun e => (List.nodup_cons.1 hnd).1 (e ▸ hE)
    exact ⟨(hD E (by simp [hE])).1, (World.putObj_heap_other hne).trans (hD E (by simp [hE])).2⟩

theorem calls_marks {P : Program} {f : FuncId} {fn : Func} {c : Code} {args : Array Value} {w : World} {R : Ending → World → Prop} (hf : P.funcs[f]? = some fn) (hb : fn.body = some c)
    (h : c.wpIn Fence.wide 0 P (postM P fn w.heap.size R) { tmps := args ++ Array.replicate (fn.ntmps - args.size) undef, defers := [] } w) : Calls P f args w R := by
  refine callsIn_wide.1 (callsIn_of_wp_marks (n := 0) hf hb trivial (wpIn_mono h ?_))
  rintro e a A hp
  cases e with
  | normal => obtain ⟨⟨Ds, h1, h2, h3⟩, v, hv⟩ := hp; show LeavesInM _ _ _ _ _ _ _ _ _; rw [h1]; exact leaves_marks Ds A h2 h3 hv
  | ret => obtain ⟨⟨Ds, h1, h2, h3⟩, v, hv⟩ := hp; show LeavesInM _ _ _ _ _ _ _ _ _; rw [h1]; exact leaves_marks Ds A h2 h3 hv
  | exit id => exact hp.elim
  | goto t => exact hp.elim
  | panic ch => exact hp.elim
  | outgrown => exact hp.elim
end Go.Proofs.YtgajekpigkknnaaDoor.J

/- How arguments of whole numbers, bools, and structs, arrays and slices of these read: the cells that a reading meets. No condition. -/
set_option linter.unusedVariables false
set_option linter.unusedSimpArgs false
namespace Go.Proofs.YtgajekpigkknnaaDoor.J
open Go Go.RowKit

/-- The kind of a cell. -/
inductive CK where
  | i (k : IntKind)
  | b
def CK.fits : CK → Value → Prop
  | .i k, v => ∃ n, v = .int k n ∧ (Lit.int k n).wf = true
  | .b, v => ∃ x, v = .bool x
def Fits : List CK → List Value → Prop
  | [], [] => True
  | k :: ks, c :: cs => k.fits c ∧ Fits ks cs
  | _, _ => False
theorem Fits.append : ∀ {k1 k2 : List CK} {c1 c2 : List Value}, Fits k1 c1 → Fits k2 c2 → Fits (k1 ++ k2) (c1 ++ c2)
  | [], _, [], _, _, h => h
  | _ :: _, _, _ :: _, _, h1, h => ⟨h1.1, Fits.append h1.2 h⟩
theorem Fits.length : ∀ {ks : List CK} {cs : List Value}, Fits ks cs → ks.length = cs.length
  | [], [], _ => rfl
  | _ :: _, _ :: _, h => by simp [Fits.length h.2]

def flatFs (P : Program) (fl : TypeId → Option (List CK)) : List Field → Nat → Option (List CK)
  | [], _ => some []
  | f :: r, o =>
    if f.offset = o then
      match fl f.type with
      | some l => if l.length = P.cellsOf f.type then (flatFs P fl r (o + l.length)).map (l ++ ·) else none
      | none => none
    else none
/-- The kinds of a type's cells, where these are whole numbers and bools alone. -/
def flat (P : Program) : Nat → TypeId → Option (List CK)
  | 0, _ => none
  | n + 1, t =>
    match P.underlying t with
    | some .bool => some [.b]
    | some (.int k) => some [.i k]
    | some (.struct fs) => (flatFs P (flat P n) fs.toList 0).bind fun l => if l.length = P.cellsOf t then some l else none
    | some (.array m e) => (flat P n e).bind fun l => if l.length = P.cellsOf e ∧ m * P.cellsOf e = P.cellsOf t then some (List.replicate m l).flatten else none
    | _ => none

theorem mapM_cons_some {α β : Type} {f : α → Option β} {a : α} {l : List α} {ys : List β} (h : (a :: l).mapM f = some ys) : ∃ y r, f a = some y ∧ l.mapM f = some r ∧ ys = y :: r := by
  simp only [List.mapM_cons, Option.bind_eq_bind, Option.pure_def, Option.bind_eq_some_iff, Option.some.injEq] at h
  obtain ⟨y, h1, r, h2, h3⟩ := h
  exact ⟨y, r, h1, h2, h3.symm⟩
theorem mapM_mem {α β : Type} {f : α → Option β} : ∀ {l : List α} {ys : List β}, l.mapM f = some ys → ∀ a ∈ l, ∃ y, f a = some y
  | [], _, _, _, ha => by cases ha
  | b :: l, _, h, a, ha => by
    obtain ⟨y, r, h1, h2, rfl⟩ := mapM_cons_some h
    rcases List.mem_cons.1 ha with rfl | ha
    · exact ⟨y, h1⟩
    · exact mapM_mem h2 a ha

section
variable {H : Type} {enc : TypeId × Value → H} {P : Program} {w : World} {base : Nat} {spare : Nat → Bool} {held : Bool}
theorem trod_flatFs {n fuel : Nat} {cs : List Value} (ih : ∀ t cs x ks, flat P n t = some ks → DataW.trod enc P w base spare held fuel t cs = some x → Fits ks cs) :
    ∀ (fs : List Field) (o : Nat) (l : List CK) ys, flatFs P (flat P n) fs o = some l →
      fs.mapM (fun f => DataW.trod enc P w base spare held fuel f.type ((cs.drop f.offset).take (P.cellsOf f.type))) = some ys → Fits l ((cs.drop o).take l.length)
  | [], o, l, ys, h, _ => by simp only [flatFs, Option.some.injEq] at h; subst h; simp [Fits]
  | f :: r, o, l, ys, h, hm => by
    obtain ⟨y, r', h1, h2, rfl⟩ := mapM_cons_some hm
    simp only [flatFs] at h
    split at h
    · rename_i ho
      cases hf : flat P n f.type with
      | none => rw [hf] at h; cases h
      | some lf =>
        rw [hf] at h; dsimp only at h
        split at h
        · rename_i hl
          obtain ⟨l2, h3, rfl⟩ := Option.map_eq_some_iff.1 h
          have k1 := ih _ _ _ _ hf h1
          have k2 := trod_flatFs ih r _ _ _ h3 h2
          rw [ho, ← hl] at k1
          have e : (cs.drop o).take (lf ++ l2).length = (cs.drop o).take lf.length ++ (cs.drop (o + lf.length)).take l2.length := by
            rw [List.length_append, List.take_add, List.drop_drop]
          rw [e]; exact k1.append k2
        · cases h
    · cases h

theorem chunks_fit {l : List CK} {s : Nat} {cs : List Value} : ∀ (m : Nat), (∀ i, i < m → Fits l ((cs.drop (i * s)).take s)) → Fits (List.replicate m l).flatten (cs.take (m * s))
  | 0, _ => by simp [Fits]
  | m + 1, h => by
    have e : cs.take ((m + 1) * s) = cs.take (m * s) ++ (cs.drop (m * s)).take s := by rw [Nat.succ_mul, List.take_add]
    rw [e, List.replicate_succ', List.flatten_append]
    exact (chunks_fit m (fun i hi => h i (by omega))).append (by simpa using h m (by omega))

theorem trod_flat : ∀ (n fuel : Nat) (t : TypeId) (cs : List Value) x ks, flat P n t = some ks → DataW.trod enc P w base spare held fuel t cs = some x → Fits ks cs
  | 0, _, _, _, _, _, h, _ => by cases h
  | _ + 1, 0, _, _, _, _, _, h => by simp [DataW.trod] at h
  | n + 1, fuel + 1, t, cs, x, ks, h, ht => by
    have ih := fun t cs x ks => trod_flat n fuel t cs x ks
    simp only [flat] at h
    split at h
    · rename_i hu
      cases h
      simp only [DataW.trod, hu] at ht
      split at ht <;> first | (cases ht; done) | skip
      all_goals simp_all [Fits, CK.fits]
    · rename_i k hu
      cases h
      obtain ⟨n', rfl, _, hw⟩ := DataW.trod_int hu ht
      exact ⟨⟨n', rfl, hw⟩, trivial⟩
    · rename_i fs hu
      obtain ⟨l, hl, h2⟩ := Option.bind_eq_some_iff.1 h
      split at h2
      · rename_i hlen
        cases h2
        have ht' : (if cs.length = P.cellsOf t then (fs.toList.mapM fun f => DataW.trod enc P w base spare held fuel f.type ((cs.drop f.offset).take (P.cellsOf f.type))).map fun xs => ((.agg (xs.map (·.1)) : DataW H), xs.flatMap (·.2)) else none) = some x := by
          rw [← ht]; simp only [DataW.trod, hu]
        split at ht'
        · rename_i hc
          obtain ⟨ys, hys, _⟩ := Option.map_eq_some_iff.1 ht'
          have := trod_flatFs ih _ _ _ _ hl hys
          rw [hlen, ← hc] at this
          simpa using this
        · cases ht'
      · cases h2
    · rename_i m e hu
      obtain ⟨l, hl, h2⟩ := Option.bind_eq_some_iff.1 h
      split at h2
      · rename_i hlen
        cases h2
        have ht' : (if cs.length = P.cellsOf t then ((List.range m).mapM fun i => DataW.trod enc P w base spare held fuel e ((cs.drop (i * P.cellsOf e)).take (P.cellsOf e))).map fun xs => ((.agg (xs.map (·.1)) : DataW H), xs.flatMap (·.2)) else none) = some x := by
          rw [← ht]; simp only [DataW.trod, hu]
        split at ht'
        · rename_i hc
          obtain ⟨ys, hys, _⟩ := Option.map_eq_some_iff.1 ht'
          have := chunks_fit (l := l) (s := P.cellsOf e) (cs := cs) m (fun i hi => by
            obtain ⟨y, hy⟩ := mapM_mem hys i (List.mem_range.2 hi)
            exact ih _ _ _ _ hl hy)
          rw [hlen.2, ← hc] at this
          simpa using this
        · cases ht'
      · cases h2
    · cases h

/-- A slice's elements' cells. -/
def SlC (w : World) (k : Nat) (a : Option Addr) (css : List (List Value)) : Prop :=
  ∀ i cs, css[i]? = some cs → cs.length = k ∧ ∃ b o, a = some ⟨b, o, none⟩ ∧ ∀ j u, cs[j]? = some u → w.cell? ⟨b, o + i * k + j, none⟩ = some u
theorem SlC.nil (w : World) (k : Nat) (a : Option Addr) : SlC w k a [] := fun i cs h => by simp at h
theorem SlC.ext {w w' : World} {k : Nat} {a : Option Addr} {css : List (List Value)} (h : SlC w k a css) (he : Ext w w') : SlC w' k a css := fun i cs hi =>
  let ⟨h1, b, o, h2, h3⟩ := h i cs hi
  ⟨h1, b, o, h2, fun j u hj => he.cell (h3 j u hj)⟩
theorem SlC.gr {B : Nat} {w w' : World} {k : Nat} {a : Option Addr} {css : List (List Value)} (h : SlC w k a css) (he : Gr B w w') : SlC w' k a css := fun i cs hi =>
  let ⟨h1, b, o, h2, h3⟩ := h i cs hi
  ⟨h1, b, o, h2, fun j u hj => he.cell (h3 j u hj)⟩

theorem cells?_get {w : World} {a : Addr} {n : Nat} {cs : List Value} (h : w.cells? 0 a n = some cs) : cs.length = n ∧ ∀ j, j < n → w.cell? (a.add j) = cs[j]? := by
  simp only [World.cells?, Nat.zero_le, if_true] at h
  have key : ∀ (l : List Nat) (cs : List Value), l.mapM (fun i => w.cell? (a.add i)) = some cs → cs.length = l.length ∧ ∀ j (hj : j < l.length), w.cell? (a.add l[j]) = cs[j]? := by
    intro l
    induction l with
    | nil => intro cs h; simp at h; subst h; exact ⟨rfl, fun j hj => by simp at hj⟩
    | cons b l ih =>
      intro cs h
      obtain ⟨y, r, h1, h2, rfl⟩ := mapM_cons_some h
      obtain ⟨k1, k2⟩ := ih r h2
      refine ⟨by simp [k1], fun j hj => ?_⟩
      cases j with
      | zero => simpa using h1
      | succ j => simpa using k2 j (by simpa using hj)
  obtain ⟨h1, h2⟩ := key _ _ h
  refine ⟨by simpa using h1, fun j hj => ?_⟩
  have := h2 j (by simpa using hj)
  simpa using this

theorem spot_none {w : World} {a : Addr} {v : Value} (h : w.cell? a = some v) : a.spot = none := by
  unfold World.cell? at h
  split at h
  · split at h
    · cases h
    · rename_i hs; simpa using hs
  · cases h
theorem add_eq (b o n : Nat) : (⟨b, o, none⟩ : Addr).add n = ⟨b, o + n, none⟩ := by unfold Addr.add; split <;> simp_all

theorem exists_list {α : Type} {Q : Nat → α → Prop} : ∀ n, (∀ i, i < n → ∃ c, Q i c) → ∃ l : List α, l.length = n ∧ ∀ i c, l[i]? = some c → Q i c
  | 0, _ => ⟨[], rfl, fun i c h => by simp at h⟩
  | n + 1, h => by
    obtain ⟨l, h1, h2⟩ := exists_list n (fun i hi => h i (by omega))
    obtain ⟨c, hc⟩ := h n (by omega)
    refine ⟨l ++ [c], by simp [h1], fun i d hd => ?_⟩
    by_cases hi : i < l.length
    · rw [List.getElem?_append_left hi] at hd; exact h2 i d hd
    · have hi' : i = l.length := by
        have := (List.getElem?_eq_some_iff.1 hd).1; simp at this; omega
      subst hi'
      simp at hd; subst hd; rw [h1]; exact hc

/-- A slice of such elements, as it reads. -/
theorem trod_slice {fuel k : Nat} {t e : TypeId} {cs : List Value} {x : DataW H × List MemPlace} (ht : P.underlying t = some (.slice e)) (hk : k = P.cellsOf e) (hpos : 0 < k)
    (h : DataW.trod enc P w 0 spare held fuel t cs = some x) : ∃ a len cap css, cs = [.slice a len cap] ∧ len = css.length ∧ len ≤ cap ∧ cap ≤ maxLen ∧ SlC w k a css ∧ ∀ c ∈ css, ∃ fuel y, DataW.trod enc P w 0 spare held fuel e c = some y := by
  cases fuel with
  | zero => simp [DataW.trod] at h
  | succ fuel =>
    simp only [DataW.trod, ht] at h
    split at h
    all_goals try (cases h; done)
    all_goals first | (rename_i h1; cases h1; done) | skip
    · exact ⟨none, 0, 0, [], rfl, rfl, Nat.le_refl _, Nat.zero_le _, SlC.nil _ _ _, fun c hc => by cases hc⟩
    · rename_i e' a len cap hu
      cases hu
      split at h
      · rename_i hb
        obtain ⟨elems, he, _⟩ := Option.bind_eq_some_iff.1 h
        have hel : ∀ i, i < len → ∃ c, w.cells? 0 (a.add (i * P.cellsOf e)) (P.cellsOf e) = some c ∧ ∃ fuel y, DataW.trod enc P w 0 spare held fuel e c = some y := fun i hi => by
          obtain ⟨y, hy⟩ := mapM_mem he i (List.mem_range.2 hi)
          obtain ⟨c, hc1, hc2⟩ := Option.bind_eq_some_iff.1 hy
          exact ⟨c, hc1, fuel, y, hc2⟩
        obtain ⟨css, hcl, hcs⟩ := exists_list len hel
        refine ⟨some a, len, cap, css, rfl, hcl.symm, hb.2.1, hb.2.2, ?_, ?_⟩
        · intro i c hi
          have hs := hcs i c hi
          have hlt' : i < len := by have := (List.getElem?_eq_some_iff.1 hi).1; omega
          obtain ⟨hl, hg⟩ := cells?_get hs.1
          refine ⟨by rw [hl, hk], ?_⟩
          have h0 : w.cell? ((a.add (i * P.cellsOf e)).add 0) = c[0]? := hg 0 (by omega)
          have hc0 : ∃ u, c[0]? = some u := ⟨c[0]'(by omega), by simp⟩
          obtain ⟨u, hu⟩ := hc0
          rw [hu] at h0
          have hsp := spot_none h0
          have hspa : a.add (i * P.cellsOf e) = ⟨a.block, a.off + i * P.cellsOf e, none⟩ := by
            obtain ⟨ab, ao, as⟩ := a
            by_cases h0i : i * P.cellsOf e = 0
            · simp only [Addr.add, h0i, if_true] at hsp ⊢
              subst hsp; simp
            · simp [Addr.add, h0i]
          refine ⟨a.block, a.off, ?_, ?_⟩
          · have h00 : 0 < len := by omega
            obtain ⟨c', hc'1, _⟩ := hel 0 h00
            obtain ⟨hl', hg'⟩ := cells?_get hc'1
            have h1 := hg' 0 (by omega)
            have : ∃ u, c'[0]? = some u := ⟨c'[0]'(by omega), by simp⟩
            obtain ⟨u', hu'⟩ := this
            rw [hu'] at h1
            have hs0 := spot_none h1
            obtain ⟨ab, ao, as⟩ := a
            simp [Addr.add] at hs0 ⊢
            exact hs0
          · intro j v hj
            have hjl : j < c.length := (List.getElem?_eq_some_iff.1 hj).1
            have := hg j (by omega)
            rw [hspa, add_eq, hj] at this
            rw [hk]; exact this
        · intro c hc
          obtain ⟨i, hi⟩ := List.mem_iff_getElem?.1 hc
          exact (hcs i c hi).2
      · cases h
end

/-! ### Readings, without their data -/
/-- These cells read as a value of type t. -/
def RdC (P : Program) (w : World) (t : TypeId) (cs : List Value) : Prop :=
  ∃ (H : Type) (enc : TypeId × Value → H) (held : Bool) (fuel : Nat) (x : DataW H × List MemPlace), DataW.trod enc P w 0 (fun _ => true) held fuel t cs = some x
/-- An argument. -/
def Reads (P : Program) (w : World) (t : TypeId) (v : Value) : Prop := (∃ base, Value.okWide P w .any base t v) ∧ RdC P w t v.cells.toList
section
variable {P : Program} {w : World} {t : TypeId} {cs : List Value} {v : Value}
theorem RdC.int {k : IntKind} (h : RdC P w t cs) (ht : P.underlying t = some (.int k)) : ∃ n, cs = [.int k n] ∧ (Lit.int k n).wf = true := by
  obtain ⟨H, enc, held, fuel, x, h⟩ := h
  cases fuel with
  | zero => simp [DataW.trod] at h
  | succ fuel => obtain ⟨n, h1, _, h2⟩ := DataW.trod_int ht h; exact ⟨n, h1, h2⟩
theorem RdC.flat {n : Nat} {ks : List CK} (h : RdC P w t cs) (hf : flat P n t = some ks) : Fits ks cs := by
  obtain ⟨H, enc, held, fuel, x, h⟩ := h
  exact trod_flat n fuel t cs x ks hf h
theorem RdC.bool (h : RdC P w t cs) (ht : P.underlying t = some .bool) : ∃ b, cs = [.bool b] := by
  have h1 := h.flat (n := 1) (ks := [.b]) (by simp [J.flat, ht])
  match cs, h1 with
  | [c], ⟨⟨b, hb⟩, _⟩ => exact ⟨b, by rw [hb]⟩
theorem RdC.slice {e : TypeId} {k : Nat} (h : RdC P w t cs) (ht : P.underlying t = some (.slice e)) (hk : k = P.cellsOf e) (hpos : 0 < k) :
    ∃ a cap css, cs = [.slice a css.length cap] ∧ css.length ≤ cap ∧ cap ≤ maxLen ∧ SlC w k a css ∧ ∀ c ∈ css, RdC P w e c := by
  obtain ⟨H, enc, held, fuel, x, h⟩ := h
  obtain ⟨a, len, cap, css, h1, rfl, h3, h4, h5, h6⟩ := trod_slice ht hk hpos h
  exact ⟨a, cap, css, h1, h3, h4, h5, fun c hc => let ⟨f, y, hy⟩ := h6 c hc; ⟨H, enc, held, f, y, hy⟩⟩
theorem RdC.struct {fs : Array Field} (h : RdC P w t cs) (ht : P.underlying t = some (.struct fs)) :
    cs.length = P.cellsOf t ∧ ∀ f ∈ fs.toList, RdC P w f.type ((cs.drop f.offset).take (P.cellsOf f.type)) := by
  obtain ⟨H, enc, held, fuel, x, h⟩ := h
  cases fuel with
  | zero => simp [DataW.trod] at h
  | succ fuel =>
    have h' : (if cs.length = P.cellsOf t then (fs.toList.mapM fun f => DataW.trod enc P w 0 (fun _ => true) held fuel f.type ((cs.drop f.offset).take (P.cellsOf f.type))).map fun xs => ((.agg (xs.map (·.1)) : DataW H), xs.flatMap (·.2)) else none) = some x := by
      rw [← h]; simp only [DataW.trod, ht]
    split at h'
    · rename_i hc
      obtain ⟨ys, hys, _⟩ := Option.map_eq_some_iff.1 h'
      exact ⟨hc, fun f hf => let ⟨y, hy⟩ := mapM_mem hys f hf; ⟨H, enc, held, fuel, y, hy⟩⟩
    · cases h'
theorem Reads.int {k : IntKind} (h : Reads P w t v) (ht : P.underlying t = some (.int k)) : ∃ n, v = .int k n ∧ (Lit.int k n).wf = true := by
  obtain ⟨⟨base, hb⟩, h⟩ := h
  obtain ⟨n, rfl⟩ := Go.WideShapes.okWide_int ht hb
  obtain ⟨m, h1, h2⟩ := h.int ht
  simp [Value.cells] at h1
  exact ⟨n, rfl, by rw [h1]; exact h2⟩
theorem Reads.bool (h : Reads P w t v) (ht : P.underlying t = some .bool) : ∃ b, v = .bool b := by
  obtain ⟨⟨base, hb⟩, h⟩ := h
  exact Go.WideShapes.okWide_bool ht hb
theorem Reads.agg {fs : Array Field} (h : Reads P w t v) (ht : P.underlying t = some (.struct fs)) : ∃ cs : List Value, v = .agg cs.toArray ∧ RdC P w t cs := by
  obtain ⟨⟨base, hb⟩, h⟩ := h
  obtain ⟨cs, rfl, _⟩ := Go.WideShapes.okWide_struct ht hb
  exact ⟨cs.toList, by simp, h⟩
theorem Reads.slice {e : TypeId} {k : Nat} (h : Reads P w t v) (ht : P.underlying t = some (.slice e)) (hk : k = P.cellsOf e) (hpos : 0 < k) :
    ∃ a cap css, v = .slice a css.length cap ∧ css.length ≤ cap ∧ cap ≤ maxLen ∧ SlC w k a css ∧ ∀ c ∈ css, RdC P w e c := by
  obtain ⟨⟨base, hb⟩, h⟩ := h
  obtain ⟨a, len, cap, rfl⟩ := Go.WideShapes.okWide_slice ht hb
  obtain ⟨a', cap', css, h1, h2, h3, h4, h5⟩ := h.slice ht hk hpos
  simp [Value.cells] at h1
  obtain ⟨rfl, rfl, rfl⟩ := h1
  exact ⟨_, _, css, rfl, h2, h3, h4, h5⟩
end
end Go.Proofs.YtgajekpigkknnaaDoor.J

/- What is known while a code runs: loops over iterators, frames; one operation, calls too. No condition. -/
namespace Go.Proofs.YtgajekpigkknnaaDoor.A
open Go
variable {U : Nat → Prop} {w w' : World} {Pr Pr' : Nat → Nat → Prop} {σ σ' : List Blk} {γ γ' : List Ghost} {ls : List Nat} {P : Program} {G : Nat → Option (List AV)}

/-- A loop over an iterator: its block, its record. -/
structure Lp where
  l : Nat
  rc : LoopState → Option Code → Loop
def exitCode : AExit → Option Code
  | .normal => none
  | .exit i => some (.exit i)
  | .ret => some .ret
def Lp.at (h : Lp) : Option AExit → Loop
  | none => h.rc .ready none
  | some ex => h.rc .done (exitCode ex)
def lsOf (hs : List Lp) : List Nat := hs.map (·.l)
/-- The loops' records lie as told. -/
def PendOk (w : World) (hs : List Lp) (pend : List (Option AExit)) : Prop :=
  pend.length = hs.length ∧ ∀ (d : Nat) h p, hs[d]? = some h → pend[d]? = some p → w.heap[h.l]? = some (.loop (h.at p)) ∧ p ≠ some .normal

theorem PendOk.evo {hs : List Lp} {pend : List (Option AExit)} (h : PendOk w hs pend) (hE : Evo U [] w Pr w' Pr') : PendOk w' hs pend :=
  ⟨h.1, fun d k p h1 h2 => ⟨hE.keep _ _ (h.2 d k p h1 h2).1 rfl (by simp), (h.2 d k p h1 h2).2⟩⟩
theorem PendOk.isLoop {hs : List Lp} {pend : List (Option AExit)} (h : PendOk w hs pend) {l : Nat} (hl : l ∈ lsOf hs) : ∃ r, w.heap[l]? = some (.loop r) := by
  obtain ⟨k, hk, rfl⟩ := List.mem_map.1 hl
  obtain ⟨d, hd, he⟩ := List.mem_iff_getElem.1 hk
  exact ⟨_, (h.2 d k (pend[d]'(by rw [h.1]; exact hd)) (by rw [List.getElem?_eq_getElem hd, he]) (List.getElem?_eq_getElem _)).1⟩
theorem PendOk.take {hs : List Lp} {pend : List (Option AExit)} (h : PendOk w hs pend) (m : Nat) : PendOk w (hs.take m) (pend.take m) :=
  ⟨by simp [h.1], fun d k p h1 h2 => h.2 d k p (take_get h1).2 (take_get h2).2⟩

theorem Evo.more {ls' : List Nat} (h : Evo U ls w Pr w' Pr') (hl : ∀ l ∈ ls, l ∈ ls') : Evo U ls' w Pr w' Pr' :=
  ⟨h.os, h.tape, h.output, h.size, h.same, fun b o h1 h2 h3 => h.keep b o h1 h2 (fun hx => h3 (hl b hx)), h.stays, h.prot, h.drawn⟩
theorem Evo.wider {U' : Nat → Prop} (h : Evo U ls w Pr w' Pr') (hu : ∀ b, U b → U' b) : Evo U' ls w Pr w' Pr' :=
  ⟨h.os, h.tape, h.output, h.size, fun b hb => h.same b (fun hx => hb (hu b hx)), h.keep, h.stays, fun b i hb hp => h.prot b i (fun hx => hb (hu b hx)) hp, h.drawn⟩

theorem PendOk.join {hs : List Lp} {pend pend' : List (Option AExit)} {m : Nat} (h : PendOk w hs pend) (hn : (lsOf hs).Nodup) (h' : PendOk w' (hs.take m) (pend'.take m)) (hm : m ≤ hs.length) (hd : pend'.drop m = pend.drop m)
    (hE : Evo U (lsOf (hs.take m)) w Pr w' Pr') : PendOk w' hs pend' := by
  have hlen : pend'.length = hs.length := by
    have h1 := congrArg List.length hd
    have h2 := h'.1
    have h3 := h.1
    simp at h1 h2; omega
  refine ⟨hlen, fun d k p h1 h2 => ?_⟩
  by_cases hdm : d < m
  · exact h'.2 d k p (get_take hdm h1) (get_take hdm h2)
  · have h3 : pend[d]? = some p := by
      have := congrArg (fun l => l[d - m]?) hd
      simp only [List.getElem?_drop] at this
      rw [show m + (d - m) = d from by omega] at this
      rw [← this]; exact h2
    obtain ⟨h4, h5⟩ := h.2 d k p h1 h3
    refine ⟨hE.keep _ _ h4 rfl (fun hx => ?_), h5⟩
    obtain ⟨k', hk', he⟩ := List.mem_map.1 hx
    obtain ⟨i, hi, he'⟩ := List.mem_iff_getElem.1 hk'
    have hi' : i < m := by simp at hi; omega
    have hd' : d < hs.length := (List.getElem?_eq_some_iff.1 h1).1
    have hkd : hs[d] = k := (List.getElem?_eq_some_iff.1 h1).2
    have := (List.getElem_inj (i := i) (j := d) (h₀ := by simp [lsOf]; simp at hi; omega) (h₁ := by simp [lsOf]; exact hd') hn).1 (by
      simp only [lsOf, List.getElem_map]
      rw [hkd, ← he, ← he']; simp)
    omega

/-- What a handler is, of a loop: what a call of its yield comes to. hs: the loops up to this one. -/
def HOk (P : Program) (U : Nat → Prop) (hs : List Lp) (h : Lp) (y : Hd) (w0 : World) (Pr0 : Nat → Nat → Prop) (σ0 : List Blk) (γ0 : List Ghost) : Prop :=
  ∀ args hp b hp', y args hp = some (b, hp') → ∀ w Pr γ vs, w0.heap.size ≤ w.heap.size → Stays w0 Pr0 w Pr → Keeps σ0 γ0 hp.bs γ → Inv U w Pr hp.bs γ → PendOk w hs (hp.pend.take hs.length) → RepA w Pr hp.bs γ [] args vs →
    J.YieldC P h.l vs.toArray w fun e w' => e = .returned (.bool b) ∧ ∃ Pr' γ', Inv U w' Pr' hp'.bs γ' ∧ Keeps hp.bs γ hp'.bs γ' ∧ Evo U (lsOf hs) w Pr w' Pr' ∧ PendOk w' hs (hp'.pend.take hs.length) ∧ hp'.pend.drop hs.length = hp.pend.drop hs.length
theorem HOk.mono {hs : List Lp} {h : Lp} {y : Hd} {w0 : World} {Pr0 : Nat → Nat → Prop} {σ0 : List Blk} {γ0 : List Ghost} (hh : HOk P U hs h y w0 Pr0 σ0 γ0) (h0 : w0.heap.size ≤ w.heap.size) (h1 : Stays w0 Pr0 w Pr) (h2 : Keeps σ0 γ0 σ γ) : HOk P U hs h y w Pr σ γ :=
  fun args hp b hp' hy w' Pr' γ' vs h3 h4 h5 h6 h7 h8 => hh args hp b hp' hy w' Pr' γ' vs (Nat.le_trans h0 h3) (h1.trans h4) (h2.trans h5) h6 h7 h8
structure HdsOk (P : Program) (U : Nat → Prop) (hs : List Lp) (ys : List Hd) (w0 : World) (Pr0 : Nat → Nat → Prop) (σ0 : List Blk) (γ0 : List Ghost) : Prop where
  len : ys.length = hs.length
  nodup : (lsOf hs).Nodup
  lt : ∀ l ∈ lsOf hs, l < w0.heap.size
  ok : ∀ (d : Nat) h y, hs[d]? = some h → ys[d]? = some y → HOk P U (hs.take (d + 1)) h y w0 Pr0 σ0 γ0
theorem HdsOk.nil (P : Program) (U : Nat → Prop) (w : World) (Pr : Nat → Nat → Prop) (σ : List Blk) (γ : List Ghost) : HdsOk P U [] [] w Pr σ γ := ⟨rfl, List.nodup_nil, (fun _ h => by cases h), (fun d h y hd => by simp at hd)⟩
theorem HdsOk.mono {hs : List Lp} {ys : List Hd} {w0 : World} {Pr0 : Nat → Nat → Prop} {σ0 : List Blk} {γ0 : List Ghost} (h : HdsOk P U hs ys w0 Pr0 σ0 γ0) (h0 : w0.heap.size ≤ w.heap.size) (h1 : Stays w0 Pr0 w Pr) (h2 : Keeps σ0 γ0 σ γ) : HdsOk P U hs ys w Pr σ γ :=
  ⟨h.len, h.nodup, fun l hl => Nat.lt_of_lt_of_le (h.lt l hl) h0, fun d k y h3 h4 => (h.ok d k y h3 h4).mono h0 h1 h2⟩

/-- A call of a function by its number. -/
def FCall (P : Program) (f : FuncId) (args : Array Value) (w : World) (R : Value → World → Prop) : Prop :=
  ((callFunc f args).run P w = .ok (.enter f args) w ∧ Calls P f args w fun e w' => ∃ v, e = .returned v ∧ R v w') ∨
  ∃ v w', (callFunc f args).run P w = .ok (.value v) w' ∧ R v w'
theorem FCall.mono {f : FuncId} {args : Array Value} {R R' : Value → World → Prop} (h : FCall P f args w R) (k : ∀ v w', R v w' → R' v w') : FCall P f args w R' := by
  rcases h with ⟨h1, h2⟩ | ⟨v, w', h1, h2⟩
  · exact .inl ⟨h1, h2.mono fun e w' h => let ⟨v, he, hr⟩ := h; ⟨v, he, k v w' hr⟩⟩
  · exact .inr ⟨v, w', h1, k v w' h2⟩

def fenceOf : Option Nat → Fence
  | none => Fence.wide
  | some l => Fence.wide.inRound l

/-- What a call by value comes to. -/
def VPost (w : World) (Pr : Nat → Nat → Prop) (r : AV) (v : Value) (w' : World) : Prop :=
  ∃ Pr', Evo (w.heap.size ≤ ·) [] w Pr w' Pr' ∧ (∀ b i, Pr' b i → b < w'.heap.size) ∧ Out w' Pr' w.heap.size r v
def CVOk (P : Program) (G : Nat → Option (List AV)) (cV : FuncId → List AV → Option AV) : Prop :=
  ∀ f args r, cV f args = some r → ∀ w Pr vs, (∀ b i, Pr b i → b < w.heap.size) → GOk G w Pr → RepL w Pr [] [] args vs → FCall P f vs.toArray w (VPost w Pr r)
/-- What a call that shares the store comes to. -/
def RPost (U : Nat → Prop) (hs : List Lp) (w : World) (Pr : Nat → Nat → Prop) (σ : List Blk) (γ : List Ghost) (r : AV) (hp' : Hp) (v : Value) (w' : World) : Prop :=
  ∃ Pr' γ', Inv U w' Pr' hp'.bs γ' ∧ Keeps σ γ hp'.bs γ' ∧ Evo U (lsOf hs) w Pr w' Pr' ∧ PendOk w' hs hp'.pend ∧ Rep w' Pr' hp'.bs γ' [] r v
def CROk (P : Program) (G : Nat → Option (List AV)) (ys : List Hd) (cR : FuncId → List AV → Hp → Option (AV × Hp)) : Prop :=
  ∀ f args hp r hp', cR f args hp = some (r, hp') → ∀ U hs w Pr γ vs, Inv U w Pr hp.bs γ → GOk G w Pr → PendOk w hs hp.pend → HdsOk P U hs ys w Pr hp.bs γ → RepA w Pr hp.bs γ (lsOf hs) args vs →
    FCall P f vs.toArray w (RPost U hs w Pr hp.bs γ r hp')

theorem run_call {o : Oper} {a : Act} {c : Call} {f : Operand} (hop : o.op = .call c) (hc : c.callee = .value f) {g : FuncId} {lb : Array Value} (hf : a.eval f = .func (.func g) #[] lb) :
    (execOp a.eval o).run P w = (callFunc g (c.args.map a.eval ++ lb)).run P w := by
  unfold execOp
  simp only [hop, resolve, hc, hf, Deferred.ofValue, Sem.run_bind, Sem.run_pure, Result.andThen_ok, invoke]
  congr 2
  simp
theorem run_callY {o : Oper} {a : Act} {c : Call} {f : Operand} (hop : o.op = .call c) (hc : c.callee = .value f) {l : Nat} (hf : a.eval f = .func (.yield l) #[] #[]) :
    (execOp a.eval o).run P w = (Instr.yield l (c.args.map a.eval)).run P w := by
  unfold execOp
  simp only [hop, resolve, hc, hf, Deferred.ofValue, Sem.run_bind, Sem.run_pure, Result.andThen_ok, invoke]
  congr 2
  simp

/-- The walk stands at a call. -/
theorem upon_call {ro : Option Nat} {o : Oper} {a : Act} {f : FuncId} {args : Array Value} {R : Value → World → Prop} {K : Act → World → Prop} {Q : Exit → Act → World → Prop} (h : FCall P f args w R) (hk : ∀ v w', R v w' → K (a.put o.dst v) w') :
    o.uponIn (fenceOf ro) 0 P a K Q ((callFunc f args).run P w) := by
  rcases h with ⟨h1, h2⟩ | ⟨v, w', h1, h2⟩
  · rw [h1, Oper.uponIn_enter]
    refine ⟨fun hd => ?_, ?_⟩
    · cases ro <;> cases hd
    · have h3 : Calls P f args w fun
        | .returned v, w'' => K (a.put o.dst v) w''
        | .panicked chain, w'' => Q (.panic chain) a w''
        | .outgrown, _ => LetsOut Q := h2.mono fun e w' he => by obtain ⟨v, rfl, hr⟩ := he; exact hk v w' hr
      cases ro with
      | none => exact J.cin h3
      | some l => exact J.cinR l h3
  · rw [h1, Oper.uponIn_value]; exact hk v w' h2
end Go.Proofs.YtgajekpigkknnaaDoor.A

/- One operation, calls too. No condition. -/
namespace Go.Proofs.YtgajekpigkknnaaDoor.A
open Go
variable {U : Nat → Prop} {w w' : World} {Pr Pr' : Nat → Nat → Prop} {σ σ' : List Blk} {γ γ' : List Ghost} {ls : List Nat} {P : Program} {G : Nat → Option (List AV)}

/-! ### A call's arguments by value -/
theorem snapCell_rep {ids : List Nat} (h : Inv U w Pr (lockAll ids σ) γ) {a b : AV} {v : Value} (ha : Rep w Pr (lockAll ids σ) γ ls a v) (hs : snapCell σ a = some b) (hid : ∀ id ∈ lisId a, id ∈ ids) : Rep w Pr [] [] [] b v := by
  unfold snapCell at hs
  split at hs
  · rename_i id gen off len
    obtain ⟨rows, hr, rfl⟩ := Option.map_eq_some_iff.1 hs
    exact (lis_locked h ha hr (hid id (by simp [lisId]))).data rfl
  · cases hs
    cases ha with
    | clip rows a hc => exact hc.data rfl
  · split at hs
    · rename_i hd; cases hs; exact ha.data hd
    · cases hs
theorem snapCells_rep {ids : List Nat} (h : Inv U w Pr (lockAll ids σ) γ) : ∀ {as bs : List AV} {vs : List Value}, RepL w Pr (lockAll ids σ) γ as vs → as.mapM (snapCell σ) = some bs → (∀ id ∈ mutIds as, id ∈ ids) → RepL w Pr [] [] bs vs
  | [], bs, vs, hr, hm, _ => by have := mapM_nil_inv hm; subst this; rw [hr.nil_inv]; exact RepL.nil
  | a :: as, bs, vs, hr, hm, hid => by
    obtain ⟨r, rs, h1, h2, rfl⟩ := mapM_cons_inv hm
    obtain ⟨v, vs', rfl, h3, h4⟩ := hr.cons_inv
    rw [mutIds_eq] at hid
    refine RepL.cons (snapCell_rep h h3 h1 (fun id hi => hid id (by simp only [List.flatMap_cons, List.mem_append]; exact .inl hi))) (snapCells_rep h h4 h2 (fun id hi => hid id ?_))
    rw [mutIds_eq] at hi
    simp only [List.flatMap_cons, List.mem_append]; exact .inr hi
theorem snap_rep {ids : List Nat} (h : Inv U w Pr (lockAll ids σ) γ) {a b : AV} {v : Value} (ha : Rep w Pr (lockAll ids σ) γ ls a v) (hs : snap σ a = some b) (hid : ∀ id ∈ itemIds a, id ∈ ids) : Rep w Pr [] [] [] b v := by
  cases a with
  | lis id gen off len =>
    obtain ⟨rows, hr, rfl⟩ := Option.map_eq_some_iff.1 hs
    exact (lis_locked h ha hr (hid id (by simp [itemIds]))).data rfl
  | bool b => cases hs; exact ha.data rfl
  | int k n => cases hs; exact ha.data rfl
  | str s => cases hs; exact ha.data rfl
  | nilp => cases hs; exact ha.data rfl
  | nilf => cases hs; exact ha.data rfl
  | ro rows => cases hs; exact ha.data rfl
  | clip rows =>
    cases hs
    cases ha with
    | clip rows a hc => exact .clip rows a (hc.data rfl)
  | rp row off =>
    cases hs
    cases ha with
    | rp row off b o vs h1 h2 h3 h4 => exact .rp row off b o vs h1 h2 h3 (fun i a v ha hv => (h4 i a v ha hv).data (List.all_eq_true.1 h3 a (List.mem_of_getElem? ha)))
  | agg cs =>
    simp only [snap] at hs
    obtain ⟨vs, rfl, h1, h2⟩ := agg_inv ha
    split at hs
    · rename_i hd; cases hs
      have h3 := h1.data (σ' := []) (γ' := []) hd
      exact .agg cs vs h3.1 h2 h3.2
    · rename_i hd
      obtain ⟨bs, hm, rfl⟩ := Option.map_eq_some_iff.1 hs
      have h3 := snapCells_rep h h1 hm (fun id hi => hid id (by simp only [itemIds, hd, if_false, Bool.false_eq_true]; exact hi))
      exact .agg bs vs h3.1 h2 h3.2
  | clo f cs =>
    simp only [snap] at hs
    split at hs
    · rename_i hd; cases hs
      obtain ⟨vs, rfl, h1⟩ := clo_inv ha
      have h3 := h1.data (σ' := []) (γ' := []) hd
      exact .clo f cs vs h3.1 h3.2
    · cases hs
  | _ => cases hs
theorem snaps_rep {ids : List Nat} (h : Inv U w Pr (lockAll ids σ) γ) : ∀ {as bs : List AV} {vs : List Value}, RepA w Pr (lockAll ids σ) γ ls as vs → as.mapM (snap σ) = some bs → (∀ id ∈ argIds as, id ∈ ids) → RepL w Pr [] [] bs vs
  | [], bs, vs, hr, hm, _ => by
    have := mapM_nil_inv hm; subst this
    rw [List.eq_nil_of_length_eq_zero hr.1]; exact RepL.nil
  | a :: as, bs, vs, hr, hm, hid => by
    obtain ⟨r, rs, h1, h2, rfl⟩ := mapM_cons_inv hm
    obtain ⟨v, vs', rfl, h3, h4⟩ := hr.cons_inv
    rw [argIds_eq] at hid
    refine RepL.cons (snap_rep h h3 h1 (fun id hi => hid id (by simp only [List.flatMap_cons, List.mem_append]; exact .inl hi))) (snaps_rep h h4 h2 (fun id hi => hid id ?_))
    rw [argIds_eq] at hi
    simp only [List.flatMap_cons, List.mem_append]; exact .inr hi

theorem scalar1_out {n : Nat} {r : AV} {v : Value} (h : OutC w Pr n r v) (hs : scalar1 r = true) : ∀ {Pr' : Nat → Nat → Prop} {σ : List Blk} {γ : List Ghost}, Rep w Pr' σ γ [] r v := by
  intro Pr' σ γ
  cases r <;> first | (cases hs; done) | skip
  all_goals (cases h; constructor)
theorem scalars_out {n : Nat} : ∀ {as : List AV} {vs : List Value} {D : List Nat}, OutL w Pr n D as vs → as.all scalar1 = true → ∀ {Pr' : Nat → Nat → Prop} {σ : List Blk} {γ : List Ghost}, RepL w Pr' σ γ as vs
  | [], [], D, h, hf => RepL.nil
  | [], v :: vs, D, h, hf => h.elim
  | a :: as, [], D, h, hf => h.elim
  | a :: as, v :: vs, D, h, hf => by
    simp only [List.all_cons, Bool.and_eq_true] at hf
    exact RepL.cons (scalar1_out h.1 hf.1) (scalars_out h.2.2 hf.2)
theorem scalar_fresh : ∀ {as : List AV}, as.all scalar1 = true → freshIn as = false
  | [], _ => rfl
  | a :: as, h => by
    simp only [List.all_cons, Bool.and_eq_true] at h
    have ih := scalar_fresh h.2
    cases a <;> first | (cases h.1; done) | exact ih
/-- A result that bears no memory. -/
theorem scalar_out {n : Nat} {r r' : AV} {v : Value} {keeps : Bool} {s : Nat} (h : Out w Pr n r v) (hs : scalar r = true) (ht : takeRes keeps s r σ = some (r', σ')) : σ' = σ ∧ ∀ {Pr' : Nat → Nat → Prop} {γ : List Ghost}, Rep w Pr' σ γ [] r' v := by
  cases r with
  | tup as =>
    simp only [scalar] at hs
    simp only [takeRes, scalar_fresh hs, Bool.false_eq_true, if_false] at ht
    cases ht
    obtain ⟨vs, rfl, hl⟩ := h
    refine ⟨rfl, fun {Pr' γ} => ?_⟩
    have h3 := scalars_out hl hs (Pr' := Pr') (σ := σ) (γ := γ)
    exact .tup as vs h3.1 h3.2
  | bool b => cases ht; cases h; exact ⟨rfl, .bool b⟩
  | int k n => cases ht; cases h; exact ⟨rfl, .int k n⟩
  | str s => cases ht; cases h; exact ⟨rfl, .str s⟩
  | nilp => cases ht; cases h; exact ⟨rfl, .nilp⟩
  | nilf => cases ht; cases h; exact ⟨rfl, .nilf⟩
  | _ => cases hs

section
variable {cV : FuncId → List AV → Option AV} {cR : FuncId → List AV → Hp → Option (AV × Hp)} {ys : List Hd} {hs : List Lp} {hp hp' : Hp}

/-- What is known behind an operation. -/
def Behind (P : Program) (U : Nat → Prop) (hs : List Lp) (w : World) (Pr : Nat → Nat → Prop) (σ : List Blk) (γ : List Ghost) (r : AV) (hp' : Hp) (v : Value) (w' : World) : Prop :=
  ∃ Pr' γ', Inv U w' Pr' hp'.bs γ' ∧ Keeps σ γ hp'.bs γ' ∧ Evo U (lsOf hs) w Pr w' Pr' ∧ PendOk w' hs hp'.pend ∧ Rep w' Pr' hp'.bs γ' (lsOf hs) r v

theorem callV_behind (hI : Inv U w Pr hp.bs γ) (hG : GOk G w Pr) (hP : PendOk w hs hp.pend) {f : FuncId} {as vs : List AV} {us : List Value} {r r' : AV} {keeps : Bool} {s : Nat} {bs' : List Blk} (hV : CVOk P G cV) (hA : RepA w Pr hp.bs γ (lsOf hs) as us)
    (hm : as.mapM (snap hp.bs) = some vs) (hc : cV f vs = some r)
    (ht : (argIds as = [] ∨ scalar r = true) ∧ takeRes keeps s r hp.bs = some (r', bs') ∨ takeRes keeps s r (lockAll (argIds as) hp.bs) = some (r', bs')) :
    FCall P f us.toArray w (Behind P U hs w Pr hp.bs γ r' { hp with bs := bs' }) := by
  obtain ⟨Prl, hIl, hKl, hEl⟩ := Inv.lockAll (ls := ([] : List Nat)) (argIds as) hI
  have hAl : RepA w Prl (lockAll (argIds as) hp.bs) γ (lsOf hs) as us := ⟨hA.1, fun i a v h1 h2 => (hA.2 i a v h1 h2).mono hEl.stays hKl (fun _ _ h => h)⟩
  have hvs := snaps_rep hIl hAl hm (fun _ h => h)
  refine (hV f vs r hc w Prl us hIl.old (hG.mono hEl.stays) hvs).mono ?_
  rintro v w' ⟨Pr', hE, hold, hO⟩
  have hU : ∀ b, w.heap.size ≤ b → U b := hI.new
  have hE' : Evo U [] w Prl w' Pr' := hE.wider hU
  have hsame : ∀ {σ : List Blk} {Pr : Nat → Nat → Prop}, Inv U w Pr σ γ → ∀ j b, memB σ γ j = some b → w'.heap[b]? = w.heap[b]? := fun h j b hb => hE.same b (by have := h.memB_lt hb; omega)
  have main : ∀ {σ0 : List Blk} {Pr0 : Nat → Nat → Prop}, Inv U w Pr0 σ0 γ → Keeps hp.bs γ σ0 γ → Evo U [] w Pr w Pr0 → Evo U [] w Pr0 w' Pr' → (∀ j b i, memB σ0 γ j = some b → Pr' b i → Pr0 b i) → takeRes keeps s r σ0 = some (r', bs') → Behind P U hs w Pr hp.bs γ r' { hp with bs := bs' } v w' := by
    intro σ0 Pr0 h1 h2 h3 h4 h5 h6
    have h7 := h1.world h4 (hsame h1) h5 hold
    obtain ⟨Pr2, γ2, h8, h9, h10, h11⟩ := take_res (ls := ([] : List Nat)) h7 hU (fun j b hb => h1.memB_lt hb) hO h6
    have h12 := (h3.trans h4).trans h10
    exact ⟨Pr2, γ2, h8, h2.trans h9, h12.more (fun _ h => by cases h), hP.evo h12, h11.up⟩
  rcases ht with ⟨hc', ht⟩ | ht
  · by_cases hsc : scalar r = true
    · obtain ⟨rfl, hr⟩ := scalar_out hO hsc ht
      have h4 : Evo U [] w Pr w' Pr := ⟨hE.os, hE.tape, hE.output, hE.size, fun b hb => hE.same b (fun hx => hb (hU b hx)), hE.keep,
        fun b i hp => ⟨hp, fun v hv => (hE.stays b i (hEl.stays b i hp).1).2 v ((hEl.stays b i hp).2 v hv)⟩, fun _ _ _ h => h, hE.drawn⟩
      have h7 := hI.world h4 (hsame hI) (fun _ _ _ _ h => h) (fun b i hp => Nat.lt_of_lt_of_le (hI.old b i hp) hE.size)
      exact ⟨Pr, γ, h7, Keeps.refl _ _, h4.more (fun _ h => by cases h), hP.evo h4, hr.up⟩
    · have h0 : argIds as = [] := hc'.resolve_right hsc
      rw [h0] at hIl hKl
      exact main hIl hKl hEl hE' (fun j b i hb hp => hE.prot b i (by have := hIl.memB_lt hb; omega) hp) ht
  · exact main hIl hKl hEl hE' (fun j b i hb hp => hE.prot b i (by have := hIl.memB_lt hb; omega) hp) ht

theorem shrink_behind {keeps : Bool} {r : AV} {hp1 hp2 : Hp} {v : Value} {ls' : List Nat} (hlen : γ.length = hp.bs.length) (h : shrink keeps hp.bs.length r hp1 = some hp2) {Pr' : Nat → Nat → Prop} {γ' : List Ghost} (hI : Inv U w' Pr' hp1.bs γ') (hK : Keeps hp.bs γ hp1.bs γ') (hR : Rep w' Pr' hp1.bs γ' ls' r v) :
    hp2.pend = hp1.pend ∧ ∃ γ2, Inv U w' Pr' hp2.bs γ2 ∧ Keeps hp.bs γ hp2.bs γ2 ∧ Rep w' Pr' hp2.bs γ2 ls' r v := by
  unfold shrink at h
  split at h
  · cases h; exact ⟨rfl, γ', hI, hK, hR⟩
  · split at h
    · rename_i hc; cases h
      exact ⟨rfl, _, hI.trunc hc.2, hK.trunc (Nat.le_refl _), hR.trunc hc.1⟩
    · cases h

theorem lockQ_get {j : Nat} : (σ.map lockQ)[j]? = (σ[j]?).map lockQ := List.getElem?_map
theorem lockQ_mem {j : Nat} : memB (σ.map lockQ) γ j = memB σ γ j := by
  unfold memB
  rw [lockQ_get]
  cases σ[j]? with
  | none => rfl
  | some b => cases b <;> cases γ[j]? <;> rfl
theorem lockQ_cells (b : Blk) : (lockQ b).cellsN = b.cellsN := by cases b <;> rfl
theorem lockQ_inv {j : Nat} {b : Blk} (h : (σ.map lockQ)[j]? = some b) : ∃ b0, σ[j]? = some b0 ∧ b = lockQ b0 := by
  rw [lockQ_get] at h
  obtain ⟨b0, h1, h2⟩ := Option.map_eq_some_iff.1 h
  exact ⟨b0, h1, h2.symm⟩
/-- All blocks of the store never to be written again. -/
theorem Inv.lockEv (h : Inv U w Pr σ γ) : ∃ Pr1, Inv (fun b => w.heap.size ≤ b) w Pr1 (σ.map lockQ) γ ∧ Keeps σ γ (σ.map lockQ) γ ∧ (∀ b i, Pr b i → Pr1 b i) := by
  have hK : Keeps σ γ (σ.map lockQ) γ := ⟨fun id lk e row hi => ⟨2, row, by rw [lockQ_get, hi]; rfl, rfl⟩, fun id lk g e k rows hi => ⟨2, g, rows, by rw [lockQ_get, hi]; rfl, .inr ⟨rfl, rfl, rfl⟩⟩⟩
  obtain ⟨Pr1, e1⟩ : ∃ Pr1 : Nat → Nat → Prop, Pr1 = fun b i => Pr b i ∨ ∃ id blk, σ[id]? = some blk ∧ memB σ γ id = some b ∧ i < blk.cellsN := ⟨_, rfl⟩
  have hS : Stays w Pr w Pr1 := fun b i hp => ⟨by rw [e1]; exact .inl hp, fun _ hv => hv⟩
  refine ⟨Pr1, ⟨by simp [h.len], fun id lk e row hi => ?_, fun id lk g e k rows hi => ?_, fun id blk b hi hlk hm => ?_, fun id blk b hi _ hm i hc => ?_, fun id id' b h1 h2 => ?_, fun b i hp => ?_, fun b hb => hb⟩, hK, fun b i hp => (hS b i hp).1⟩
  · obtain ⟨b0, h1, h2⟩ := lockQ_inv hi
    cases b0 <;> cases h2
    obtain ⟨gh, cs, h3, h4, h5, h6⟩ := h.box id _ _ _ h1
    exact ⟨gh, cs, h3, h4, h5.mono hS hK, h6⟩
  · obtain ⟨b0, h1, h2⟩ := lockQ_inv hi
    cases b0 <;> cases h2
    obtain ⟨gh, vs, h3, h4, h5, h6, h7, h8, h9⟩ := h.lst id _ _ _ _ _ h1
    exact ⟨gh, vs, h3, h4, h5, h6, h7, h8.mono hS hK, h9⟩
  · obtain ⟨b0, h1, rfl⟩ := lockQ_inv hi
    rw [lockQ_mem] at hm
    cases b0 with
    | dead => unfold memB at hm; rw [h1] at hm; cases hm
    | box => exact absurd rfl hlk
    | lst => exact absurd rfl hlk
  · obtain ⟨b0, h1, rfl⟩ := lockQ_inv hi
    rw [lockQ_mem] at hm
    rw [lockQ_cells] at hc
    rw [e1]; exact .inr ⟨id, b0, h1, hm, hc⟩
  · rw [lockQ_mem] at h1 h2; exact h.inj id id' b h1 h2
  · rw [e1] at hp
    rcases hp with hp | ⟨id, blk, _, hm, _⟩
    · exact h.old b i hp
    · exact h.memB_lt hm
theorem scalarQ_rep {r : AV} {v : Value} {ls' : List Nat} (hs : scalarQ r = true) (h : Rep w Pr σ γ ls r v) : Rep w Pr' σ' γ' ls' r v := by
  have plain : ∀ {a : AV} {v : Value}, scalar1 a = true → Rep w Pr σ γ ls a v → Rep w Pr' σ' γ' ls' a v := by
    intro a v ha hr
    cases a <;> first | (cases ha; done) | (cases hr; constructor)
  have all : ∀ {cs : List AV} {vs : List Value}, cs.all scalar1 = true → RepL w Pr σ γ cs vs → RepL w Pr' σ' γ' cs vs := fun {cs vs} hc hr => ⟨hr.1, fun i a v ha hv => by
    have h1 := List.all_eq_true.1 hc a (List.mem_of_getElem? ha)
    have h2 := hr.2 i a v ha hv
    cases a <;> first | (cases h1; done) | (cases h2; constructor)⟩
  cases r with
  | agg cs => obtain ⟨vs, rfl, h1, h2⟩ := agg_inv h; have h3 := all hs h1; exact .agg cs vs h3.1 h2 h3.2
  | tup cs => obtain ⟨vs, rfl, h1⟩ := tup_inv h; have h3 := all hs h1; exact .tup cs vs h3.1 h3.2
  | _ => exact plain hs h
/-- A call that only reads. -/
theorem quiet_behind (hI : Inv U w Pr hp.bs γ) (hG : GOk G w Pr) (hP : PendOk w hs hp.pend) (hH : HdsOk P U hs ys w Pr hp.bs γ) (hR : CROk P G ys cR) {g : FuncId} {vs : List AV} {us : List Value} {r : AV} (hA : RepA w Pr hp.bs γ (lsOf hs) vs us)
    (h : quietR cR ys g vs hp = some (r, hp')) : FCall P g us.toArray w (Behind P U hs w Pr hp.bs γ r hp') := by
  unfold quietR at h
  split at h
  case h_2 => cases h
  have hh : hs = [] := List.eq_nil_of_length_eq_zero hH.len.symm
  subst hh
  split at h
  · cases h
  split at h
  case h_2 => cases h
  rename_i p hc
  split at h
  case isFalse => cases h
  rename_i hq
  simp only [Option.some.injEq, Prod.mk.injEq] at h
  obtain ⟨rfl, rfl⟩ := h
  obtain ⟨Pr1, h1, hK, hS⟩ := hI.lockEv
  have hSt : Stays w Pr w Pr1 := fun b i hp => ⟨hS b i hp, fun _ hv => hv⟩
  have hA1 : RepA w Pr1 (hp.bs.map lockQ) γ (lsOf []) vs us := ⟨hA.1, fun i a v k1 k2 => (hA.2 i a v k1 k2).mono hSt hK (fun _ _ h => h)⟩
  refine (hR g _ ⟨hp.bs.map lockQ, []⟩ p.1 p.2 hc (fun b => w.heap.size ≤ b) [] w Pr1 γ us h1 (hG.mono hSt) ⟨rfl, fun d h p hd => by simp at hd⟩ (HdsOk.nil P _ w Pr1 _ γ) hA1).mono ?_
  rintro v w' ⟨Pr2, γ2, k1, k2, k3, k4, k5⟩
  have hE : Evo U (lsOf []) w Pr w' Pr := ⟨k3.os, k3.tape, k3.output, k3.size, fun b hb => k3.same b (fun hx => hb (hI.new b hx)), k3.keep, fun b i hp => ⟨hp, fun v hv => (k3.stays b i (hS b i hp)).2 v hv⟩, fun _ _ _ h => h, k3.drawn⟩
  have hI' : Inv U w' Pr hp.bs γ := hI.world hE (fun j b hb => k3.same b (by have := hI.memB_lt hb; omega)) (fun _ _ _ _ h => h) (fun b i hp => Nat.lt_of_lt_of_le (hI.old b i hp) k3.size)
  refine ⟨Pr, γ, hI', Keeps.refl _ _, hE, hP.evo hE, ?_⟩
  rw [Bool.or_eq_true] at hq
  rcases hq with hq | hq
  · exact scalarQ_rep hq k5
  · unfold ptrQ at hq
    split at hq
    case h_2 => cases hq
    rename_i id gen row off hr
    split at hq
    case h_2 => cases hq
    rename_i lk g0 e k rows lk1 g1 e1 k1' rows1 hb hb1
    simp only [Bool.and_eq_true, beq_iff_eq] at hq
    obtain ⟨rfl, rfl⟩ := hq
    rw [hr] at k5 ⊢
    obtain ⟨lk', g', rows', q1, q2⟩ := k2.lst id 2 _ e k rows (by rw [lockQ_get, hb]; rfl)
    rw [hb1] at q1; cases q1
    rcases q2 with q2 | ⟨_, q3, q4⟩
    · omega
    · cases k5 with
      | ptrB _ _ _ _ _ _ h8 => rw [hb1] at h8; cases h8
      | ptrOld _ _ _ _ _ _ _ _ _ _ _ h8 h9 => rw [hb1] at h8; cases h8; omega
      | ptrL _ _ _ _ _ _ _ _ gh gb h8 h9 h10 h11 =>
        rw [hb1] at h8; cases h8
        exact .ptrL id row off lk _ _ _ rows gh gb hb (q4.symm.trans h9) h10 (by omega)

theorem frame_get {id j : Nat} {blk0 : Blk} (hi : σ[id]? = some blk0) : ((σ.map lockQ).set id blk0)[j]? = if j = id then some blk0 else (σ[j]?).map lockQ := by
  by_cases h : j = id
  · subst h; rw [if_pos rfl, List.getElem?_set_self (by simpa using (List.getElem?_eq_some_iff.1 hi).1)]
  · rw [if_neg h, List.getElem?_set_ne (Ne.symm h), List.getElem?_map]
theorem frame_mem {id j : Nat} {blk0 : Blk} (hi : σ[id]? = some blk0) : memB ((σ.map lockQ).set id blk0) γ j = memB σ γ j := by
  by_cases h : j = id
  · subst h; unfold memB; rw [frame_get hi, if_pos rfl, hi]
  · rw [← lockQ_mem (σ := σ)]; unfold memB; rw [frame_get hi, if_neg h, lockQ_get]
theorem frame_inv {id j : Nat} {blk0 b : Blk} (hi : σ[id]? = some blk0) (h : ((σ.map lockQ).set id blk0)[j]? = some b) : j = id ∧ b = blk0 ∨ j ≠ id ∧ ∃ b0, σ[j]? = some b0 ∧ b = lockQ b0 := by
  rw [frame_get hi] at h
  by_cases e : j = id
  · rw [if_pos e] at h; cases h; exact .inl ⟨e, rfl⟩
  · rw [if_neg e] at h
    obtain ⟨b0, h1, h2⟩ := Option.map_eq_some_iff.1 h
    exact .inr ⟨e, b0, h1, h2.symm⟩
/-- All blocks but one never to be written again. -/
theorem Inv.frameEv (h : Inv U w Pr σ γ) {id g0 : Nat} {e0 : TypeId} {k0 : Nat} {rows0 : List (List AV)} (hi : σ[id]? = some (.lst 0 g0 e0 k0 rows0)) : ∃ Pr1, Inv (fun b => w.heap.size ≤ b ∨ memB σ γ id = some b) w Pr1 ((σ.map lockQ).set id (.lst 0 g0 e0 k0 rows0)) γ ∧ Keeps σ γ ((σ.map lockQ).set id (.lst 0 g0 e0 k0 rows0)) γ ∧ (∀ b i, Pr b i → Pr1 b i) := by
  have hK : Keeps σ γ ((σ.map lockQ).set id (.lst 0 g0 e0 k0 rows0)) γ := by
    refine ⟨fun j lk e row hj => ?_, fun j lk g e k rows hj => ?_⟩
    · have hne : j ≠ id := fun e => by subst e; rw [hi] at hj; cases hj
      exact ⟨2, row, by rw [frame_get hi, if_neg hne, hj]; rfl, rfl⟩
    · by_cases hne : j = id
      · subst hne; rw [hi] at hj; cases hj
        exact ⟨0, _, _, by rw [frame_get hi, if_pos rfl], .inr ⟨rfl, rfl, rfl⟩⟩
      · exact ⟨2, g, rows, by rw [frame_get hi, if_neg hne, hj]; rfl, .inr ⟨rfl, rfl, rfl⟩⟩
  obtain ⟨Pr1, e1⟩ : ∃ Pr1 : Nat → Nat → Prop, Pr1 = fun b i => Pr b i ∨ ∃ j blk, j ≠ id ∧ σ[j]? = some blk ∧ memB σ γ j = some b ∧ i < blk.cellsN := ⟨_, rfl⟩
  have hS : Stays w Pr w Pr1 := fun b i hp => ⟨by rw [e1]; exact .inl hp, fun _ hv => hv⟩
  refine ⟨Pr1, ⟨by simp [h.len], fun j lk e row hj => ?_, fun j lk g e k rows hj => ?_, fun j blk b hj hlk hm => ?_, fun j blk b hj hlk hm i hc => ?_, fun j j' b h1 h2 => ?_, fun b i hp => ?_, fun b hb => .inl hb⟩, hK, fun b i hp => (hS b i hp).1⟩
  · rcases frame_inv hi hj with ⟨_, h1⟩ | ⟨_, b0, h1, h2⟩
    · cases h1
    · cases b0 <;> cases h2
      obtain ⟨gh, cs, h3, h4, h5, h6⟩ := h.box j _ _ _ h1
      exact ⟨gh, cs, h3, h4, h5.mono hS hK, h6⟩
  · rcases frame_inv hi hj with ⟨rfl, h1⟩ | ⟨_, b0, h1, h2⟩
    · cases h1
      obtain ⟨gh, vs, h3, h4, h5, h6, h7, h8, h9⟩ := h.lst j _ _ _ _ _ hi
      exact ⟨gh, vs, h3, h4, h5, h6, h7, h8.mono hS hK, h9⟩
    · cases b0 <;> cases h2
      obtain ⟨gh, vs, h3, h4, h5, h6, h7, h8, h9⟩ := h.lst j _ _ _ _ _ h1
      exact ⟨gh, vs, h3, h4, h5, h6, h7, h8.mono hS hK, h9⟩
  · rw [frame_mem hi] at hm
    rcases frame_inv hi hj with ⟨rfl, h1⟩ | ⟨_, b0, h1, rfl⟩
    · refine ⟨.inr hm, fun i hp => ?_⟩
      rw [e1] at hp
      rcases hp with hp | ⟨j', blk', hne, _, hm', _⟩
      · exact (h.free j _ b hi (show (0 : Nat) ≠ 2 by decide) hm).2 i hp
      · exact hne (h.inj j' j b hm' hm)
    · cases b0 with
      | dead => unfold memB at hm; rw [h1] at hm; cases hm
      | box => exact absurd rfl hlk
      | lst => exact absurd rfl hlk
  · rw [frame_mem hi] at hm
    rcases frame_inv hi hj with ⟨rfl, h1⟩ | ⟨hne, b0, h1, rfl⟩
    · subst h1; cases hlk
    · rw [lockQ_cells] at hc
      rw [e1]; exact .inr ⟨j, b0, hne, h1, hm, hc⟩
  · rw [frame_mem hi] at h1 h2; exact h.inj j j' b h1 h2
  · rw [e1] at hp
    rcases hp with hp | ⟨j, blk, _, _, hm, _⟩
    · exact h.old b i hp
    · exact h.memB_lt hm
theorem scalars_rep {as : List AV} {vs : List Value} (hs : as.all scalar1 = true) (h : RepL w Pr σ γ as vs) : RepL w Pr' σ' γ' as vs := ⟨h.1, fun i a v ha hv => by
  have h1 := List.all_eq_true.1 hs a (List.mem_of_getElem? ha)
  have h2 := h.2 i a v ha hv
  cases a <;> first | (cases h1; done) | (cases h2; constructor)⟩
/-- A call that writes to one list alone. -/
theorem frame0_behind (hI : Inv U w Pr hp.bs γ) (hG : GOk G w Pr) (hP : PendOk w hs hp.pend) (hH : HdsOk P U hs ys w Pr hp.bs γ) (hR : CROk P G ys cR) {g : FuncId} {vs : List AV} {us : List Value} {r : AV} (hA : RepA w Pr hp.bs γ (lsOf hs) vs us)
    (h : frame0 cR ys g vs hp = some (r, hp')) : FCall P g us.toArray w (Behind P U hs w Pr hp.bs γ r hp') := by
  unfold frame0 at h
  split at h
  case h_2 => cases h
  rename_i id gen0 off0 len0 vs0
  have hh : hs = [] := List.eq_nil_of_length_eq_zero hH.len.symm
  subst hh
  split at h
  case h_2 => cases h
  rename_i g0 e k rows hi
  split at h
  case h_2 => cases h
  rename_i p hc
  split at h
  case h_2 => cases h
  rename_i id1 g1 off1 n1 lk2 g2 e2 k2' rows2 hr hb2
  split at h
  case isFalse => cases h
  rename_i hcond
  obtain ⟨rfl, rfl, rfl, hsc⟩ := hcond
  simp only [Option.some.injEq, Prod.mk.injEq] at h
  obtain ⟨rfl, rfl⟩ := h
  have hlt := (List.getElem?_eq_some_iff.1 hi).1
  obtain ⟨Pr1, h1, hK, hS⟩ := hI.frameEv hi
  have hSt : Stays w Pr w Pr1 := fun b i hp => ⟨hS b i hp, fun _ hv => hv⟩
  have hA1 := fun i a v k1 k2 => (hA.2 i a v k1 k2).mono hSt hK (fun _ _ h => h)
  refine (hR g _ _ p.1 p.2 hc (fun b => w.heap.size ≤ b ∨ memB hp.bs γ id1 = some b) [] w Pr1 γ us h1 (hG.mono hSt) ⟨rfl, fun d h p hd => by simp at hd⟩ (HdsOk.nil P _ w Pr1 _ γ) ⟨hA.1, hA1⟩).mono ?_
  rintro v w' ⟨Pr2, γ2, k1, k2, k3, k4, k5⟩
  have hnU : ∀ b, (w.heap.size ≤ b ∨ memB hp.bs γ id1 = some b) → U b := fun b hb => hb.elim (hI.new b) (fun hm => (hI.free id1 _ b hi (show (0 : Nat) ≠ 2 by decide) hm).1)
  have hE : Evo U (lsOf []) w Pr w' Pr := ⟨k3.os, k3.tape, k3.output, k3.size, fun b hb => k3.same b (fun hx => hb (hnU b hx)), k3.keep, fun b i hp => ⟨hp, fun v hv => (k3.stays b i (hS b i hp)).2 v hv⟩, fun _ _ _ h => h, k3.drawn⟩
  obtain ⟨lk', g', rows', q1, q2⟩ := k2.lst id1 0 g2 e k rows (by rw [frame_get hi, if_pos rfl])
  rw [hb2] at q1; cases q1
  rcases q2 with q2 | ⟨_, q3, q4⟩
  · exact absurd q2 (Nat.lt_irrefl _)
  have hK2 : Keeps hp.bs γ (hp.bs.set id1 (.lst 0 g2 e k rows2)) γ := by
    refine ⟨fun j lk e row hj => ?_, fun j lk g e' k' rows' hj => ?_⟩
    · have hne : j ≠ id1 := fun e => by subst e; rw [hi] at hj; cases hj
      exact ⟨lk, row, by rw [List.getElem?_set_ne (Ne.symm hne)]; exact hj, rfl⟩
    · by_cases hne : j = id1
      · subst hne; rw [hi] at hj; cases hj
        exact ⟨0, _, rows2, List.getElem?_set_self hlt, .inr ⟨rfl, q3, rfl⟩⟩
      · exact ⟨lk, g, rows', by rw [List.getElem?_set_ne (Ne.symm hne)]; exact hj, .inr ⟨rfl, rfl, rfl⟩⟩
  have hmem : ∀ j, memB (hp.bs.set id1 (.lst 0 g2 e k rows2)) γ j = memB hp.bs γ j := fun j => by
    by_cases hne : j = id1
    · subst hne; unfold memB; rw [List.getElem?_set_self hlt, hi]; cases γ[j]? <;> rfl
    · unfold memB; rw [List.getElem?_set_ne (Ne.symm hne)]
  have hother : ∀ j b, j ≠ id1 → memB hp.bs γ j = some b → w'.heap[b]? = w.heap[b]? := fun j b hne hm => k3.same b (fun hx => hx.elim (fun hx => by have := hI.memB_lt hm; omega) (fun hx => hne (hI.inj j id1 b hm hx)))
  have hset : ∀ {j : Nat} {b : Blk}, (hp.bs.set id1 (.lst 0 g2 e k rows2))[j]? = some b → j = id1 ∧ b = .lst 0 g2 e k rows2 ∨ j ≠ id1 ∧ hp.bs[j]? = some b := fun {j b} hj => by
    by_cases hne : j = id1
    · subst hne; rw [List.getElem?_set_self hlt] at hj; cases hj; exact .inl ⟨rfl, rfl⟩
    · rw [List.getElem?_set_ne (Ne.symm hne)] at hj; exact .inr ⟨hne, hj⟩
  have hsf : rows2.flatten.all scalar1 = true := by rw [List.all_flatten]; exact hsc
  obtain ⟨gh, vs2, p1, p2, p3, p4, p5, p6, p7⟩ := k1.lst id1 _ _ _ _ _ hb2
  have hgh : γ[id1]? = some gh := q4.symm.trans p1
  have hI' : Inv U w' Pr (hp.bs.set id1 (.lst 0 g2 e k rows2)) γ := by
    refine ⟨by rw [List.length_set]; exact hI.len, fun j lk e' row hj => ?_, fun j lk g' e' k' rows' hj => ?_, fun j blk b hj hlk hm => ?_, fun j blk b hj hlk hm i hc => ?_, fun j j' b h1 h2 => ?_, fun b i hp => Nat.lt_of_lt_of_le (hI.old b i hp) k3.size, fun b hb => hI.new b (Nat.le_trans k3.size hb)⟩
    · rcases hset hj with ⟨_, h2⟩ | ⟨hne, h2⟩
      · cases h2
      · obtain ⟨gh', cs, h3, h4, h5, h6⟩ := hI.box j _ _ _ h2
        exact ⟨gh', cs, h3, (hother j gh'.b hne (memB_box h2 h3)).trans h4, h5.mono hE.stays hK2 (fun _ _ h => h), h6⟩
    · rcases hset hj with ⟨rfl, h2⟩ | ⟨hne, h2⟩
      · cases h2
        exact ⟨gh, vs2, hgh, p2, p3, p4, p5, scalars_rep hsf p6, p7⟩
      · obtain ⟨gh', vs', h3, h4, h5, h6, h7, h8, h9⟩ := hI.lst j _ _ _ _ _ h2
        exact ⟨gh', vs', h3, h4, h5, h6, h7.same (fun b hb => hother j b hne ((memB_lst h2 h3).trans hb)), h8.mono hE.stays hK2 (fun _ _ h => h), h9⟩
    · rw [hmem] at hm
      rcases hset hj with ⟨rfl, _⟩ | ⟨_, h2⟩
      · exact hI.free j _ b hi (show (0 : Nat) ≠ 2 by decide) hm
      · exact hI.free j _ b h2 hlk hm
    · rw [hmem] at hm
      rcases hset hj with ⟨_, h2⟩ | ⟨_, h2⟩
      · subst h2; cases hlk
      · exact hI.fix j _ b h2 hlk hm i hc
    · rw [hmem] at h1 h2; exact hI.inj j j' b h1 h2
  refine ⟨Pr, γ, hI', hK2, hE, hP.evo hE, ?_⟩
  rw [hr] at k5
  cases k5 with
  | lisOld _ _ _ _ _ _ _ _ _ _ h8 h9 => rw [hb2] at h8; cases h8; exact absurd h9 (Nat.lt_irrefl _)
  | lis _ _ _ _ _ _ _ _ gh8 _ h8 h9 h10 h11 =>
    rw [hb2] at h8; cases h8
    exact .lis id1 off1 n1 0 _ _ _ rows2 gh8 _ (List.getElem?_set_self hlt) (q4.symm.trans h9) h10 h11
theorem frame_behind (hI : Inv U w Pr hp.bs γ) (hG : GOk G w Pr) (hP : PendOk w hs hp.pend) (hH : HdsOk P U hs ys w Pr hp.bs γ) (hR : CROk P G ys cR) {g : FuncId} {vs : List AV} {us : List Value} {r : AV} (hA : RepA w Pr hp.bs γ (lsOf hs) vs us)
    (h : frameR cR ys g vs hp = some (r, hp')) : FCall P g us.toArray w (Behind P U hs w Pr hp.bs γ r hp') := by
  unfold frameR at h
  split at h
  case h_2 => cases h
  rename_i p h0
  obtain ⟨q, h1, h2⟩ := Option.map_eq_some_iff.1 h
  cases h2
  refine (frame0_behind hI hG hP hH hR hA h0).mono ?_
  rintro v w' ⟨Pr', γ', k1, k2, k3, k4, k5⟩
  obtain ⟨Pr2, q1, q2, q3, q4, _⟩ := toData_rep (ls := lsOf hs) k1 k5 h1
  exact ⟨Pr2, γ', q1, k2.trans q2, k3.trans q3, k4, q4⟩
/-- A store in which one list lies alone. -/
theorem only_get {id : Nat} {blk : Blk} (hi : σ[id]? = some blk) {b : Blk} : ((List.replicate σ.length .dead).set id b)[id]? = some b := List.getElem?_set_self (by simpa using (List.getElem?_eq_some_iff.1 hi).1)
theorem only_inv {id j : Nat} {b c : Blk} (h : ((List.replicate σ.length .dead).set id b)[j]? = some c) : j = id ∧ c = b ∨ c = .dead := by
  by_cases e : j = id
  · subst e
    by_cases hl : j < σ.length
    · rw [List.getElem?_set_self (by simpa using hl)] at h; cases h; exact .inl ⟨rfl, rfl⟩
    · rw [List.getElem?_eq_none (by simpa using hl)] at h; cases h
  · rw [List.getElem?_set_ne (Ne.symm e), List.getElem?_replicate] at h
    split at h
    · cases h; exact .inr rfl
    · cases h
theorem only_mem {id j x : Nat} {blk : Blk} (hi : σ[id]? = some blk) (h : memB ((List.replicate σ.length .dead).set id blk) γ j = some x) : j = id ∧ memB σ γ id = some x := by
  cases hj : ((List.replicate σ.length Blk.dead).set id blk)[j]? with
  | none => unfold memB at h; rw [hj] at h; cases h
  | some c =>
    rcases only_inv hj with ⟨rfl, rfl⟩ | rfl
    · refine ⟨rfl, ?_⟩
      unfold memB at h ⊢
      rw [hj] at h
      rw [hi]; exact h
    · unfold memB at h; rw [hj] at h; cases h
theorem only_rep {id : Nat} {blk : Blk} {σ1 : List Blk} (hi : σ[id]? = some blk) (h1 : σ1[id]? = some blk) {a : AV} {v : Value} (h : Rep w Pr σ γ ls a v) (ha : scalar1 a = true ∨ ∃ gen off len, a = .lis id gen off len) : Rep w Pr σ1 γ ls a v := by
  rcases ha with ha | ⟨gen, off, len, rfl⟩
  · cases a <;> first | (cases ha; done) | (cases h; constructor)
  · cases h with
    | lisOld _ _ _ _ lk g e k rows u h2 hg ho => rw [hi] at h2; cases h2; exact .lisOld id gen off len lk g e k rows v h1 hg ho
    | lis _ _ _ lk g e k rows gh u h2 h3 h4 h5 => rw [hi] at h2; cases h2; exact .lis id off len lk _ e k rows gh v h1 h3 h4 h5
theorem Inv.onlyEv (h : Inv U w Pr σ γ) {id g0 : Nat} {e0 : TypeId} {k0 : Nat} {rows0 : List (List AV)} (hi : σ[id]? = some (.lst 0 g0 e0 k0 rows0)) : Inv (fun b => w.heap.size ≤ b ∨ memB σ γ id = some b) w Pr ((List.replicate σ.length .dead).set id (.lst 0 g0 e0 k0 rows0)) γ := by
  refine ⟨by simp [h.len], fun j lk e row hj => ?_, fun j lk g e k rows hj => ?_, fun j blk b hj hlk hm => ?_, fun j blk b hj hlk hm i hc => ?_, fun j j' b h1 h2 => ?_, h.old, fun b hb => .inl hb⟩
  · rcases only_inv hj with ⟨_, h1⟩ | h1 <;> cases h1
  · rcases only_inv hj with ⟨rfl, h1⟩ | h1
    · cases h1
      obtain ⟨gh, vs, h3, h4, h5, h6, h7, h8, h9⟩ := h.lst j _ _ _ _ _ hi
      exact ⟨gh, vs, h3, h4, h5, h6, h7, h8.data h6, h9⟩
    · cases h1
  · obtain ⟨rfl, hm⟩ := only_mem hi hm
    exact ⟨.inr hm, (h.free j _ b hi (show (0 : Nat) ≠ 2 by decide) hm).2⟩
  · rcases only_inv hj with ⟨rfl, h1⟩ | h1
    · subst h1; cases hlk
    · subst h1; cases hlk
  · exact (only_mem hi h1).1.trans (only_mem hi h2).1.symm
theorem frame1_behind (hI : Inv U w Pr hp.bs γ) (hG : GOk G w Pr) (hP : PendOk w hs hp.pend) (hH : HdsOk P U hs ys w Pr hp.bs γ) (hR : CROk P G ys cR) {g : FuncId} {vs : List AV} {us : List Value} {r : AV} (hA : RepA w Pr hp.bs γ (lsOf hs) vs us)
    (h : frame1 cR ys g vs hp = some (r, hp')) : FCall P g us.toArray w (Behind P U hs w Pr hp.bs γ r hp') := by
  unfold frame1 at h
  split at h
  case h_2 => cases h
  rename_i id gen0 off0 len0 vs0
  split at h
  case isFalse => cases h
  rename_i hsc0
  have hh : hs = [] := List.eq_nil_of_length_eq_zero hH.len.symm
  subst hh
  split at h
  case h_2 => cases h
  rename_i g0 e k rows hi
  split at h
  case h_2 => cases h
  rename_i p hc
  split at h
  case h_2 => cases h
  rename_i id1 g1 off1 n1 lk2 g2 e2 k2' rows2 hr hb2
  split at h
  case isFalse => cases h
  rename_i hcond
  obtain ⟨rfl, rfl, rfl, hsc⟩ := hcond
  simp only [Option.some.injEq, Prod.mk.injEq] at h
  obtain ⟨rfl, rfl⟩ := h
  have hlt := (List.getElem?_eq_some_iff.1 hi).1
  obtain ⟨Pr1, hPr1, h1, hS⟩ : ∃ Pr1, Pr1 = Pr ∧ Inv (fun b => w.heap.size ≤ b ∨ memB hp.bs γ id1 = some b) w Pr1 ((List.replicate hp.bs.length .dead).set id1 (.lst 0 g2 e k rows)) γ ∧ ∀ b i, Pr b i → Pr1 b i := ⟨Pr, rfl, hI.onlyEv hi, fun _ _ h => h⟩
  have hSt : Stays w Pr w Pr1 := fun b i hp => ⟨hS b i hp, fun _ hv => hv⟩
  have hA1 : ∀ (i : Nat) a v, (AV.lis id1 gen0 off0 len0 :: vs0)[i]? = some a → us[i]? = some v → Rep w Pr1 ((List.replicate hp.bs.length .dead).set id1 (.lst 0 g2 e k rows)) γ (lsOf []) a v := fun i a v k1 k2 => by
    refine only_rep hi (only_get hi) ((hA.2 i a v k1 k2).mono hSt (Keeps.refl _ _) (fun _ _ h => h)) ?_
    cases i with
    | zero => cases k1; exact .inr ⟨_, _, _, rfl⟩
    | succ i => exact .inl (List.all_eq_true.1 hsc0 a (List.mem_of_getElem? (by simpa using k1)))
  refine (hR g _ _ p.1 p.2 hc (fun b => w.heap.size ≤ b ∨ memB hp.bs γ id1 = some b) [] w Pr1 γ us h1 (hG.mono hSt) ⟨rfl, fun d h p hd => by simp at hd⟩ (HdsOk.nil P _ w Pr1 _ γ) ⟨hA.1, hA1⟩).mono ?_
  rintro v w' ⟨Pr2, γ2, k1, k2, k3, k4, k5⟩
  have hnU : ∀ b, (w.heap.size ≤ b ∨ memB hp.bs γ id1 = some b) → U b := fun b hb => hb.elim (hI.new b) (fun hm => (hI.free id1 _ b hi (show (0 : Nat) ≠ 2 by decide) hm).1)
  have hE : Evo U (lsOf []) w Pr w' Pr := ⟨k3.os, k3.tape, k3.output, k3.size, fun b hb => k3.same b (fun hx => hb (hnU b hx)), k3.keep, fun b i hp => ⟨hp, fun v hv => (k3.stays b i (hS b i hp)).2 v hv⟩, fun _ _ _ h => h, k3.drawn⟩
  obtain ⟨lk', g', rows', q1, q2⟩ := k2.lst id1 0 g2 e k rows (only_get hi)
  rw [hb2] at q1; cases q1
  rcases q2 with q2 | ⟨_, q3, q4⟩
  · exact absurd q2 (Nat.lt_irrefl _)
  have hK2 : Keeps hp.bs γ (hp.bs.set id1 (.lst 0 g2 e k rows2)) γ := by
    refine ⟨fun j lk e row hj => ?_, fun j lk g e' k' rows' hj => ?_⟩
    · have hne : j ≠ id1 := fun e => by subst e; rw [hi] at hj; cases hj
      exact ⟨lk, row, by rw [List.getElem?_set_ne (Ne.symm hne)]; exact hj, rfl⟩
    · by_cases hne : j = id1
      · subst hne; rw [hi] at hj; cases hj
        exact ⟨0, _, rows2, List.getElem?_set_self hlt, .inr ⟨rfl, q3, rfl⟩⟩
      · exact ⟨lk, g, rows', by rw [List.getElem?_set_ne (Ne.symm hne)]; exact hj, .inr ⟨rfl, rfl, rfl⟩⟩
  have hmem : ∀ j, memB (hp.bs.set id1 (.lst 0 g2 e k rows2)) γ j = memB hp.bs γ j := fun j => by
    by_cases hne : j = id1
    · subst hne; unfold memB; rw [List.getElem?_set_self hlt, hi]; cases γ[j]? <;> rfl
    · unfold memB; rw [List.getElem?_set_ne (Ne.symm hne)]
  have hother : ∀ j b, j ≠ id1 → memB hp.bs γ j = some b → w'.heap[b]? = w.heap[b]? := fun j b hne hm => k3.same b (fun hx => hx.elim (fun hx => by have := hI.memB_lt hm; omega) (fun hx => hne (hI.inj j id1 b hm hx)))
  have hset : ∀ {j : Nat} {b : Blk}, (hp.bs.set id1 (.lst 0 g2 e k rows2))[j]? = some b → j = id1 ∧ b = .lst 0 g2 e k rows2 ∨ j ≠ id1 ∧ hp.bs[j]? = some b := fun {j b} hj => by
    by_cases hne : j = id1
    · subst hne; rw [List.getElem?_set_self hlt] at hj; cases hj; exact .inl ⟨rfl, rfl⟩
    · rw [List.getElem?_set_ne (Ne.symm hne)] at hj; exact .inr ⟨hne, hj⟩
  have hsf : rows2.flatten.all scalar1 = true := by rw [List.all_flatten]; exact hsc
  obtain ⟨gh, vs2, p1, p2, p3, p4, p5, p6, p7⟩ := k1.lst id1 _ _ _ _ _ hb2
  have hgh : γ[id1]? = some gh := q4.symm.trans p1
  have hI' : Inv U w' Pr (hp.bs.set id1 (.lst 0 g2 e k rows2)) γ := by
    refine ⟨by rw [List.length_set]; exact hI.len, fun j lk e' row hj => ?_, fun j lk g' e' k' rows' hj => ?_, fun j blk b hj hlk hm => ?_, fun j blk b hj hlk hm i hc => ?_, fun j j' b h1 h2 => ?_, fun b i hp => Nat.lt_of_lt_of_le (hI.old b i hp) k3.size, fun b hb => hI.new b (Nat.le_trans k3.size hb)⟩
    · rcases hset hj with ⟨_, h2⟩ | ⟨hne, h2⟩
      · cases h2
      · obtain ⟨gh', cs, h3, h4, h5, h6⟩ := hI.box j _ _ _ h2
        exact ⟨gh', cs, h3, (hother j gh'.b hne (memB_box h2 h3)).trans h4, h5.mono hE.stays hK2 (fun _ _ h => h), h6⟩
    · rcases hset hj with ⟨rfl, h2⟩ | ⟨hne, h2⟩
      · cases h2
        exact ⟨gh, vs2, hgh, p2, p3, p4, p5, scalars_rep hsf p6, p7⟩
      · obtain ⟨gh', vs', h3, h4, h5, h6, h7, h8, h9⟩ := hI.lst j _ _ _ _ _ h2
        exact ⟨gh', vs', h3, h4, h5, h6, h7.same (fun b hb => hother j b hne ((memB_lst h2 h3).trans hb)), h8.mono hE.stays hK2 (fun _ _ h => h), h9⟩
    · rw [hmem] at hm
      rcases hset hj with ⟨rfl, _⟩ | ⟨_, h2⟩
      · exact hI.free j _ b hi (show (0 : Nat) ≠ 2 by decide) hm
      · exact hI.free j _ b h2 hlk hm
    · rw [hmem] at hm
      rcases hset hj with ⟨_, h2⟩ | ⟨_, h2⟩
      · subst h2; cases hlk
      · exact hI.fix j _ b h2 hlk hm i hc
    · rw [hmem] at h1 h2; exact hI.inj j j' b h1 h2
  refine ⟨Pr, γ, hI', hK2, hE, hP.evo hE, ?_⟩
  rw [hr] at k5
  cases k5 with
  | lisOld _ _ _ _ _ _ _ _ _ _ h8 h9 => rw [hb2] at h8; cases h8; exact absurd h9 (Nat.lt_irrefl _)
  | lis _ _ _ _ _ _ _ _ gh8 _ h8 h9 h10 h11 =>
    rw [hb2] at h8; cases h8
    exact .lis id1 off1 n1 0 _ _ _ rows2 gh8 _ (List.getElem?_set_self hlt) (q4.symm.trans h9) h10 h11
theorem frameS_behind (hI : Inv U w Pr hp.bs γ) (hG : GOk G w Pr) (hP : PendOk w hs hp.pend) (hH : HdsOk P U hs ys w Pr hp.bs γ) (hR : CROk P G ys cR) {g : FuncId} {vs : List AV} {us : List Value} {r : AV} (hA : RepA w Pr hp.bs γ (lsOf hs) vs us)
    (h : frameS cR ys g vs hp = some (r, hp')) : FCall P g us.toArray w (Behind P U hs w Pr hp.bs γ r hp') := by
  unfold frameS at h
  split at h
  case h_2 => cases h
  rename_i p h0
  obtain ⟨q, h1, h2⟩ := Option.map_eq_some_iff.1 h
  cases h2
  refine (frame1_behind hI hG hP hH hR hA h0).mono ?_
  rintro v w' ⟨Pr', γ', k1, k2, k3, k4, k5⟩
  obtain ⟨Pr2, q1, q2, q3, q4, _⟩ := toData_rep (ls := lsOf hs) k1 k5 h1
  exact ⟨Pr2, γ', q1, k2.trans q2, k3.trans q3, k4, q4⟩
theorem cOp_callV {g : AOp} {o : Oper} {f : FuncId} {xs : List Opd} {keeps : Nat} (hc : cOp P G g o = some (.callV f xs keeps)) : ∃ c, o.op = .call c ∧ c.callee = .value (.func f) ∧ cOpds G c.args.toList = some xs := by
  unfold cOp at hc
  repeat' split at hc
  all_goals first
    | (cases hc; done)
    | (obtain ⟨_, _, h⟩ := Option.map_eq_some_iff.1 hc; cases h; done)
    | skip
  rename_i h1 _ _ _ _ h2 _ _ _ _ _ _ h3
  cases hc; exact ⟨_, h1, h2, h3⟩
theorem cOp_callR {g : AOp} {o : Oper} {f : Opd} {xs : List Opd} {keeps : Nat} (hc : cOp P G g o = some (.callR f xs keeps)) : ∃ c x, o.op = .call c ∧ c.callee = .value x ∧ cOpd G x = some f ∧ cOpds G c.args.toList = some xs := by
  unfold cOp at hc
  repeat' split at hc
  all_goals first
    | (cases hc; done)
    | (obtain ⟨_, _, h⟩ := Option.map_eq_some_iff.1 hc; cases h; done)
    | skip
  · rename_i h1 _ _ _ _ h2 _ _ _ _ _ _ h3
    cases hc; exact ⟨_, _, h1, h2, rfl, h3⟩
  · rename_i h1 _ _ _ _ _ h2 _ _ _ _ _ _ _ _ h3 h4
    cases hc; exact ⟨_, _, h1, h2, h3, h4⟩

theorem cOp_noDefer {g op : AOp} {o : Oper} (hc : cOp P G g o = some op) : ∀ c, o.op ≠ .defer c := by
  intro c h
  unfold cOp at hc
  rw [h] at hc
  cases hc
theorem behind_op {o : Oper} {a : Act} {r : AV} {bs' : List Blk} (h : OpRes P U (lsOf hs) w Pr hp.bs γ o a r bs') (hP : PendOk w hs hp.pend) :
    ∃ x v w', (execOp a.eval o).run P w = .ok x w' ∧ (x = .value v ∨ (x = .skip ∧ v = undef)) ∧ Behind P U hs w Pr hp.bs γ r { hp with bs := bs' } v w' := by
  obtain ⟨x, v, w', Pr', γ', h1, h2, h3, h4, h5, h6⟩ := h
  exact ⟨x, v, w', h1, h2, Pr', γ', h4, h5, h6.more (fun _ h => by cases h), hP.evo h6, h3⟩

/-- One operation. -/
theorem exec_sound (hV : CVOk P G cV) (hR : CROk P G ys cR) {ro : Option Nat} {q : Bool} {s : Nat} {g op : AOp} {o : Oper} {T : Tm} {a : Act} {r : AV} (hc : cOp P G g o = some op) (hx : aexec cV cR ys q s op T hp = some (r, hp'))
    (hI : Inv U w Pr hp.bs γ) (hG : GOk G w Pr) (hP : PendOk w hs hp.pend) (hH : HdsOk P U hs ys w Pr hp.bs γ) (hT : TOk w Pr hp.bs γ (lsOf hs) T a.tmps)
    {K : Act → World → Prop} {Q : Exit → Act → World → Prop} (hK : ∀ v w', Behind P U hs w Pr hp.bs γ r hp' v w' → K (a.put o.dst v) w') : o.wpIn (fenceOf ro) 0 P a w K Q := by
  refine ⟨fun f _ => by cases ro <;> exact trivial, ?_⟩
  rw [Oper.semAt_eq _ _ _ (cOp_noDefer hc)]
  have plain : ∀ {r0 : AV} {bs' : List Blk}, aop op s T hp.bs = some (r0, bs') → r = r0 → hp' = { hp with bs := bs' } → o.uponIn (fenceOf ro) 0 P a K Q ((execOp a.eval o).run P w) := by
    rintro r0 bs' h1 rfl rfl
    obtain ⟨x, v, w', h2, h3, h4⟩ := behind_op (aop_sound hI hG hT hc h1) hP
    rw [h2]
    rcases h3 with rfl | ⟨rfl, rfl⟩
    · rw [Oper.uponIn_value]; exact hK _ _ h4
    · rw [Oper.uponIn_skip]; exact hK _ _ h4
  have other : (if q && !quietOk T op then none else (aop op s T hp.bs).map fun p => (p.1, ({ hp with bs := p.2 } : Hp))) = some (r, hp') → o.uponIn (fenceOf ro) 0 P a K Q ((execOp a.eval o).run P w) := by
    intro h
    split at h
    · cases h
    · obtain ⟨p, h1, h2⟩ := Option.map_eq_some_iff.1 h
      cases h2; exact plain h1 rfl rfl
  cases op with
  | callV f args keeps =>
    obtain ⟨c, hop, hcl, ha⟩ := cOp_callV hc
    have hA := cOpds_rep hG hT ha
    rw [run_call hop hcl (f := .func f) (g := f) (lb := #[]) rfl]
    have hargs : c.args.map a.eval ++ #[] = (c.args.toList.map a.eval).toArray := by apply Array.toList_inj.1; simp
    rw [hargs]
    simp only [aexec] at hx
    split at hx
    · rename_i vs hm
      split at hx
      · rename_i r0 hc0
        split at hx
        · cases hx
        split at hx
        · rename_i hcond
          obtain ⟨p, h1, h2⟩ := Option.map_eq_some_iff.1 hx
          cases h2
          exact upon_call (callV_behind hI hG hP hV hA hm hc0 (.inl ⟨hcond, h1⟩)) hK
        · split at hx
          · cases hx
          · obtain ⟨p, h1, h2⟩ := Option.map_eq_some_iff.1 hx
            cases h2
            exact upon_call (callV_behind hI hG hP hV hA hm hc0 (.inr h1)) hK
      · cases hx
    · cases hx
  | callR f args keeps =>
    obtain ⟨c, x, hop, hcl, hx0, ha⟩ := cOp_callR hc
    have hA := cOpds_rep hG hT ha
    have hF := cOpd_rep hG hT hx0
    simp only [aexec] at hx
    split at hx
    · rename_i g0 caps hf
      rw [hf] at hF
      obtain ⟨us, hu, hcap⟩ := clo_inv hF
      rw [run_call hop hcl hu]
      have hargs : c.args.map a.eval ++ us.toArray = ((c.args.toList.map a.eval) ++ us).toArray := by
        apply Array.toList_inj.1; simp
      rw [hargs]
      split at hx
      · exact upon_call (quiet_behind hI hG hP hH hR (hA.append hcap.toA) hx) hK
      split at hx
      · exact upon_call (frame_behind hI hG hP hH hR (hA.append hcap.toA) hx) hK
      split at hx
      · exact upon_call (frameS_behind hI hG hP hH hR (hA.append hcap.toA) hx) hK
      split at hx
      · rename_i r0 hp1 hc0
        obtain ⟨hp2, h1, h2⟩ := Option.map_eq_some_iff.1 hx
        cases h2
        refine upon_call (R := Behind P U hs w Pr hp.bs γ r hp') ((hR g0 _ hp r hp1 hc0 U hs w Pr γ _ hI hG hP hH (hA.append hcap.toA)).mono ?_) hK
        rintro v w' ⟨Pr', γ', k1, k2, k3, k4, k5⟩
        obtain ⟨e1, γ2, e2, e3, e4⟩ := shrink_behind hI.len h1 k1 k2 k5
        exact ⟨Pr', γ2, e2, e3, k3, by rw [e1]; exact k4, e4.up⟩
      · cases hx
    · rename_i d hf
      rw [hf] at hF
      split at hx
      · cases hx
      rename_i hny
      split at hx
      · rename_i y hy
        obtain ⟨p, h1, h2⟩ := Option.map_eq_some_iff.1 hx
        cases h2
        generalize hv : a.eval x = v at hF
        cases hF with
        | yld d l hl =>
          obtain ⟨h, hd, rfl⟩ : ∃ h, hs[d]? = some h ∧ h.l = l := by
            simp only [lsOf, List.getElem?_map] at hl
            obtain ⟨h, h3, h4⟩ := Option.map_eq_some_iff.1 hl
            exact ⟨h, h3, h4⟩
          have hny : ¬ ((args.map (·.ev T)).any AV.isYld) = true := fun h => hny (.inr h)
          have hdl : d + 1 ≤ hs.length := (List.getElem?_eq_some_iff.1 hd).1
          have htl : (hs.take (d + 1)).length = d + 1 := by simp; omega
          have hok := hH.ok d h y hd hy _ hp p.1 p.2 h1 w Pr γ _ (Nat.le_refl _) (Stays.refl _ _) (Keeps.refl _ _) hI (by rw [htl]; exact hP.take _) (hA.toL (by simpa using hny)).toA
          have fin : ∀ e w', (e = Ending.returned (.bool p.1) ∧ ∃ Pr' γ', Inv U w' Pr' p.2.bs γ' ∧ Keeps hp.bs γ p.2.bs γ' ∧ Evo U (lsOf (hs.take (d + 1))) w Pr w' Pr' ∧ PendOk w' (hs.take (d + 1)) (p.2.pend.take (hs.take (d + 1)).length) ∧ p.2.pend.drop (hs.take (d + 1)).length = hp.pend.drop (hs.take (d + 1)).length) →
              ∃ v, e = .returned v ∧ K (a.put o.dst v) w' := by
            rintro e w' ⟨rfl, Pr', γ', k1, k2, k3, k4, k5⟩
            rw [htl] at k4 k5
            refine ⟨_, rfl, hK _ _ ⟨Pr', γ', k1, k2, k3.more (fun l hl => ?_), hP.join hH.nodup k4 hdl k5 k3, .bool _⟩⟩
            obtain ⟨k', hk', e'⟩ := List.mem_map.1 hl
            exact List.mem_map.2 ⟨k', List.mem_of_mem_take hk', e'⟩
          rw [run_callY hop hcl hv]
          have hargs : c.args.map a.eval = (c.args.toList.map a.eval).toArray := by apply Array.toList_inj.1; rw [Array.toList_map]
          rw [hargs]
          cases ro with
          | none => exact J.upon_yield hok fin
          | some m => exact J.upon_yield_in hok fin
      · cases hx
    · cases hx
  | _ => exact other hx
end
end Go.Proofs.YtgajekpigkknnaaDoor.A

/- Regions in the text's order. No condition. -/
namespace Go.Proofs.YtgajekpigkknnaaDoor.A
open Go
variable {U : Nat → Prop} {w w' : World} {Pr Pr' : Nat → Nat → Prop} {σ σ' : List Blk} {γ γ' : List Ghost} {ls : List Nat} {P : Program} {G : Nat → Option (List AV)}
variable {cV : FuncId → List AV → Option AV} {cR : FuncId → List AV → Hp → Option (AV × Hp)} {ys : List Hd} {hs : List Lp} {hp hp' : Hp} {T T' : Tm}

/-- What is known behind a code. -/
def Cont (U : Nat → Prop) (hs : List Lp) (w : World) (Pr : Nat → Nat → Prop) (σ : List Blk) (γ : List Ghost) (a : Act) (T' : Tm) (hp' : Hp) (a' : Act) (w' : World) : Prop :=
  a'.tmps.size = a.tmps.size ∧ a'.defers = a.defers ∧ ∃ Pr' γ', Inv U w' Pr' hp'.bs γ' ∧ Keeps σ γ hp'.bs γ' ∧ Evo U (lsOf hs) w Pr w' Pr' ∧ PendOk w' hs hp'.pend ∧ TOk w' Pr' hp'.bs γ' (lsOf hs) T' a'.tmps

/-- An operation and its form. -/
structure InstrOk (P : Program) (G : Nat → Option (List AV)) (ops : Array Oper) (nt : Nat) (i : AInstr) (o : Oper) : Prop where
  op : ∃ g, cOp P G g o = some i.op
  guard : cGuard ops o.guard = some i.guard
  dst : i.dst = o.dst
  lt : ∀ d, o.dst = some d → d < nt
theorem cOps_ok {ops : Array Oper} {nt : Nat} : ∀ {gs : List AInstr} {os : List Oper} {l : List AInstr}, cOps P G nt ops gs os = some l → l.length = os.length ∧ ∀ (k : Nat) i o, l[k]? = some i → os[k]? = some o → InstrOk P G ops nt i o
  | [], [], l, h => by cases h; exact ⟨rfl, fun k i o h => by simp at h⟩
  | [], o :: os, l, h => by cases h
  | g :: gs, [], l, h => by cases h
  | g :: gs, o :: os, l, h => by
    unfold cOps at h
    split at h
    · rename_i ao gd r h1 h2 h3
      by_cases hd : dstOk nt o.dst = true
      · rw [if_pos hd] at h; cases h
        obtain ⟨h4, h5⟩ := cOps_ok h3
        refine ⟨by simp [h4], fun k i o' hi ho => ?_⟩
        cases k with
        | zero =>
          cases hi; cases ho
          refine ⟨⟨_, h1⟩, h2, rfl, fun d hd' => ?_⟩
          rw [hd'] at hd; simpa [dstOk] using hd
        | succ k => exact h5 k i o' (by simpa using hi) (by simpa using ho)
      · rw [if_neg hd] at h; cases h
    · cases h

/-- Whether it runs. -/
theorem wanted_of {ops : Array Oper} {o : Oper} {gd : Option (Nat × Bool)} {tm : Array Value} {b : Bool} (hg : cGuard ops o.guard = some gd) (hb : guardOf T gd = some b) (hT : TOk w Pr σ γ ls T tm) : Region.wanted o (yielded ops tm) = b := by
  unfold Region.wanted
  cases hgo : o.guard with
  | none =>
    rw [hgo] at hg; cases hg; cases hb; rfl
  | some jw =>
    obtain ⟨j, want⟩ := jw
    rw [hgo] at hg
    unfold cGuard at hg
    dsimp only at hg ⊢
    split at hg
    · rename_i t ht
      cases hg
      have hr := hT t
      unfold yielded
      rw [ht]
      simp only [Option.bind_some]
      simp only [guardOf] at hb
      split at hb
      · rename_i c e
        rw [e] at hr
        have hv := bool_inv hr
        cases hb
        have : tm[t]? = some (.bool c) := by
          rw [Array.getD_eq_getD_getElem?] at hv
          cases hx : tm[t]? with
          | none => rw [hx] at hv; cases hv
          | some x => rw [hx] at hv; simp at hv; rw [hv]
        rw [this]
        simp
      · rename_i e
        rw [e] at hr
        obtain ⟨us, hv, _⟩ := tup_inv hr
        cases hb
        rw [Array.getD_eq_getD_getElem?] at hv
        cases hx : tm[t]? with
        | none => rfl
        | some x => rw [hx] at hv; simp at hv; subst hv; rfl
      · cases hb
    · cases hg

theorem put_size (a : Act) (d : Option Nat) (v : Value) : (a.put d v).tmps.size = a.tmps.size := by cases d <;> simp [Act.put]
theorem put_defers (a : Act) (d : Option Nat) (v : Value) : (a.put d v).defers = a.defers := by cases d <;> rfl
theorem put_ok {a : Act} {d : Option Nat} {r : AV} {v : Value} (h : TOk w Pr σ γ ls T a.tmps) (hd : ∀ x, d = some x → x < a.tmps.size) (hv : Rep w Pr σ γ ls r v) : TOk w Pr σ γ ls (putD T d r) (a.put d v).tmps := by
  cases d with
  | none => exact h
  | some d => exact h.put (hd d rfl) hv

theorem instr_sound (hV : CVOk P G cV) (hR : CROk P G ys cR) {ro : Option Nat} {q : Bool} {base nt : Nat} {ops : Array Oper} {i : AInstr} {o : Oper} {a : Act} (hi : InstrOk P G ops nt i o) (hx : ainstr cV cR ys q base i T hp = some (T', hp')) (hnt : nt ≤ a.tmps.size)
    (hI : Inv U w Pr hp.bs γ) (hG : GOk G w Pr) (hP : PendOk w hs hp.pend) (hH : HdsOk P U hs ys w Pr hp.bs γ) (hT : TOk w Pr hp.bs γ (lsOf hs) T a.tmps)
    {K : Act → World → Prop} {Q : Exit → Act → World → Prop} (hK : ∀ a' w', Cont U hs w Pr hp.bs γ a T' hp' a' w' → K a' w') :
    if Region.wanted o (yielded ops a.tmps) then o.wpIn (fenceOf ro) 0 P a w K Q else (∀ f, o.about P w a.eval = some f → (fenceOf ro).fn f) ∧ K (a.put o.dst undef) w := by
  have hlt : ∀ x, o.dst = some x → x < a.tmps.size := fun x hx => Nat.lt_of_lt_of_le (hi.lt x hx) hnt
  unfold ainstr at hx
  split at hx
  · cases hx
  · rename_i hb; cases hx
    rw [wanted_of hi.guard hb hT]
    refine ⟨fun f _ => by cases ro <;> exact trivial, hK _ _ ⟨put_size _ _ _, put_defers _ _ _, Pr, γ, hI, Keeps.refl _ _, Evo.refl _ _ _ _, hP, ?_⟩⟩
    rw [hi.dst]
    exact put_ok hT hlt (.tup [] [] rfl (fun i a v h => by simp at h))
  · rename_i hb
    rw [wanted_of hi.guard hb hT]
    obtain ⟨p, h1, h2⟩ := Option.map_eq_some_iff.1 hx
    cases h2
    obtain ⟨g, hg⟩ := hi.op
    refine exec_sound hV hR hg h1 hI hG hP hH hT ?_
    rintro v w' ⟨Pr', γ', k1, k2, k3, k4, k5⟩
    refine hK _ _ ⟨put_size _ _ _, put_defers _ _ _, Pr', γ', k1, k2, k3, k4, ?_⟩
    rw [hi.dst]
    exact put_ok (hT.mono k3.stays k2 (fun _ _ h => h)) hlt k5

theorem Cont.trans {a a' a'' : Act} {w1 w2 : World} {T2 : Tm} {hp1 hp2 : Hp} {Pr1 : Nat → Nat → Prop} {γ1 : List Ghost} (h1 : a'.tmps.size = a.tmps.size) (h2 : a'.defers = a.defers) (hK : Keeps σ γ hp1.bs γ1) (hE : Evo U (lsOf hs) w Pr w1 Pr1)
    (h : Cont U hs w1 Pr1 hp1.bs γ1 a' T2 hp2 a'' w2) : Cont U hs w Pr σ γ a T2 hp2 a'' w2 := by
  obtain ⟨h3, h4, Pr2, γ2, k1, k2, k3, k4, k5⟩ := h
  exact ⟨h3.trans h1, h4.trans h2, Pr2, γ2, k1, hK.trans k2, hE.trans k3, k4, k5⟩

/-- A region in the text's order. -/
theorem ops_sound (hV : CVOk P G cV) (hR : CROk P G ys cR) {ro : Option Nat} {q : Bool} {base nt : Nat} {ops : Array Oper} {l : List AInstr} (hl : l.length = ops.size) (hok : ∀ (k : Nat) i o, l[k]? = some i → ops[k]? = some o → InstrOk P G ops nt i o)
    {Q : Exit → Act → World → Prop} : ∀ (m k : Nat) {w : World} {Pr : Nat → Nat → Prop} {γ : List Ghost} {hp hp' : Hp} {T T' : Tm} {a : Act}, k + m = ops.size → aops cV cR ys q base (l.drop k) T hp = some (T', hp') → nt ≤ a.tmps.size →
      Inv U w Pr hp.bs γ → GOk G w Pr → PendOk w hs hp.pend → HdsOk P U hs ys w Pr hp.bs γ → TOk w Pr hp.bs γ (lsOf hs) T a.tmps →
      (∀ a' w', Cont U hs w Pr hp.bs γ a T' hp' a' w' → Q .normal a' w') → wpOpsIn (fenceOf ro) 0 P ops Q (List.range' k m) a w
  | 0, k, w, Pr, γ, hp, hp', T, T', a, hk, hx, hnt, hI, hG, hP, hH, hT, hQ => by
    have : l.drop k = [] := List.drop_eq_nil_of_le (by omega)
    rw [this] at hx; cases hx
    exact hQ _ _ ⟨rfl, rfl, Pr, γ, hI, Keeps.refl _ _, Evo.refl _ _ _ _, hP, hT⟩
  | m + 1, k, w, Pr, γ, hp, hp', T, T', a, hk, hx, hnt, hI, hG, hP, hH, hT, hQ => by
    have hkl : k < l.length := by omega
    rw [List.drop_eq_getElem_cons hkl] at hx
    unfold aops at hx
    split at hx
    · rename_i T1 hp1 h1
      have ho : ops[k]? = some ops[k] := Array.getElem?_eq_getElem (by omega)
      rw [List.range'_succ, wpOpsIn_cons]
      unfold wpOpIn
      rw [ho]
      refine instr_sound hV hR (hok k _ _ (List.getElem?_eq_getElem hkl) ho) h1 hnt hI hG hP hH hT ?_
      rintro a' w' ⟨h2, h3, Pr', γ', k1, k2, k3, k4, k5⟩
      exact ops_sound hV hR hl hok m (k + 1) (by omega) hx (by rw [h2]; exact hnt) k1 (hG.mono k3.stays) k4 (hH.mono k3.size k3.stays k2) k5 (fun a'' w'' hc => hQ _ _ (hc.trans h2 h3 k2 k3))
    · cases hx
end Go.Proofs.YtgajekpigkknnaaDoor.A

/- Operations in whatever order: what each looks at, what each changes. No condition. -/
namespace Go.Proofs.YtgajekpigkknnaaDoor.A
open Go
variable {cV : FuncId → List AV → Option AV} {cR : FuncId → List AV → Hp → Option (AV × Hp)} {ys : List Hd} {hp hp' : Hp} {T T' : Tm}

/-! ### The temporaries that an operation looks at -/
theorem boundOf_agree {d : Nat} {x : Option Opd} (h : ∀ y ∈ x.toList, y.ev T = y.ev T') : boundOf T d x = boundOf T' d x := by
  cases x with
  | none => rfl
  | some x => simp only [boundOf]; rw [h x (by simp)]
theorem fillCells_agree : ∀ {l : List (Nat × Nat × Opd)} {row : List AV}, (∀ y ∈ l.map (·.2.2), y.ev T = y.ev T') → fillCells T l row = fillCells T' l row
  | [], row, h => rfl
  | (off, k, x) :: l, row, h => by
    unfold fillCells
    rw [h x (by simp)]
    split
    · split
      · split
        · exact fillCells_agree (fun y hy => h y (by simp only [List.map_cons, List.mem_cons]; exact .inr hy))
        · rfl
      · rfl
    · rfl
theorem fillRows_agree {k : Nat} : ∀ {l : List (Nat × Opd)} {rows : List (List AV)} {bs : List Blk}, (∀ y ∈ l.map (·.2), y.ev T = y.ev T') → fillRows T k l rows bs = fillRows T' k l rows bs
  | [], rows, bs, h => rfl
  | (i, x) :: l, rows, bs, h => by
    unfold fillRows
    rw [h x (by simp)]
    split
    · split
      · split
        · exact fillRows_agree (fun y hy => h y (by simp only [List.map_cons, List.mem_cons]; exact .inr hy))
        · rfl
      · rfl
    · rfl
theorem fillRf_agree {k : Nat} : ∀ {l : List (Nat × Opd)} {rows : List (List AV)}, (∀ y ∈ l.map (·.2), y.ev T = y.ev T') → fillRf T k l rows = fillRf T' k l rows
  | [], rows, h => rfl
  | (i, x) :: l, rows, h => by
    unfold fillRf
    rw [h x (by simp)]
    split
    · split
      · exact fillRf_agree (fun y hy => h y (by simp only [List.map_cons, List.mem_cons]; exact .inr hy))
      · rfl
    · rfl
theorem map_agree {l : List Opd} (h : ∀ y ∈ l, y.ev T = y.ev T') : l.map (·.ev T) = l.map (·.ev T') := List.map_congr_left h

theorem aop_agree {o : AOp} {s : Nat} {bs : List Blk} (h : ∀ x ∈ o.opds, x.ev T = x.ev T') : aop o s T bs = aop o s T' bs := by
  cases o <;> simp only [AOp.opds, List.mem_cons, List.mem_append, List.not_mem_nil, or_false, forall_eq_or_imp, forall_eq] at h <;> simp only [aop]
  case mv x => rw [h]
  case boxY x => rw [h]
  case loadY x => rw [h]
  case pick c a b => rw [h.1, h.2.1, h.2.2]
  case box e k x l => rw [h]
  case build z l ls => rw [fillCells_agree h]
  case buildSl e k z n l g => rw [fillRows_agree h]
  case buildSlF e k z n l => rw [fillRows_agree h]
  case buildRf e k z n l => rw [fillRf_agree h]
  case mk e k b z x y => rw [h.1, h.2]
  case sliceL md k x lo hi mx =>
    obtain ⟨h1, h2⟩ := h
    unfold asliceL
    have e1 : ∀ d, boundOf T d lo = boundOf T' d lo := fun d => boundOf_agree fun y hy => h2 y (.inl (.inl hy))
    have e2 : ∀ d, boundOf T d hi = boundOf T' d hi := fun d => boundOf_agree fun y hy => h2 y (.inl (.inr hy))
    have e3 : ∀ d, boundOf T d mx = boundOf T' d mx := fun d => boundOf_agree fun y hy => h2 y (.inr hy)
    rw [h1]
    simp only [e1, e2, e3]
  case appIn e k x y => rw [h.1, h.2]
  case strof x => rw [h]
  case load k agg p => rw [h]
  case store k p x => rw [h.1, h.2]
  case storeF k p x => rw [h.1, h.2]
  case nilck x => rw [h]
  case bin op x y => rw [h.1, h.2]
  case eqb n x y => rw [h.1, h.2]
  case isnil n x => rw [h]
  case pnil n x => rw [h]
  case eqagg n ks x y => rw [h.1, h.2]
  case not x => rw [h]
  case neg x => rw [h]
  case conv k x => rw [h]
  case clo f l => rw [map_agree h]
  case slice k x lo hi mx =>
    obtain ⟨h1, h2⟩ := h
    unfold aslice
    have e1 : ∀ d, boundOf T d lo = boundOf T' d lo := fun d => boundOf_agree fun y hy => h2 y (.inl (.inl hy))
    have e2 : ∀ d, boundOf T d hi = boundOf T' d hi := fun d => boundOf_agree fun y hy => h2 y (.inl (.inr hy))
    have e3 : ∀ d, boundOf T d mx = boundOf T' d mx := fun d => boundOf_agree fun y hy => h2 y (.inr hy)
    rw [h1]
    cases mx with
    | none => simp only [e1, e2]
    | some m => simp only [e1, e2, e3]
  case sslice x lo hi =>
    obtain ⟨h1, h2⟩ := h
    unfold asslice
    have e1 : ∀ d, boundOf T d lo = boundOf T' d lo := fun d => boundOf_agree fun y hy => h2 y (.inl hy)
    have e2 : ∀ d, boundOf T d hi = boundOf T' d hi := fun d => boundOf_agree fun y hy => h2 y (.inr hy)
    rw [h1]; simp only [e1, e2]
  case slarr k n x lo hi =>
    obtain ⟨h1, h2⟩ := h
    have e1 : ∀ d, boundOf T d lo = boundOf T' d lo := fun d => boundOf_agree fun y hy => h2 y (.inl hy)
    have e2 : ∀ d, boundOf T d hi = boundOf T' d hi := fun d => boundOf_agree fun y hy => h2 y (.inr hy)
    rw [h1]; simp only [e1, e2]
  case fld off k agg x => rw [h]
  case faddr off x => rw [h]
  case iaddr k arr x i => rw [h.1, h.2]
  case idx k agg n x i => rw [h.1, h.2]
  case sidx x i => rw [h.1, h.2]
  case extr x i => rw [h]
  case len x => rw [h]
  case slen x => rw [h]
  case append e k b x y => rw [h.1, h.2]
  case copy k x y => rw [h.1, h.2]
  case clear z x => rw [h]
  case min x l => rw [h.1, map_agree h.2]
  case max x l => rw [h.1, map_agree h.2]
theorem quietOk_agree {o : AOp} (h : ∀ x ∈ o.opds, x.ev T = x.ev T') : quietOk T o = quietOk T' o := by
  cases o <;> simp only [quietOk]
  rename_i e k z n l g
  simp only [AOp.opds] at h
  induction l with
  | nil => rfl
  | cons x l ih =>
    simp only [List.all_cons]
    rw [ih (fun y hy => h y (by simp only [List.map_cons, List.mem_cons]; exact .inr hy)), h x.2 (by simp)]
theorem aexec_agree {q : Bool} {s : Nat} {o : AOp} (h : ∀ x ∈ o.opds, x.ev T = x.ev T') : aexec cV cR ys q s o T hp = aexec cV cR ys q s o T' hp := by
  cases o
  case callV f l keeps => simp only [aexec, map_agree (T := T) (T' := T') (l := l) h]
  case callR f l keeps =>
    simp only [AOp.opds, List.mem_cons, forall_eq_or_imp] at h
    simp only [aexec, map_agree (T := T) (T' := T') h.2, h.1]
  all_goals
    unfold aexec
    dsimp only
    rw [quietOk_agree h, aop_agree h]

/-- What an instruction gives. -/
def aval (cV : FuncId → List AV → Option AV) (cR : FuncId → List AV → Hp → Option (AV × Hp)) (ys : List Hd) (base : Nat) (i : AInstr) (T : Tm) (hp : Hp) : Option (AV × Hp) :=
  match guardOf T i.guard with
  | none => none
  | some false => some (.tup [], hp)
  | some true => aexec cV cR ys true (base + i.slot) i.op T hp
theorem ainstr_eq {base : Nat} {i : AInstr} : ainstr cV cR ys true base i T hp = (aval cV cR ys base i T hp).map fun p => (putD T i.dst p.1, p.2) := by
  unfold ainstr aval
  cases guardOf T i.guard with
  | none => rfl
  | some b => cases b <;> rfl
theorem mem_looks {i : AInstr} {n : Nat} (h : Opd.t n ∈ i.op.opds) : n ∈ i.looks := List.mem_append_left _ (List.mem_filterMap.2 ⟨_, h, rfl⟩)
theorem guard_looks {i : AInstr} {n : Nat} {w : Bool} (h : i.guard = some (n, w)) : n ∈ i.looks := by unfold AInstr.looks; rw [h]; simp
theorem aval_agree {base : Nat} {i : AInstr} (h : ∀ n ∈ i.looks, T.get n = T'.get n) : aval cV cR ys base i T hp = aval cV cR ys base i T' hp := by
  unfold aval
  have hg : guardOf T i.guard = guardOf T' i.guard := by
    cases hg : i.guard with
    | none => rfl
    | some tw => obtain ⟨t, w⟩ := tw; simp only [guardOf, h t (guard_looks hg)]
  have ho : ∀ x ∈ i.op.opds, x.ev T = x.ev T' := fun x hx => by
    cases x with
    | t n => exact h n (mem_looks hx)
    | c a => rfl
  rw [hg]
  split
  · rfl
  · rfl
  · exact aexec_agree ho
theorem get_putD (T : Tm) (d : Option Nat) (a : AV) (t : Nat) : (putD T d a).get t = if d = some t then a else T.get t := by
  cases d with
  | none => rfl
  | some d =>
    show (if d = t then a else T.get t) = _
    by_cases h : d = t
    · rw [if_pos h, if_pos (by rw [h])]
    · rw [if_neg h, if_neg (by simpa using h)]
def Teq (T T' : Tm) : Prop := ∀ t, T.get t = T'.get t
theorem aops_teq {base : Nat} : ∀ {l : List AInstr} {T T' Tf : Tm} {hp hpf : Hp}, Teq T T' → aops cV cR ys true base l T hp = some (Tf, hpf) → ∃ Tf', aops cV cR ys true base l T' hp = some (Tf', hpf) ∧ Teq Tf Tf'
  | [], T, T', Tf, hp, hpf, h, hx => by cases hx; exact ⟨T', rfl, h⟩
  | i :: l, T, T', Tf, hp, hpf, h, hx => by
    unfold aops at hx ⊢
    rw [ainstr_eq] at hx ⊢
    rw [← aval_agree (T := T) (T' := T') (fun n _ => h n)]
    cases hv : aval cV cR ys base i T hp with
    | none => rw [hv] at hx; cases hx
    | some p =>
      rw [hv] at hx
      refine aops_teq (fun t => ?_) hx
      rw [get_putD, get_putD, h t]
end Go.Proofs.YtgajekpigkknnaaDoor.A

/- Operations in whatever order: their kinds. No condition. -/
namespace Go.Proofs.YtgajekpigkknnaaDoor.A
open Go
variable {cV : FuncId → List AV → Option AV} {cR : FuncId → List AV → Hp → Option (AV × Hp)} {ys : List Hd} {hp hp' : Hp} {T T' : Tm}

theorem aexec_aop {q : Bool} {s : Nat} {o : AOp} {r : AV} (hv : ∀ f l k, o ≠ .callV f l k) (hr : ∀ f l k, o ≠ .callR f l k) (h : aexec cV cR ys q s o T hp = some (r, hp')) : (q && !quietOk T o) = false ∧ aop o s T hp.bs = some (r, hp'.bs) ∧ hp'.pend = hp.pend := by
  have key : (if q && !quietOk T o then none else (aop o s T hp.bs).map fun p => (p.1, ({ hp with bs := p.2 } : Hp))) = some (r, hp') := by
    cases o <;> first | exact h | exact absurd rfl (hv _ _ _) | exact absurd rfl (hr _ _ _)
  split at key
  · cases key
  · rename_i hq
    obtain ⟨p, h1, h2⟩ := Option.map_eq_some_iff.1 key
    cases h2
    exact ⟨by simpa using hq, h1, rfl⟩
theorem aexec_of_aop {q : Bool} {s : Nat} {o : AOp} {r : AV} {bs' : List Blk} (hv : ∀ f l k, o ≠ .callV f l k) (hr : ∀ f l k, o ≠ .callR f l k) (hq : (q && !quietOk T o) = false) (h : aop o s T hp.bs = some (r, bs')) : aexec cV cR ys q s o T hp = some (r, { hp with bs := bs' }) := by
  have key : (if q && !quietOk T o then none else (aop o s T hp.bs).map fun p => (p.1, ({ hp with bs := p.2 } : Hp))) = some (r, { hp with bs := bs' }) := by
    rw [hq, h]; rfl
  cases o <;> first | exact key | exact absurd rfl (hv _ _ _) | exact absurd rfl (hr _ _ _)

/-! ### What looks at its operands alone -/
theorem fillRows_quiet {k : Nat} : ∀ {l : List (Nat × Opd)} {rows rows' : List (List AV)} {bs bs' : List Blk}, (l.all fun p => match (p.2.ev T).cells with
      | some cs => dataL cs
      | none => true) = true → fillRows T k l rows bs = some (rows', bs') → bs' = bs ∧ ∀ bs2, fillRows T k l rows bs2 = some (rows', bs2)
  | [], rows, rows', bs, bs', _, h => by cases h; exact ⟨rfl, fun _ => rfl⟩
  | (i, x) :: l, rows, rows', bs, bs', hq, h => by
    simp only [List.all_cons, Bool.and_eq_true] at hq
    unfold fillRows at h
    split at h
    · rename_i cs hcs
      rw [hcs] at hq
      have hd : dataL cs = true := hq.1
      have ha : ∀ bs2, asData bs2 cs = some (cs, bs2) := fun bs2 => by unfold asData; rw [if_pos hd]
      split at h
      · rename_i hc
        rw [ha] at h
        dsimp only at h
        obtain ⟨h1, h2⟩ := fillRows_quiet hq.2 h
        exact ⟨h1, fun bs2 => by unfold fillRows; rw [hcs]; dsimp only; rw [if_pos hc, ha]; exact h2 bs2⟩
      · cases h
    · cases h
theorem mapP {α : Type} {x : Option α} {bs bs' : List Blk} {r : α} (h : x.map (·, bs) = some (r, bs')) : bs' = bs ∧ ∀ bs2 : List Blk, x.map (·, bs2) = some (r, bs2) := by
  obtain ⟨y, h1, h2⟩ := Option.map_eq_some_iff.1 h
  cases h2
  exact ⟨rfl, fun bs2 => by rw [h1]; rfl⟩
theorem P_const {o : AOp} (hc : clsP o = true) (hb : ∀ e k z n l g, o ≠ .buildSl e k z n l g) : ∃ x : Option AV, ∀ s bs, aop o s T bs = x.map (·, bs) := by
  refine ⟨(aop o 0 T []).map (·.1), fun s bs => ?_⟩
  cases o <;> first | (cases hc; done) | exact absurd rfl (hb _ _ _ _ _ _) | skip
  case build z l ls =>
    cases ls with
    | cons x l => cases hc
    | nil => simp only [aop, growLists]; cases fillCells T l z <;> rfl
  case iaddr k arr x i =>
    cases arr with
    | none => cases hc
    | some m =>
      simp only [aop]
      cases i.ev T <;> try rfl
      dsimp only
      split <;> try rfl
      split <;> try rfl
      cases x.ev T <;> rfl
  case buildRf e k z n l => simp only [aop]; cases fillRf T k l (List.replicate n z) <;> rfl
  case mv x => simp only [aop]; cases x.ev T <;> rfl
  case boxY x => simp only [aop]; cases x.ev T <;> rfl
  case loadY x => simp only [aop]; cases x.ev T <;> rfl
  case pick c a b => simp only [aop]; cases c.ev T <;> try rfl
                     rename_i b'; cases b' <;> rfl
  case nilck x => simp only [aop]; cases x.ev T <;> rfl
  case pnil n x => simp only [aop]; cases x.ev T <;> rfl
  case bin op x y => simp only [aop]; cases abin op (x.ev T) (y.ev T) <;> rfl
  case eqb n x y => simp only [aop]; cases x.ev T <;> cases y.ev T <;> rfl
  case isnil n x =>
    simp only [aop]
    cases lenOf (x.ev T) with
    | none => rfl
    | some k => cases k <;> rfl
  case eqagg n ks x y =>
    simp only [aop]
    cases x.ev T <;> try rfl
    cases y.ev T <;> try rfl
    rename_i a b
    dsimp only
    cases eqCells ks a b <;> rfl
  case not x => simp only [aop]; cases x.ev T <;> rfl
  case neg x => simp only [aop]; cases x.ev T <;> rfl
  case conv k x => simp only [aop]; cases x.ev T <;> rfl
  case clo f l => simp only [aop]; split <;> rfl
  case sslice x lo hi => simp only [aop]; cases asslice T (x.ev T) lo hi <;> rfl
  case fld off k agg x =>
    simp only [aop]
    cases x.ev T <;> try rfl
    rename_i cs
    dsimp only
    cases piece cs off k with
    | none => rfl
    | some l => dsimp only; cases asVal agg l <;> rfl
  case faddr off x => simp only [aop]; cases x.ev T <;> rfl
  case idx k agg m x i =>
    simp only [aop]
    cases i.ev T <;> try rfl
    cases x.ev T <;> try rfl
    rename_i n cs
    dsimp only
    split <;> try rfl
    cases piece cs (n.toNat * k) k with
    | none => rfl
    | some l => dsimp only; cases asVal agg l <;> rfl
  case sidx x i =>
    simp only [aop]
    cases i.ev T <;> try rfl
    cases x.ev T <;> try rfl
    rename_i n b
    dsimp only
    split <;> try rfl
    cases b[n.toNat]? <;> rfl
  case extr x i =>
    simp only [aop]
    cases x.ev T <;> try rfl
    rename_i vs
    dsimp only
    cases vs[i]? with
    | none => rfl
    | some a => cases a <;> rfl
  case len x => simp only [aop]; cases lenOf (x.ev T) <;> rfl
  case slen x => simp only [aop]; cases x.ev T <;> rfl
  case lenc n => rfl
  case min x l =>
    simp only [aop]
    cases x.ev T <;> try rfl
    rename_i k a
    dsimp only
    cases aminmax false k a (l.map (·.ev T)) <;> rfl
  case max x l =>
    simp only [aop]
    cases x.ev T <;> try rfl
    rename_i k a
    dsimp only
    cases aminmax true k a (l.map (·.ev T)) <;> rfl
theorem P_aop {o : AOp} {s : Nat} {r : AV} {bs bs' : List Blk} (hc : clsP o = true) (hq : quietOk T o = true) (h : aop o s T bs = some (r, bs')) : bs' = bs ∧ ∀ s2 bs2, aop o s2 T bs2 = some (r, bs2) := by
  by_cases hb : ∃ e k z n l g, o = .buildSl e k z n l g
  · obtain ⟨e, k, z, n, l, g, rfl⟩ := hb
    cases g with
    | true => cases hc
    | false =>
      simp only [aop] at h ⊢
      split at h
      · rename_i rows bs1 hf
        obtain ⟨h1, h2⟩ := fillRows_quiet hq hf
        split at h
        · rename_i hd
          simp only [Bool.false_eq_true, if_false, Option.some.injEq, Prod.mk.injEq] at h
          obtain ⟨rfl, rfl⟩ := h
          exact ⟨h1, fun s2 bs2 => by rw [h2 bs2]; simp only [hd, if_true, Bool.false_eq_true, if_false]⟩
        · cases h
      · cases h
  · obtain ⟨x, hx⟩ := P_const (T := T) hc (fun e k z n l g he => hb ⟨e, k, z, n, l, g, he⟩)
    rw [hx] at h
    obtain ⟨h1, h2⟩ := mapP h
    exact ⟨h1, fun s2 bs2 => by rw [hx]; exact h2 bs2⟩
theorem P_exec {o : AOp} {s : Nat} {r : AV} (hc : clsP o = true) (h : aexec cV cR ys true s o T hp = some (r, hp')) : hp' = hp ∧ ∀ hp2, aexec cV cR ys true s o T hp2 = some (r, hp2) := by
  have hv : ∀ f l k, o ≠ .callV f l k := by rintro f l k rfl; cases hc
  have hr : ∀ f l k, o ≠ .callR f l k := by rintro f l k rfl; cases hc
  obtain ⟨h1, h2, h3⟩ := aexec_aop hv hr h
  obtain ⟨h4, h5⟩ := P_aop hc (by simpa using h1) h2
  refine ⟨?_, fun hp2 => aexec_of_aop hv hr h1 (h5 s hp2.bs)⟩
  cases hp; cases hp'; simp at h3 h4; rw [h3, h4]
end Go.Proofs.YtgajekpigkknnaaDoor.A

/- Operations in whatever order: two that may change places. No condition. -/
namespace Go.Proofs.YtgajekpigkknnaaDoor.A
open Go
variable {cV : FuncId → List AV → Option AV} {cR : FuncId → List AV → Hp → Option (AV × Hp)} {ys : List Hd} {hp hp' : Hp} {T T' : Tm}

def strip : Blk → Blk
  | .dead => .dead
  | .box _ e row => .box 0 e row
  | .lst _ g e k rows => .lst 0 g e k rows
def AgreeOn (bs bs2 : List Blk) (ids : List Nat) : Prop := ∀ id ∈ ids, (bs[id]?).map strip = (bs2[id]?).map strip
def oids (o : AOp) (T : Tm) : List Nat := o.opds.flatMap fun x => (x.ev T).ids

theorem rdPtr_agree {bs bs2 : List Blk} {p : AV} {k : Nat} (h : AgreeOn bs bs2 p.ids) : rdPtr bs p k = rdPtr bs2 p k := by
  cases p <;> try rfl
  rename_i id gen row off
  have := h id (by simp [AV.ids])
  simp only [rdPtr]
  cases h1 : bs[id]? with
  | none => rw [h1] at this; cases h2 : bs2[id]? with
    | none => rfl
    | some b => rw [h2] at this; cases this
  | some a =>
    rw [h1] at this
    cases h2 : bs2[id]? with
    | none => rw [h2] at this; cases this
    | some b =>
      rw [h2] at this
      cases a <;> cases b <;> simp [strip] at this
      · rfl
      · obtain ⟨rfl, rfl⟩ := this; rfl
      · obtain ⟨rfl, rfl, rfl, rfl⟩ := this; rfl
theorem rowsOf_agree {bs bs2 : List Blk} {p : AV} (h : AgreeOn bs bs2 p.ids) : rowsOf bs p = rowsOf bs2 p := by
  cases p <;> try rfl
  rename_i id gen off len
  have := h id (by simp [AV.ids])
  simp only [rowsOf]
  cases h1 : bs[id]? with
  | none => rw [h1] at this; cases h2 : bs2[id]? with
    | none => rfl
    | some b => rw [h2] at this; cases this
  | some a =>
    rw [h1] at this
    cases h2 : bs2[id]? with
    | none => rw [h2] at this; cases this
    | some b =>
      rw [h2] at this
      cases a <;> cases b <;> simp [strip] at this
      · rfl
      · rfl
      · obtain ⟨rfl, rfl, rfl, rfl⟩ := this; rfl
theorem lisFits_agree {bs bs2 : List Blk} {id : Nat} (h : (bs[id]?).map strip = (bs2[id]?).map strip) (k : Nat) : lisFits bs id k = lisFits bs2 id k := by
  simp only [lisFits]
  cases h1 : bs[id]? with
  | none => rw [h1] at h; cases h2 : bs2[id]? with
    | none => rfl
    | some b => rw [h2] at h; cases h
  | some a =>
    rw [h1] at h
    cases h2 : bs2[id]? with
    | none => rw [h2] at h; cases h
    | some b =>
      rw [h2] at h
      cases a <;> cases b <;> simp [strip] at h
      · rfl
      · rfl
      · obtain ⟨rfl, rfl, rfl, rfl⟩ := h; rfl
theorem snapCell_agree {bs bs2 : List Blk} {a : AV} (h : AgreeOn bs bs2 (lisId a)) : snapCell bs a = snapCell bs2 a := by
  cases a <;> try rfl
  simp only [snapCell]; rw [rowsOf_agree h]
theorem snapCells_agree {bs bs2 : List Blk} : ∀ {cs : List AV}, AgreeOn bs bs2 (mutIds cs) → cs.mapM (snapCell bs) = cs.mapM (snapCell bs2)
  | [], _ => rfl
  | c :: cs, h => by
    rw [mutIds_eq] at h
    rw [List.mapM_cons, List.mapM_cons, snapCell_agree (fun id hi => h id (by simp only [List.flatMap_cons, List.mem_append]; exact .inl hi)), snapCells_agree (fun id hi => h id (by
      rw [mutIds_eq] at hi
      simp only [List.flatMap_cons, List.mem_append]; exact .inr hi))]
theorem snap_agree {bs bs2 : List Blk} {a : AV} (h : AgreeOn bs bs2 a.ids) : snap bs a = snap bs2 a := by
  cases a <;> try rfl
  · simp only [snap]; rw [rowsOf_agree h]
  · simp only [snap]; rw [snapCells_agree h]
theorem snaps_agree {bs bs2 : List Blk} : ∀ {as : List AV}, AgreeOn bs bs2 (as.flatMap AV.ids) → as.mapM (snap bs) = as.mapM (snap bs2)
  | [], _ => rfl
  | a :: as, h => by
    rw [List.mapM_cons, List.mapM_cons, snap_agree (fun id hi => h id (by simp only [List.flatMap_cons, List.mem_append]; exact .inl hi)), snaps_agree (fun id hi => h id (by simp only [List.flatMap_cons, List.mem_append]; exact .inr hi))]

theorem snaps_none {bs bs2 : List Blk} : ∀ {as : List AV}, argIds as = [] → as.mapM (snap bs) = as.mapM (snap bs2)
  | [], _ => rfl
  | a :: as, h => by
    have h2 : argIds as = [] ∧ snap bs a = snap bs2 a := by
      cases a <;> first | exact ⟨h, rfl⟩ | skip
      · simp [argIds] at h
      · rename_i cs
        simp only [argIds, List.append_eq_nil_iff] at h
        refine ⟨h.2, ?_⟩
        by_cases hd : dataL cs = true
        · simp only [snap, hd, if_true]
        · rw [if_neg hd] at h
          exact snap_agree (fun id hi => by rw [AV.ids, h.1] at hi; cases hi)
    rw [List.mapM_cons, List.mapM_cons, h2.2, snaps_none h2.1]
theorem takeL_false : ∀ {as : List AV} {s : Nat} {bs bs' : List Blk} {rs : List AV}, takeL false s as bs = some (rs, bs') → bs' = bs ∧ ∀ s2 bs2, takeL false s2 as bs2 = some (rs, bs2)
  | [], s, bs, bs', rs, h => by cases h; exact ⟨rfl, fun _ _ => rfl⟩
  | a :: as, s, bs, bs', rs, h => by
    by_cases hf : ∃ e k rows, a = .fresh e k rows
    · obtain ⟨e, k, rows, rfl⟩ := hf
      simp only [takeL, Bool.false_eq_true, if_false] at h ⊢
      obtain ⟨q, h1, h2⟩ := Option.map_eq_some_iff.1 h
      cases h2
      obtain ⟨h3, h4⟩ := takeL_false h1
      exact ⟨h3, fun s2 bs2 => by rw [h4]; rfl⟩
    · have hn : ∀ s bs, takeL false s (a :: as) bs = (takeL false s as bs).map fun r => (a :: r.1, r.2) := fun s bs => by
        cases a <;> first | rfl | exact absurd ⟨_, _, _, rfl⟩ hf
      rw [hn] at h
      obtain ⟨q, h1, h2⟩ := Option.map_eq_some_iff.1 h
      cases h2
      obtain ⟨h3, h4⟩ := takeL_false h1
      exact ⟨h3, fun s2 bs2 => by rw [hn, h4]; rfl⟩
theorem takeRes_false {r r' : AV} {s : Nat} {bs bs' : List Blk} (h : takeRes false s r bs = some (r', bs')) : bs' = bs ∧ ∀ s2 bs2, takeRes false s2 r bs2 = some (r', bs2) := by
  cases r with
  | tup vs =>
    simp only [takeRes] at h ⊢
    split at h
    · rename_i hc
      obtain ⟨q, h1, h2⟩ := Option.map_eq_some_iff.1 h
      cases h2
      obtain ⟨h3, h4⟩ := takeL_false h1
      exact ⟨h3, fun s2 bs2 => by rw [if_pos hc, h4]; rfl⟩
    · rename_i hc
      cases h; exact ⟨rfl, fun _ _ => by rw [if_neg hc]⟩
  | agg cs =>
    simp only [takeRes] at h ⊢
    split at h
    · rename_i hc
      cases h; exact ⟨rfl, fun _ _ => by rw [if_pos hc]⟩
    · rename_i hc
      obtain ⟨q, h1, h2⟩ := Option.map_eq_some_iff.1 h
      cases h2
      obtain ⟨h3, h4⟩ := takeL_false h1
      exact ⟨h3, fun s2 bs2 => by rw [if_neg hc, h4]; rfl⟩
  | fresh e k rows =>
    simp only [takeRes, Bool.false_eq_true, if_false] at h ⊢
    cases h; exact ⟨rfl, fun _ _ => rfl⟩
  | _ => cases h; exact ⟨rfl, fun _ _ => rfl⟩
theorem hp_eq {hp hp' : Hp} (h1 : hp'.bs = hp.bs) (h2 : hp'.pend = hp.pend) : hp' = hp := by cases hp; cases hp'; cases h1; cases h2; rfl

/-- What reads alone. -/
theorem R_exec {o : AOp} {s : Nat} {r : AV} (hc : clsR o = true) (hk : clsK o = false) (h : aexec cV cR ys true s o T hp = some (r, hp')) :
    hp' = hp ∧ ∀ hp2 : Hp, AgreeOn hp.bs hp2.bs (oids o T) → aexec cV cR ys true s o T hp2 = some (r, hp2) := by
  cases o <;> first | (cases hc; done) | (cases hk; done) | skip
  case load k agg p =>
    obtain ⟨h1, h2, h3⟩ := aexec_aop (by intros; intro h; cases h) (by intros; intro h; cases h) h
    simp only [aop] at h2
    split at h2
    · rename_i cs hcs
      obtain ⟨v, h4, h5⟩ := Option.map_eq_some_iff.1 h2
      simp only [Prod.mk.injEq] at h5
      obtain ⟨rfl, h5⟩ := h5
      refine ⟨hp_eq h5.symm h3, fun hp2 ha => aexec_of_aop (by intros; intro h; cases h) (by intros; intro h; cases h) rfl ?_⟩
      simp only [aop]
      rw [← rdPtr_agree (bs := hp.bs) (bs2 := hp2.bs) (by simpa [oids, AOp.opds] using ha), hcs]
      simp only [h4]; rfl
    · cases h2
  case callV f l keeps =>
    match keeps, hc with
    | 0, hc =>
      simp only [aexec] at h ⊢
      split at h
      · rename_i vs hm
        split at h
        · rename_i r0 hc0
          rw [if_neg (by rintro ⟨h, _⟩; cases h)] at h
          split at h
          · rename_i hcond
            obtain ⟨q, h1, h2⟩ := Option.map_eq_some_iff.1 h
            simp only [Prod.mk.injEq] at h2
            obtain ⟨rfl, h2⟩ := h2
            obtain ⟨h3, h4⟩ := takeRes_false (bs' := q.2) (r' := q.1) h1
            refine ⟨by rw [← h2, h3], fun hp2 ha => ?_⟩
            rw [← snaps_agree (bs := hp.bs) (bs2 := hp2.bs) (by
              intro id hi
              refine ha id ?_
              simp only [oids, AOp.opds]
              simpa [List.flatMap_map] using hi), hm]
            simp only [hc0]
            rw [if_neg (by rintro ⟨h, _⟩; cases h), if_pos hcond, show takeRes (0 != 0) s r0 hp2.bs = takeRes false s r0 hp2.bs from rfl, h4]; rfl
          · simp at h
        · cases h
      · cases h
  case strof x =>
    obtain ⟨h1, h2, h3⟩ := aexec_aop (by intros; intro h; cases h) (by intros; intro h; cases h) h
    simp only [aop] at h2
    split at h2
    · rename_i rows hr
      split at h2
      · rename_i l hl
        simp only [Option.some.injEq, Prod.mk.injEq] at h2
        obtain ⟨rfl, h2⟩ := h2
        refine ⟨hp_eq h2.symm h3, fun hp2 ha => aexec_of_aop (by intros; intro h; cases h) (by intros; intro h; cases h) rfl ?_⟩
        simp only [aop]
        rw [← rowsOf_agree (bs := hp.bs) (bs2 := hp2.bs) (by simpa [oids, AOp.opds] using ha), hr]
        simp only [hl]
      · cases h2
    · cases h2
  case iaddr k arr x i => cases arr <;> first | (cases hc; done) | (cases hk; done)
/-- What looks at elements' sizes alone. -/
theorem K_exec {o : AOp} {s : Nat} {r : AV} (hk : clsK o = true) (h : aexec cV cR ys true s o T hp = some (r, hp')) :
    hp' = hp ∧ ∀ hp2 : Hp, (∀ id ∈ oids o T, ∀ k, lisFits hp.bs id k = lisFits hp2.bs id k) → aexec cV cR ys true s o T hp2 = some (r, hp2) := by
  cases o <;> first | (cases hk; done) | skip
  case iaddr k arr x i =>
    cases arr with
    | some m => cases hk
    | none =>
      obtain ⟨h1, h2, h3⟩ := aexec_aop (by intros; intro h; cases h) (by intros; intro h; cases h) h
      have key : hp'.bs = hp.bs ∧ ∀ bs2 : List Blk, (∀ id ∈ oids (.iaddr k none x i) T, ∀ k, lisFits hp.bs id k = lisFits bs2 id k) → aop (.iaddr k none x i) s T bs2 = some (r, bs2) := by
        simp only [aop, oids, AOp.opds] at h2 ⊢
        cases hi : i.ev T <;> rw [hi] at h2 <;> first | (cases h2; done) | skip
        rename_i kk n
        dsimp only at h2 ⊢
        split at h2
        · rename_i hn
          cases hx : x.ev T <;> rw [hx] at h2 <;> first | (cases h2; done) | skip
          · rename_i rows
            dsimp only at h2 ⊢
            split at h2
            · rename_i r1 hr1
              split at h2
              · rename_i hl
                simp only [Option.some.injEq, Prod.mk.injEq] at h2
                obtain ⟨rfl, h2⟩ := h2
                exact ⟨h2.symm, fun bs2 _ => by rw [if_pos hn]; exact if_pos hl⟩
              · cases h2
            · cases h2
          · rename_i rows
            dsimp only at h2 ⊢
            split at h2
            · rename_i r1 hr1
              split at h2
              · rename_i hl
                simp only [Option.some.injEq, Prod.mk.injEq] at h2
                obtain ⟨rfl, h2⟩ := h2
                exact ⟨h2.symm, fun bs2 _ => by rw [if_pos hn]; exact if_pos hl⟩
              · cases h2
            · cases h2
          · rename_i id gen off len
            dsimp only at h2 ⊢
            split at h2
            · rename_i hl
              simp only [Option.some.injEq, Prod.mk.injEq] at h2
              obtain ⟨rfl, h2⟩ := h2
              refine ⟨h2.symm, fun bs2 ha => ?_⟩
              have := ha id (by simp [hx, AV.ids]) k
              rw [if_pos hn, if_pos ⟨hl.1, by rw [← this]; exact hl.2⟩]
            · cases h2
          · rename_i rows
            dsimp only at h2 ⊢
            split at h2
            · rename_i r1 hr1
              split at h2
              · rename_i hl
                simp only [Option.some.injEq, Prod.mk.injEq] at h2
                obtain ⟨rfl, h2⟩ := h2
                exact ⟨h2.symm, fun bs2 _ => by rw [if_pos hn]; exact if_pos hl⟩
              · cases h2
            · cases h2
        · cases h2
      exact ⟨hp_eq key.1 h3, fun hp2 ha => aexec_of_aop (by intros; intro h; cases h) (by intros; intro h; cases h) rfl (key.2 hp2.bs ha)⟩
  case slice k x lo hi mx =>
    obtain ⟨h1, h2, h3⟩ := aexec_aop (by intros; intro h; cases h) (by intros; intro h; cases h) h
    simp only [aop] at h2
    obtain ⟨v, h4, h5⟩ := Option.map_eq_some_iff.1 h2
    simp only [Prod.mk.injEq] at h5
    obtain ⟨rfl, h5⟩ := h5
    refine ⟨hp_eq h5.symm h3, fun hp2 ha => aexec_of_aop (by intros; intro h; cases h) (by intros; intro h; cases h) rfl ?_⟩
    simp only [aop]
    have : aslice T hp2.bs k (x.ev T) lo hi mx = aslice T hp.bs k (x.ev T) lo hi mx := by
      unfold aslice
      cases hx : x.ev T <;> try rfl
      rename_i id gen off len
      have := ha id (by simp [oids, AOp.opds, hx, AV.ids]) k
      simp only [this]
    rw [this, h4]; rfl
theorem R_same {o : AOp} {s : Nat} {r : AV} (hc : clsR o = true) (h : aexec cV cR ys true s o T hp = some (r, hp')) : hp' = hp := by
  cases hk : clsK o with
  | true => exact (K_exec hk h).1
  | false => exact (R_exec hc hk h).1
theorem R_any {o : AOp} {s : Nat} {r : AV} (hc : clsR o = true) (h : aexec cV cR ys true s o T hp = some (r, hp')) (hp2 : Hp) (ha : AgreeOn hp.bs hp2.bs (oids o T)) : aexec cV cR ys true s o T hp2 = some (r, hp2) := by
  cases hk : clsK o with
  | true => exact (K_exec hk h).2 hp2 (fun id hi k => lisFits_agree (ha id hi) k)
  | false => exact (R_exec hc hk h).2 hp2 ha
end Go.Proofs.YtgajekpigkknnaaDoor.A

/- Operations in whatever order: what makes a block, what writes; two that may change places. No condition. -/
namespace Go.Proofs.YtgajekpigkknnaaDoor.A
open Go
variable {cV : FuncId → List AV → Option AV} {cR : FuncId → List AV → Hp → Option (AV × Hp)} {ys : List Hd} {hp hp' : Hp} {T T' : Tm}

theorem newAt_of {bs : List Blk} {s : Nat} (h : bs[s]? = some .dead) (blk : Blk) : newAt bs s blk = some (bs.set s blk) := by unfold newAt; rw [h]
theorem ovr_at {row row' cs : List AV} {off a : Nat} (h : ovr row off cs = some row') (ha : a < off ∨ off + cs.length ≤ a) : row'[a]? = row[a]? := by
  unfold ovr at h
  split at h
  · cases h
    rename_i hle
    rcases ha with ha | ha
    · rw [List.append_assoc, List.getElem?_append_left (by rw [List.length_take]; omega), List.getElem?_take_of_lt ha]
    · rw [List.getElem?_append_right (by simp only [List.length_append, List.length_take]; omega), List.getElem?_drop]
      congr 1
      simp only [List.length_append, List.length_take]; omega
  · cases h
theorem fill_at {a : Nat} : ∀ (ps : List (Nat × Nat × Opd)) (row row' : List AV), fillCells T ps row = some row' → (ps.all fun p => decide (a < p.1 ∨ p.1 + p.2.1 ≤ a)) = true → row'[a]? = row[a]?
  | [], _, _, h, _ => by cases h; rfl
  | (off, k, x) :: l, row, row', h, hp => by
    simp only [List.all_cons, Bool.and_eq_true, decide_eq_true_eq] at hp
    simp only [fillCells] at h
    split at h
    · rename_i cs _
      split at h
      · rename_i hk
        split at h
        · rename_i r1 h1
          rw [fill_at l r1 row' h hp.2]
          exact ovr_at h1 (by rw [hk]; exact hp.1)
        · cases h
      · cases h
    · cases h
theorem takeRes_fresh {r : AV} (h : r.isFresh = true) (s : Nat) : ∃ blk v, ∀ bs, takeRes (2 != 0) s r bs = (newAt bs s blk).map fun bs' => (v, bs') := by
  unfold AV.isFresh at h
  split at h
  · exact ⟨_, _, fun _ => rfl⟩
  · rename_i e k rows
    refine ⟨.lst 0 0 e k rows, .agg [.lis s 0 0 rows.length], fun bs => ?_⟩
    have hd : dataL [AV.fresh e k rows] = false := rfl
    simp only [takeRes, hd, Bool.false_eq_true, if_false, takeL, show ((2 : Nat) != 0) = true from rfl, if_true]
    cases newAt bs s (.lst 0 0 e k rows) <;> rfl
  · cases h
/-- What makes one block. -/
theorem N_exec {o : AOp} {s : Nat} {r : AV} (hc : clsN o = true) (h : aexec cV cR ys true s o T hp = some (r, hp')) :
    ∃ blk, hp.bs[s]? = some .dead ∧ hp' = { hp with bs := hp.bs.set s blk } ∧ ∀ hp2 : Hp, hp2.bs[s]? = some .dead → aexec cV cR ys true s o T hp2 = some (r, { hp2 with bs := hp2.bs.set s blk }) := by
  have key : ∀ {blk : Blk} {x : AV}, (∀ bs, aop o s T bs = (newAt bs s blk).map fun b => (x, b)) → (∀ f l k, o ≠ .callV f l k) → (∀ f l k, o ≠ .callR f l k) → quietOk T o = true → 
      ∃ blk, hp.bs[s]? = some .dead ∧ hp' = { hp with bs := hp.bs.set s blk } ∧ ∀ hp2 : Hp, hp2.bs[s]? = some .dead → aexec cV cR ys true s o T hp2 = some (r, { hp2 with bs := hp2.bs.set s blk }) := by
    intro blk x hx hv hr hq
    obtain ⟨h1, h2, h3⟩ := aexec_aop hv hr h
    rw [hx] at h2
    obtain ⟨b, h4, h5⟩ := Option.map_eq_some_iff.1 h2
    simp only [Prod.mk.injEq] at h5
    obtain ⟨rfl, h5⟩ := h5
    obtain ⟨h6, h7⟩ := newAt_inv h4
    refine ⟨blk, h6, hp_eq (hp := { hp with bs := hp.bs.set s blk }) (by rw [← h5, h7]) h3, fun hp2 hd => aexec_of_aop hv hr h1 ?_⟩
    rw [hx, newAt_of hd]; rfl
  cases o <;> first | (cases hc; done) | skip
  case newl e k => exact key (blk := .lst 0 0 e k []) (x := .lis s 0 0 0) (fun bs => by simp only [aop]) (by intros; intro h; cases h) (by intros; intro h; cases h) rfl
  case alloc e z l =>
    cases l with
    | cons x l => cases hc
    | nil => exact key (blk := .box 0 e z) (x := .ptr s 0 0 0) (fun bs => by simp only [aop, growLists]) (by intros; intro h; cases h) (by intros; intro h; cases h) rfl
  case box e k x l =>
    cases l with
    | cons x l => cases hc
    | nil =>
      cases hcs : (x.ev T).cells with
      | none =>
        obtain ⟨h1, h2, h3⟩ := aexec_aop (by intros; intro h; cases h) (by intros; intro h; cases h) h
        simp only [aop, hcs] at h2; cases h2
      | some cs =>
        by_cases hl : cs.length = k
        · exact key (blk := .box 0 e cs) (x := .ptr s 0 0 0) (fun bs => by simp only [aop, hcs, growLists]; rw [if_pos hl]) (by intros; intro h; cases h) (by intros; intro h; cases h) rfl
        · obtain ⟨h1, h2, h3⟩ := aexec_aop (by intros; intro h; cases h) (by intros; intro h; cases h) h
          simp only [aop, hcs] at h2; rw [if_neg hl] at h2; cases h2
  case callV f l keeps =>
    match keeps, hc with
    | 2, hc =>
      simp only [aexec] at h ⊢
      split at h
      · rename_i vs hm
        split at h
        · rename_i r0 hc0
          split at h
          · cases h
          · rename_i hcond
            have hcond' : argIds (l.map (·.ev T)) = [] ∧ r0.isFresh = true := Classical.byContradiction fun k => hcond ⟨trivial, k⟩
            rw [if_pos (.inl hcond'.1)] at h
            obtain ⟨p, h1, h2⟩ := Option.map_eq_some_iff.1 h
            simp only [Prod.mk.injEq] at h2
            obtain ⟨rfl, h2⟩ := h2
            obtain ⟨blk, v0, ht⟩ := takeRes_fresh hcond'.2 s
            rw [ht] at h1
            obtain ⟨b, h4, h5⟩ := Option.map_eq_some_iff.1 h1
            obtain ⟨h6, h7⟩ := newAt_inv h4
            refine ⟨blk, h6, ?_, fun hp2 hd => ?_⟩
            · rw [← h2, ← h5, h7]
            · rw [← snaps_none (bs := hp.bs) (bs2 := hp2.bs) hcond'.1, hm]
              simp only [hc0]
              rw [if_neg (fun k => k.2 hcond'), if_pos (.inl hcond'.1), ht, newAt_of hd, ← h5]; rfl
        · cases h
      · cases h
  case build z ps l =>
    match l, hc with
    | [(a, e, k)], hc =>
      simp only [clsN, buildN, Bool.and_eq_true] at hc
      obtain ⟨hz, hp⟩ := hc
      have hz' : z[a]? = some (.clip []) := by
        split at hz
        · assumption
        · cases hz
      cases hf : fillCells T ps z with
      | none =>
        obtain ⟨h1, h2, h3⟩ := aexec_aop (by intros; intro h; cases h) (by intros; intro h; cases h) h
        simp only [aop, hf] at h2; cases h2
      | some row =>
        have hr := fill_at ps z row hf hp
        rw [hz'] at hr
        exact key (blk := .lst 0 0 e k []) (x := .agg (row.set a (.lis s 0 0 0))) (fun bs => by
          simp only [aop, hf, growLists, hr]
          cases newAt bs s (.lst 0 0 e k []) <;> rfl) (by intros; intro h; cases h) (by intros; intro h; cases h) rfl
  case buildSl e k z n l grows =>
    cases grows with
    | false => cases hc
    | true =>
      obtain ⟨h1, h2, h3⟩ := aexec_aop (by intros; intro h; cases h) (by intros; intro h; cases h) h
      have hq : quietOk T (.buildSl e k z n l true) = true := by simpa using h1
      simp only [aop] at h2
      split at h2
      · rename_i rows bs' hf
        obtain ⟨e1, e2⟩ := fillRows_quiet hq hf
        split at h2
        · rename_i hd
          exact key (blk := .lst 0 0 e k rows) (x := .lis s 0 0 n) (fun bs => by simp only [aop, e2 bs, hd, if_true]) (by intros; intro h; cases h) (by intros; intro h; cases h) hq
        · cases h2
      · cases h2
/-- A slice of an array. -/
theorem S_exec {o : AOp} {s : Nat} {r : AV} (hc : clsS o = true) (h : aexec cV cR ys true s o T hp = some (r, hp')) :
    ∃ id lk e row, id ∈ oids o T ∧ hp.bs[id]? = some (.box lk e row) ∧ lk ≠ 1 ∧ hp' = { hp with bs := hp.bs.set id (.box 2 e row) } ∧
      ∀ (hp2 : Hp) lk2, lk2 ≠ 1 → hp2.bs[id]? = some (.box lk2 e row) → aexec cV cR ys true s o T hp2 = some (r, { hp2 with bs := hp2.bs.set id (.box 2 e row) }) := by
  cases o <;> first | (cases hc; done) | skip
  case slarr k n x lo hi =>
    obtain ⟨h1, h2, h3⟩ := aexec_aop (by intros; intro h; cases h) (by intros; intro h; cases h) h
    simp only [aop] at h2
    split at h2
    · rename_i id gen row off hx
      split at h2
      · rename_i l hh hl hhb
        split at h2
        · rename_i hlh
          split at h2
          · rename_i lk e rw' hb
            split at h2
            · rename_i hg
              split at h2
              · rename_i cs hcs
                split at h2
                · rename_i hd
                  simp only [Option.some.injEq, Prod.mk.injEq] at h2
                  obtain ⟨rfl, h2⟩ := h2
                  refine ⟨id, lk, e, rw', by simp [oids, AOp.opds, hx, AV.ids], hb, hg.2.2.2, hp_eq (hp := { hp with bs := hp.bs.set id (.box 2 e rw') }) h2.symm h3, fun hp2 lk2 hl2 hb2 => aexec_of_aop (by intros; intro h; cases h) (by intros; intro h; cases h) rfl ?_⟩
                  simp only [aop, hx, hl, hhb, hb2]
                  rw [if_pos hlh, if_pos ⟨hg.1, hg.2.1, hg.2.2.1, hl2⟩, hcs]
                  simp only [hd, if_true]
                · cases h2
              · cases h2
            · cases h2
          · cases h2
        · cases h2
      · cases h2
    · cases h2
theorem lockAt_of {bs : List Blk} {id lk g k : Nat} {e : TypeId} {rows : List (List AV)} (h : bs[id]? = some (.lst lk g e k rows)) : lockAt bs id = bs.set id (.lst 2 g e k rows) := by unfold lockAt; rw [h]
/-- What makes a list one that is never written again. -/
theorem L_exec {o : AOp} {s : Nat} {r : AV} (hc : clsL o = true) (h : aexec cV cR ys true s o T hp = some (r, hp')) :
    ∃ id lk g e k rows, id ∈ oids o T ∧ hp.bs[id]? = some (.lst lk g e k rows) ∧ hp' = { hp with bs := hp.bs.set id (.lst 2 g e k rows) } ∧
      ∀ (hp2 : Hp) lk2, hp2.bs[id]? = some (.lst lk2 g e k rows) → aexec cV cR ys true s o T hp2 = some (r, { hp2 with bs := hp2.bs.set id (.lst 2 g e k rows) }) := by
  cases o <;> first | (cases hc; done) | skip
  case sliceL md k x lo hi mx =>
    cases md with
    | succ md => cases hc
    | zero =>
      obtain ⟨h1, h2, h3⟩ := aexec_aop (by intros; intro h; cases h) (by intros; intro h; cases h) h
      simp only [aop] at h2
      unfold asliceL at h2
      split at h2
      case h_2 => cases h2
      rename_i id gen off len hx
      split at h2
      · cases h2
      rename_i rows hr
      split at h2
      case h_2 => cases h2
      rename_i l hh hl hhb
      split at h2
      case isFalse => cases h2
      rename_i hf
      split at h2
      · rename_i m hs hm
        split at h2
        case isFalse => cases h2
        rename_i hmh
        simp only [Option.some.injEq, Prod.mk.injEq] at h2
        obtain ⟨rfl, h2⟩ := h2
        obtain ⟨lk, g, e, kk, all, hid⟩ : ∃ lk g e k all, hp.bs[id]? = some (.lst lk g e k all) := by
          simp only [rowsOf] at hr
          split at hr
          · exact ⟨_, _, _, _, _, by assumption⟩
          · cases hr
        rw [lockAt_of hid] at h2
        refine ⟨id, lk, g, e, kk, all, by simp [oids, AOp.opds, hx, AV.ids], hid, hp_eq (hp := { hp with bs := hp.bs.set id (.lst 2 g e kk all) }) h2.symm h3, fun hp2 lk2 hid2 => aexec_of_aop (by intros; intro h; cases h) (by intros; intro h; cases h) rfl ?_⟩
        simp only [aop]
        unfold asliceL
        have e1 : rowsOf hp2.bs (.lis id gen off len) = some rows := by
          rw [← hr]; simp only [rowsOf, hid, hid2]
        have e2 : lisFits hp2.bs id k = lisFits hp.bs id k := by simp only [lisFits, hid, hid2]
        simp only [hx, e1, hl, hhb, e2]
        rw [if_pos hf]
        simp only [hs, hm]
        rw [if_pos hmh, lockAt_of hid2]
      all_goals first | (cases h2; done) | (exfalso; simp at *; done) | (rename_i h0 _ _; exact absurd h0 (by decide)) | (rename_i h0 _; exact absurd h0 (by decide))
theorem lisFits_set {bs : List Blk} {id j k lk lk' g g' k0 : Nat} {e e' : TypeId} {rows rows' : List (List AV)} (h : bs[id]? = some (.lst lk g e k0 rows)) : lisFits (bs.set id (.lst lk' g' e' k0 rows')) j k = lisFits bs j k := by
  have hl := (List.getElem?_eq_some_iff.1 h).1
  by_cases hj : id = j
  · subst hj; simp only [lisFits, List.getElem?_set_self hl, h]
  · simp only [lisFits, List.getElem?_set_ne hj]
theorem lisFits_box {bs : List Blk} {id j k lk lk' : Nat} {e e' : TypeId} {row row' : List AV} (h : bs[id]? = some (.box lk e row)) : lisFits (bs.set id (.box lk' e' row')) j k = lisFits bs j k := by
  have hl := (List.getElem?_eq_some_iff.1 h).1
  by_cases hj : id = j
  · subst hj; simp only [lisFits, List.getElem?_set_self hl, h]
  · simp only [lisFits, List.getElem?_set_ne hj]
theorem lisFits_ne {bs : List Blk} {s j k : Nat} {blk : Blk} (h : j ≠ s) : lisFits (bs.set s blk) j k = lisFits bs j k := by
  simp only [lisFits, List.getElem?_set_ne (Ne.symm h)]
/-- What writes. -/
theorem W_exec {o : AOp} {s : Nat} {r : AV} {x : Opd} (hc : tgt o = some x) (h : aexec cV cR ys true s o T hp = some (r, hp')) :
    (∀ id, id ∉ (x.ev T).ids → id ≠ s → hp'.bs[id]? = hp.bs[id]?) ∧ (∀ id k, (isApp o = true → id ≠ s) → lisFits hp'.bs id k = lisFits hp.bs id k) := by
  have hset : ∀ {bs : List Blk} {id j : Nat} {b : Blk}, j ≠ id → (bs.set id b)[j]? = bs[j]? := fun h => List.getElem?_set_ne (Ne.symm h)
  cases o <;> first | (cases hc; done) | skip
  case store k p v =>
    cases hc
    obtain ⟨h1, h2, h3⟩ := aexec_aop (by intros; intro h; cases h) (by intros; intro h; cases h) h
    simp only [aop] at h2
    split at h2
    · split at h2
      · obtain ⟨b, h4, h5⟩ := Option.map_eq_some_iff.1 h2
        simp only [Prod.mk.injEq] at h5
        obtain ⟨_, rfl⟩ := h5
        cases hx : x.ev T <;> rw [hx] at h4 <;> first | (cases h4; done) | skip
        rename_i id gen row off
        simp only [wrPtr] at h4
        split at h4
        · rename_i hb
          split at h4
          · obtain ⟨r', _, h6⟩ := Option.map_eq_some_iff.1 h4
            rw [← h6]
            exact ⟨fun j hj _ => hset (by simpa [AV.ids] using hj), fun j k _ => lisFits_box hb⟩
          · cases h4
        · rename_i hb
          split at h4
          · split at h4
            · obtain ⟨r', _, h6⟩ := Option.map_eq_some_iff.1 h4
              rw [← h6]
              exact ⟨fun j hj _ => hset (by simpa [AV.ids] using hj), fun j k _ => lisFits_set hb⟩
            · cases h4
          · cases h4
        · cases h4
      · cases h2
    · cases h2
  case append e k bytes p y =>
    cases hc
    obtain ⟨h1, h2, h3⟩ := aexec_aop (by intros; intro h; cases h) (by intros; intro h; cases h) h
    simp only [aop] at h2
    split at h2
    · split at h2
      · cases hx : x.ev T <;> rw [hx] at h2 <;> first | (cases h2; done) | skip
        · simp only [aappend] at h2
          split at h2
          · split at h2
            · obtain ⟨b, h4, h5⟩ := Option.map_eq_some_iff.1 h2
              simp only [Prod.mk.injEq] at h5
              obtain ⟨_, rfl⟩ := h5
              obtain ⟨_, h6⟩ := newAt_inv h4
              rw [h6]
              exact ⟨fun j _ hj => hset hj, fun j k hj => lisFits_ne (hj rfl)⟩
            · simp only [Option.some.injEq, Prod.mk.injEq] at h2
              rw [← h2.2]; exact ⟨fun _ _ _ => rfl, fun _ _ _ => rfl⟩
          · cases h2
        · rename_i id gen off len
          simp only [aappend] at h2
          split at h2
          · rename_i hb
            split at h2
            · rename_i hcond
              simp only [Option.some.injEq, Prod.mk.injEq] at h2
              rw [← h2.2]
              obtain ⟨_, _, _, _, hk, _⟩ := hcond
              subst hk
              exact ⟨fun j hj _ => hset (by simpa [AV.ids] using hj), fun j k _ => lisFits_set hb⟩
            · cases h2
          · cases h2
      · cases h2
    · cases h2
  case copy k p y =>
    cases hc
    obtain ⟨h1, h2, h3⟩ := aexec_aop (by intros; intro h; cases h) (by intros; intro h; cases h) h
    simp only [aop] at h2
    split at h2
    · rename_i id gen off len ys' hx hy
      split at h2
      · rename_i hb
        split at h2
        · simp only [Option.some.injEq, Prod.mk.injEq] at h2
          rw [← h2.2]
          exact ⟨fun j hj _ => hset (by simpa [hx, AV.ids] using hj), fun j k _ => lisFits_set hb⟩
        · cases h2
      · cases h2
    · cases h2
  case callR f args keeps =>
    unfold tgt at hc
    split at hc <;> first | (cases hc; done) | skip
    all_goals rename_i heq; first | (cases heq; done) | skip
    · cases heq
      cases hc
      simp only [aexec] at h
      split at h
      · rename_i g caps hf
        rw [if_neg (by decide), if_pos trivial] at h
        unfold frameR at h
        split at h
        case h_2 => cases h
        rename_i p h0
        unfold frame0 at h0
        split at h0
        case h_2 => cases h0
        rename_i id gen off len vs hvs
        split at h0
        case h_2 => cases h0
        rename_i g0 e k rows hb
        split at h0
        case h_2 => cases h0
        split at h0
        case h_2 => cases h0
        rename_i id1 g1 off1 n1 lk2 g2 e2 k2' rows2 hr hb2
        split at h0
        case isFalse => cases h0
        rename_i hcond
        have hid1 : id1 = id := hcond.1
        subst hid1
        simp only [Option.some.injEq] at h0
        subst h0
        obtain ⟨q, h1, h2⟩ := Option.map_eq_some_iff.1 h
        simp only [Prod.mk.injEq] at h2
        rw [← h2.2]
        have hidl := (List.getElem?_eq_some_iff.1 hb).1
        have hx : x.ev T = .lis id1 gen off len := by
          simp only [List.map_cons, List.cons_append, List.cons.injEq] at hvs
          exact hvs.1
        simp only [toData] at h1
        split at h1
        · cases h1
          simp only [lockAt, List.getElem?_set_self hidl, List.set_set]
          exact ⟨fun j hj _ => hset (by simpa [hx, AV.ids] using hj), fun j k _ => lisFits_set hb⟩
        · cases h1
      · rw [if_pos (.inl (by decide))] at h; cases h
      · cases h
    · cases heq
      cases hc
      simp only [aexec] at h
      split at h
      · rename_i g caps hf
        rw [if_neg (by decide), if_neg (by decide), if_pos trivial] at h
        unfold frameS at h
        split at h
        case h_2 => cases h
        rename_i p h0
        unfold frame1 at h0
        split at h0
        case h_2 => cases h0
        rename_i id gen off len vs hvs
        split at h0
        case isFalse => cases h0
        split at h0
        case h_2 => cases h0
        rename_i g0 e k rows hb
        split at h0
        case h_2 => cases h0
        split at h0
        case h_2 => cases h0
        rename_i id1 g1 off1 n1 lk2 g2 e2 k2' rows2 hr hb2
        split at h0
        case isFalse => cases h0
        rename_i hcond
        have hid1 : id1 = id := hcond.1
        subst hid1
        simp only [Option.some.injEq] at h0
        subst h0
        obtain ⟨q, h1, h2⟩ := Option.map_eq_some_iff.1 h
        simp only [Prod.mk.injEq] at h2
        rw [← h2.2]
        have hidl := (List.getElem?_eq_some_iff.1 hb).1
        have hx : x.ev T = .lis id1 gen off len := by
          simp only [List.map_cons, List.cons_append, List.cons.injEq] at hvs
          exact hvs.1
        simp only [toData] at h1
        split at h1
        · cases h1
          simp only [lockAt, List.getElem?_set_self hidl, List.set_set]
          exact ⟨fun j hj _ => hset (by simpa [hx, AV.ids] using hj), fun j k _ => lisFits_set hb⟩
        · cases h1
      · rw [if_pos (.inl (by decide))] at h; cases h
      · cases h
  case clear z p =>
    cases hc
    obtain ⟨h1, h2, h3⟩ := aexec_aop (by intros; intro h; cases h) (by intros; intro h; cases h) h
    simp only [aop] at h2
    split at h2
    · rename_i id gen off len hx
      split at h2
      · rename_i hb
        split at h2
        · simp only [Option.some.injEq, Prod.mk.injEq] at h2
          rw [← h2.2]
          exact ⟨fun j hj _ => hset (by simpa [hx, AV.ids] using hj), fun j k _ => lisFits_set hb⟩
        · cases h2
      · cases h2
    · cases h2
end Go.Proofs.YtgajekpigkknnaaDoor.A

/- Two operations that may change places; an operation is drawn ahead of those that it need not wait for. No condition. -/
namespace Go.Proofs.YtgajekpigkknnaaDoor.A
open Go
variable {cV : FuncId → List AV → Option AV} {cR : FuncId → List AV → Hp → Option (AV × Hp)} {ys : List Hd} {hp hp' : Hp} {T T' : Tm}

/-- What the pairs say, here. -/
def PairsAt (pairs : List (Opd × Opd × Nat)) (base : Nat) (T : Tm) (ops : List AOp) : Prop :=
  ∀ x y s, (∃ o ∈ ops, x ∈ o.opds) → (∀ z, y = some z → ∃ o ∈ ops, z ∈ o.opds) → inPairs pairs x y s = true → ∀ id ∈ (x.ev T).ids, id ≠ base + s ∧ ∀ z, y = some z → id ∉ (z.ev T).ids
theorem tgt_opds {o : AOp} {x : Opd} (h : tgt o = some x) : x ∈ o.opds := by
  unfold tgt at h
  split at h <;> first | (cases h; done) | (cases h; simp [AOp.opds])
theorem agree_set {bs : List Blk} {ids : List Nat} {s : Nat} {blk : Blk} (h : ∀ id ∈ ids, id ≠ s) : AgreeOn bs (bs.set s blk) ids := fun id hi => by rw [List.getElem?_set_ne (Ne.symm (h id hi))]
theorem agree_lock {bs : List Blk} {ids : List Nat} {s lk lk' : Nat} {e : TypeId} {row : List AV} (h : bs[s]? = some (.box lk e row)) : AgreeOn bs (bs.set s (.box lk' e row)) ids := fun id _ => by
  have hl := (List.getElem?_eq_some_iff.1 h).1
  by_cases hi : s = id
  · subst hi; rw [List.getElem?_set_self hl, h]; rfl
  · rw [List.getElem?_set_ne hi]
theorem AgreeOn.symm {bs bs2 : List Blk} {ids : List Nat} (h : AgreeOn bs bs2 ids) : AgreeOn bs2 bs ids := fun id hi => (h id hi).symm
theorem opds_ids {o : AOp} {id : Nat} (h : id ∈ oids o T) : ∃ x ∈ o.opds, id ∈ (x.ev T).ids := List.mem_flatMap.1 h
/-- A store. -/
theorem St_exec {k : Nat} {x y : Opd} {s : Nat} {r : AV} (h : aexec cV cR ys true s (.store k x y) T hp = some (r, hp')) :
    ∃ id blk, id ∈ (x.ev T).ids ∧ hp' = { hp with bs := hp.bs.set id blk } ∧ ∀ hp2 : Hp, hp2.bs[id]? = hp.bs[id]? → aexec cV cR ys true s (.store k x y) T hp2 = some (r, { hp2 with bs := hp2.bs.set id blk }) := by
  obtain ⟨h1, h2, h3⟩ := aexec_aop (by intros; intro h; cases h) (by intros; intro h; cases h) h
  simp only [aop] at h2
  split at h2
  · rename_i cs hcs
    split at h2
    · rename_i hl
      obtain ⟨b, h4, h5⟩ := Option.map_eq_some_iff.1 h2
      simp only [Prod.mk.injEq] at h5
      obtain ⟨rfl, h5⟩ := h5
      have key : ∃ id blk, id ∈ (x.ev T).ids ∧ b = hp.bs.set id blk ∧ ∀ bs2 : List Blk, bs2[id]? = hp.bs[id]? → wrPtr bs2 (x.ev T) cs = some (bs2.set id blk) := by
        cases hx : x.ev T <;> rw [hx] at h4 <;> first | (cases h4; done) | skip
        rename_i id gen row off
        simp only [wrPtr] at h4 ⊢
        split at h4
        · rename_i e rr hb
          split at h4
          · rename_i hg
            obtain ⟨r', hr', h6⟩ := Option.map_eq_some_iff.1 h4
            exact ⟨id, _, by simp [AV.ids], h6.symm, fun bs2 hb2 => by simp [hb2, hb, hg.1, hg.2, hr']⟩
          · cases h4
        · rename_i g e kk rows hb
          split at h4
          · rename_i hg
            split at h4
            · rename_i rr hrr
              obtain ⟨r', hr', h6⟩ := Option.map_eq_some_iff.1 h4
              exact ⟨id, _, by simp [AV.ids], h6.symm, fun bs2 hb2 => by simp [hb2, hb, hg.1, hg.2, hrr, hr']⟩
            · cases h4
          · cases h4
        · cases h4
      obtain ⟨id, blk, hid, rfl, hk⟩ := key
      refine ⟨id, blk, hid, hp_eq (hp := { hp with bs := hp.bs.set id blk }) h5.symm h3, fun hp2 hb2 => aexec_of_aop (by intros; intro h; cases h) (by intros; intro h; cases h) rfl ?_⟩
      simp only [aop, hcs]
      rw [if_pos hl, hk hp2.bs hb2]; rfl
    · cases h2
  · cases h2

/-- An append. -/
theorem Ap_exec {e : TypeId} {k bytes : Nat} {x y : Opd} {s : Nat} {r : AV} (h : aexec cV cR ys true s (.append e k bytes x y) T hp = some (r, hp')) :
    ∃ f : List Blk → List Blk, hp' = { hp with bs := f hp.bs } ∧ ((∀ bs, f bs = bs) ∨ ∃ id blk, (id ∈ (x.ev T).ids ∨ id = s) ∧ ∀ bs, f bs = bs.set id blk) ∧
      ∀ hp2 : Hp, (∀ id ∈ oids (.append e k bytes x y) T, hp2.bs[id]? = hp.bs[id]?) → hp2.bs[s]? = hp.bs[s]? → aexec cV cR ys true s (.append e k bytes x y) T hp2 = some (r, { hp2 with bs := f hp2.bs }) := by
  obtain ⟨h1, h2, h3⟩ := aexec_aop (by intros; intro h; cases h) (by intros; intro h; cases h) h
  have hro : ∀ bs2 : List Blk, (∀ id ∈ oids (.append e k bytes x y) T, bs2[id]? = hp.bs[id]?) → rowsOf bs2 (y.ev T) = rowsOf hp.bs (y.ev T) := fun bs2 hb =>
    (rowsOf_agree (fun id hid => by rw [hb id (by simp [oids, AOp.opds, hid])])).symm
  simp only [aop] at h2
  split at h2
  · rename_i rows hrows
    split at h2
    · rename_i hf
      cases hx : x.ev T <;> rw [hx] at h2 <;> first | (cases h2; done) | skip
      · rename_i cr
        simp only [aappend] at h2
        split at h2
        · rename_i hc
          split at h2
          · rename_i hn
            obtain ⟨b, h4, h5⟩ := Option.map_eq_some_iff.1 h2
            simp only [Prod.mk.injEq] at h5
            obtain ⟨rfl, h5⟩ := h5
            obtain ⟨h6, h7⟩ := newAt_inv h4
            refine ⟨fun bs => bs.set s (.lst 0 0 e k (cr ++ rows)), hp_eq (hp := { hp with bs := hp.bs.set s (.lst 0 0 e k (cr ++ rows)) }) (by rw [← h5, h7]) h3, .inr ⟨s, _, .inr rfl, fun _ => rfl⟩, fun hp2 ho hs => aexec_of_aop (by intros; intro h; cases h) (by intros; intro h; cases h) rfl ?_⟩
            simp only [aop]
            rw [hro _ ho, hrows]
            simp only [hf, if_true, hx, aappend]
            rw [if_pos hc, if_pos hn, newAt_of (hs.trans h6)]; rfl
          · rename_i hn
            simp only [Option.some.injEq, Prod.mk.injEq] at h2
            obtain ⟨rfl, h2⟩ := h2
            refine ⟨fun bs => bs, hp_eq (hp := hp) h2.symm h3, .inl fun _ => rfl, fun hp2 ho hs => aexec_of_aop (by intros; intro h; cases h) (by intros; intro h; cases h) rfl ?_⟩
            simp only [aop]
            rw [hro _ ho, hrows]
            simp only [hf, if_true, hx, aappend]
            rw [if_pos hc, if_neg hn]
        · cases h2
      · rename_i id gen off len
        simp only [aappend] at h2
        split at h2
        · rename_i g e' k' rr hb
          split at h2
          · rename_i hg
            simp only [Option.some.injEq, Prod.mk.injEq] at h2
            obtain ⟨rfl, h2⟩ := h2
            refine ⟨fun bs => bs.set id (.lst 0 (g + 1) e k (rr.take len ++ rows)), hp_eq (hp := { hp with bs := hp.bs.set id (.lst 0 (g + 1) e k (rr.take len ++ rows)) }) h2.symm h3, .inr ⟨id, _, .inl (by simp [AV.ids]), fun _ => rfl⟩, fun hp2 ho hs => aexec_of_aop (by intros; intro h; cases h) (by intros; intro h; cases h) rfl ?_⟩
            simp only [aop]
            rw [hro _ ho, hrows]
            simp only [hf, if_true, hx, aappend]
            rw [ho id (by simp [oids, AOp.opds, hx, AV.ids]), hb]
            simp only [if_pos hg]
          · cases h2
        · cases h2
    · cases h2
  · cases h2
/-- A framed call of plain values commutes with what does not touch its list. -/
theorem F4_exec {f : Opd} {x : Opd} {xs : List Opd} {s : Nat} {r : AV} (h : aexec cV cR ys true s (.callR f (x :: xs) 4) T hp = some (r, hp')) :
    ∃ id blk, id ∈ (x.ev T).ids ∧ hp' = { hp with bs := hp.bs.set id blk } ∧ ∀ hp2 : Hp, hp2.bs[id]? = hp.bs[id]? → hp2.bs.length = hp.bs.length → aexec cV cR ys true s (.callR f (x :: xs) 4) T hp2 = some (r, { hp2 with bs := hp2.bs.set id blk }) := by
  simp only [aexec] at h ⊢
  split at h
  · rename_i g caps hf
    rw [if_neg (by decide), if_neg (by decide), if_pos trivial] at h
    simp only [hf, show ¬ ((4 : Nat) = 2) from by decide, show ¬ ((4 : Nat) = 3) from by decide, if_false, if_true]
    unfold frameS at h
    split at h
    case h_2 => cases h
    rename_i p h0
    unfold frame1 at h0
    split at h0
    case h_2 => cases h0
    rename_i id gen off len vs hvs
    split at h0
    case isFalse => cases h0
    rename_i hsc
    split at h0
    case h_2 => cases h0
    rename_i g0 e k rows hb
    split at h0
    case h_2 => cases h0
    rename_i p1 hc
    split at h0
    case h_2 => cases h0
    rename_i id1 g1 off1 n1 lk2 g2 e2 k2' rows2 hr hb2
    split at h0
    case isFalse => cases h0
    rename_i hcond
    obtain ⟨rfl, rfl, rfl, hrs⟩ := hcond
    simp only [Option.some.injEq] at h0
    subst h0
    obtain ⟨q, h1, h2⟩ := Option.map_eq_some_iff.1 h
    simp only [Prod.mk.injEq] at h2
    obtain ⟨rfl, h2⟩ := h2
    have hidl := (List.getElem?_eq_some_iff.1 hb).1
    have hx : x.ev T = .lis id1 gen off len := by
      simp only [List.map_cons, List.cons_append, List.cons.injEq] at hvs
      exact hvs.1
    simp only [toData] at h1
    split at h1
    · rename_i l hl
      cases h1
      simp only [lockAt, List.getElem?_set_self hidl, List.set_set] at h2
      refine ⟨id1, _, by simp [hx, AV.ids], h2.symm, fun hp2 hb2' hl2 => ?_⟩
      have hidl2 : id1 < hp2.bs.length := by rw [hl2]; exact hidl
      have e1 : rowsOf (hp2.bs.set id1 (.lst 0 g2 e k rows2)) (.lis id1 g2 off1 n1) = rowsOf (hp.bs.set id1 (.lst 0 g2 e k rows2)) (.lis id1 g2 off1 n1) := by
        simp only [rowsOf, List.getElem?_set_self hidl, List.getElem?_set_self hidl2]
      rw [hvs]
      unfold frameS frame1
      simp only [hsc, hb2', hb, hl2, hc, hr, hb2, hrs, and_self, if_true]
      simp only [toData, e1, hl, lockAt, List.getElem?_set_self hidl2, List.set_set, Option.map_some]
    · cases h1
  · rw [if_pos (.inl (by decide))] at h; cases h
  · cases h
theorem isApp_inv {o : AOp} (h : isApp o = true) : ∃ e k b x y, o = .append e k b x y := by cases o <;> first | (cases h; done) | exact ⟨_, _, _, _, _, rfl⟩

theorem agree_lockL {bs : List Blk} {ids : List Nat} {s lk lk' g k : Nat} {e : TypeId} {rows : List (List AV)} (h : bs[s]? = some (.lst lk g e k rows)) : AgreeOn bs (bs.set s (.lst lk' g e k rows)) ids := fun id _ => by
  have hl := (List.getElem?_eq_some_iff.1 h).1
  by_cases hi : s = id
  · subst hi; rw [List.getElem?_set_self hl, h]; rfl
  · rw [List.getElem?_set_ne hi]
theorem Q_same {o : AOp} {s : Nat} {r : AV} (hc : clsQ o = true) (h : aexec cV cR ys true s o T hp = some (r, hp')) : hp' = hp := by
  unfold clsQ at hc
  split at hc
  case h_2 => cases hc
  rename_i f args
  simp only [aexec] at h
  split at h
  · simp only [if_true] at h
    unfold quietR at h
    split at h
    case h_2 => cases h
    split at h
    · cases h
    split at h
    case h_2 => cases h
    split at h
    · cases h; rfl
    · cases h
  · simp at h
  · cases h
theorem RQ_same {o : AOp} {s : Nat} {r : AV} (hc : clsR o = true ∨ clsQ o = true) (h : aexec cV cR ys true s o T hp = some (r, hp')) : hp' = hp := hc.elim (fun h1 => R_same h1 h) (fun h1 => Q_same h1 h)
theorem commute {pairs : List (Opd × Opd × Nat)} {base : Nat} {i j : AInstr} (hb : besides pairs j i = true) (hp0 : PairsAt pairs base T [j.op, i.op]) {rj ri : AV} {hp1 hp2 : Hp}
    (h1 : aexec cV cR ys true (base + j.slot) j.op T hp = some (rj, hp1)) (h2 : aexec cV cR ys true (base + i.slot) i.op T hp1 = some (ri, hp2)) :
    ∃ hp1', aexec cV cR ys true (base + i.slot) i.op T hp = some (ri, hp1') ∧ aexec cV cR ys true (base + j.slot) j.op T hp1' = some (rj, hp2) := by
  -- apart from the other's slot
  have slotJ : ∀ s, (j.op.opds.all fun x => inPairs pairs x none s) = true → ∀ id ∈ oids j.op T, id ≠ base + s := fun s h id hid => by
    obtain ⟨x, hx, hi⟩ := opds_ids hid
    exact (hp0 x none s ⟨_, by simp, hx⟩ (fun z hz => by cases hz) (List.all_eq_true.1 h x hx) id hi).1
  have slotI : ∀ s, (i.op.opds.all fun x => inPairs pairs x none s) = true → ∀ id ∈ oids i.op T, id ≠ base + s := fun s h id hid => by
    obtain ⟨x, hx, hi⟩ := opds_ids hid
    exact (hp0 x none s ⟨_, by simp, hx⟩ (fun z hz => by cases hz) (List.all_eq_true.1 h x hx) id hi).1
  unfold besides at hb
  simp only [Bool.or_eq_true, Bool.and_eq_true] at hb
  rcases hb with ((((((((((((((((((((((hb | hb) | hb) | hb) | hb) | hb) | hb) | hb) | hb) | hb) | hb) | hb) | hb) | hb) | hb) | hb) | hb) | hb) | hb) | hb) | hb) | hb) | hb) | hb
  · obtain ⟨rfl, hj⟩ := P_exec hb h1
    exact ⟨hp2, h2, hj hp2⟩
  · obtain ⟨rfl, hi⟩ := P_exec hb h2
    exact ⟨hp, hi hp, h1⟩
  · have e1 := R_same hb.1 h1; subst e1
    have e2 := R_same hb.2 h2; subst e2
    exact ⟨hp2, h2, h1⟩
  · have e1 := R_same hb.1 h1; subst e1
    obtain ⟨id, lk, e, row, _, h3, h4, rfl, _⟩ := S_exec hb.2 h2
    exact ⟨_, h2, R_any hb.1 h1 _ (agree_lock h3)⟩
  · obtain ⟨id, lk, e, row, _, h3, h4, rfl, _⟩ := S_exec hb.1 h1
    have e2 := R_same hb.2 h2; subst e2
    exact ⟨hp, R_any hb.2 h2 _ (agree_lock h3).symm, h1⟩
  · obtain ⟨id, lk, e, row, _, h3, h4, rfl, h5⟩ := S_exec hb.1 h1
    obtain ⟨id', lk', e', row', _, h3', h4', rfl, h5'⟩ := S_exec hb.2 h2
    have hl := (List.getElem?_eq_some_iff.1 h3).1
    by_cases hid : id = id'
    · subst hid
      simp only [List.getElem?_set_self hl] at h3'
      cases h3'
      have h6 := h5' hp lk h4 h3
      refine ⟨_, h6, ?_⟩
      have h7 := h5 { hp with bs := hp.bs.set id (.box 2 e row) } 2 (by decide) (List.getElem?_set_self hl)
      exact h7
    · simp only [List.getElem?_set_ne hid] at h3'
      have h6 := h5' hp lk' h4' h3'
      refine ⟨_, h6, ?_⟩
      have h7 := h5 { hp with bs := hp.bs.set id' (.box 2 e' row') } lk h4 (by simp only [List.getElem?_set_ne (Ne.symm hid)]; exact h3)
      rw [h7]
      simp only [List.set_comm _ _ hid]
  · obtain ⟨⟨hj, hi⟩, hs⟩ := hb
    have hs' : j.slot ≠ i.slot := by simpa using hs
    obtain ⟨b1, h3, rfl, h5⟩ := N_exec hj h1
    obtain ⟨b2, h3', rfl, h5'⟩ := N_exec hi h2
    have hne : base + j.slot ≠ base + i.slot := by omega
    simp only [List.getElem?_set_ne hne] at h3'
    refine ⟨_, h5' hp h3', ?_⟩
    have := h5 { hp with bs := hp.bs.set (base + i.slot) b2 } (by simp only [List.getElem?_set_ne (Ne.symm hne)]; exact h3)
    rw [this]
    simp only [List.set_comm _ _ hne]
  · obtain ⟨⟨hj, hi⟩, hs⟩ := hb
    have hsl := slotJ _ hs
    rcases hj with hj | hj
    · have e1 := R_same hj h1; subst e1
      obtain ⟨b2, h3', rfl, h5'⟩ := N_exec hi h2
      exact ⟨_, h2, R_any hj h1 _ (agree_set hsl)⟩
    · obtain ⟨id, lk, e, row, hid, h3, h4, rfl, h5⟩ := S_exec hj h1
      obtain ⟨b2, h3', rfl, h5'⟩ := N_exec hi h2
      have hne := hsl id hid
      simp only [List.getElem?_set_ne hne] at h3'
      refine ⟨_, h5' hp h3', ?_⟩
      have := h5 { hp with bs := hp.bs.set (base + i.slot) b2 } lk h4 (by simp only [List.getElem?_set_ne (Ne.symm hne)]; exact h3)
      rw [this]
      simp only [List.set_comm _ _ hne]
  · obtain ⟨⟨hj, hi⟩, hs⟩ := hb
    have hsl := slotI _ hs
    obtain ⟨b1, h3, rfl, h5⟩ := N_exec hj h1
    rcases hi with hi | hi
    · have e2 := R_same hi h2; subst e2
      exact ⟨hp, R_any hi h2 _ (agree_set hsl).symm, h1⟩
    · obtain ⟨id, lk, e, row, hid, h3', h4', rfl, h5'⟩ := S_exec hi h2
      have hne := hsl id hid
      simp only [List.getElem?_set_ne (Ne.symm hne)] at h3'
      refine ⟨_, h5' hp lk h4' h3', ?_⟩
      have := h5 { hp with bs := hp.bs.set id (.box 2 e row) } (by simp only [List.getElem?_set_ne hne]; exact h3)
      rw [this]
      simp only [List.set_comm _ _ hne]
  · unfold sizeBeside at hb
    simp only [Bool.and_eq_true, Bool.or_eq_true] at hb
    obtain ⟨⟨hk, ht⟩, hs⟩ := hb
    obtain ⟨e1, hj⟩ := K_exec hk h1
    subst e1
    obtain ⟨x, hx⟩ := Option.isSome_iff_exists.1 ht
    refine ⟨hp2, h2, hj hp2 (fun id hid k => ((W_exec hx h2).2 id k (fun ha => ?_)).symm)⟩
    rcases hs with hs | hs
    · rw [ha] at hs; cases hs
    · exact slotJ _ hs id hid
  · unfold sizeBeside at hb
    simp only [Bool.and_eq_true, Bool.or_eq_true] at hb
    obtain ⟨⟨hk, ht⟩, hs⟩ := hb
    obtain ⟨e2, hi⟩ := K_exec hk h2
    subst e2
    obtain ⟨x, hx⟩ := Option.isSome_iff_exists.1 ht
    refine ⟨hp, hi hp (fun id hid k => (W_exec hx h1).2 id k (fun ha => ?_)), h1⟩
    rcases hs with hs | hs
    · rw [ha] at hs; cases hs
    · exact slotI _ hs id hid
  · split at hb
    · rename_i k agg x y hlo hx
      have hR : clsR j.op = true := by rw [hlo]; rfl
      have e1 := R_same hR h1; subst e1
      have hq := hp0 x (some y) i.slot ⟨j.op, by simp, by rw [hlo]; simp [AOp.opds]⟩ (fun z hz => by cases hz; exact ⟨i.op, by simp, tgt_opds hx⟩) hb
      refine ⟨hp2, h2, R_any hR h1 _ (fun id hid => ?_)⟩
      have hid' : id ∈ (x.ev T).ids := by rw [hlo] at hid; simpa [oids, AOp.opds] using hid
      rw [(W_exec hx h2).1 id ((hq id hid').2 y rfl) (hq id hid').1]
    · cases hb
  · split at hb
    · rename_i k agg x y hlo hx
      have hR : clsR i.op = true := by rw [hlo]; rfl
      have e2 := R_same hR h2; subst e2
      have hq := hp0 x (some y) j.slot ⟨i.op, by simp, by rw [hlo]; simp [AOp.opds]⟩ (fun z hz => by cases hz; exact ⟨j.op, by simp, tgt_opds hx⟩) hb
      refine ⟨hp, R_any hR h2 _ (fun id hid => ?_), h1⟩
      have hid' : id ∈ (x.ev T).ids := by rw [hlo] at hid; simpa [oids, AOp.opds] using hid
      rw [(W_exec hx h1).1 id ((hq id hid').2 y rfl) (hq id hid').1]
    · cases hb
  · obtain ⟨hj, hb⟩ := hb
    split at hb
    · rename_i k x y ho
      obtain ⟨blk, h3, rfl, h5⟩ := N_exec hj h1
      rw [ho] at h2
      obtain ⟨id, blk', hid, rfl, h6⟩ := St_exec h2
      have hne : id ≠ base + j.slot := (hp0 x none j.slot ⟨i.op, by simp, by rw [ho]; simp [AOp.opds]⟩ (fun z hz => by cases hz) hb id hid).1
      have h7 := h6 hp (by simp only [List.getElem?_set_ne (Ne.symm hne)])
      refine ⟨_, by rw [ho]; exact h7, ?_⟩
      rw [h5 _ (by simp only [List.getElem?_set_ne hne]; exact h3)]
      simp only [List.set_comm _ _ hne]
    · cases hb
  · obtain ⟨hi, hb⟩ := hb
    split at hb
    · rename_i k x y ho
      rw [ho] at h1
      obtain ⟨id, blk', hid, rfl, h6⟩ := St_exec h1
      obtain ⟨blk, h3, rfl, h5⟩ := N_exec hi h2
      have hne : id ≠ base + i.slot := (hp0 x none i.slot ⟨j.op, by simp, by rw [ho]; simp [AOp.opds]⟩ (fun z hz => by cases hz) hb id hid).1
      simp only [List.getElem?_set_ne hne] at h3
      refine ⟨_, h5 hp h3, ?_⟩
      rw [ho, h6 { hp with bs := hp.bs.set (base + i.slot) blk } (by simp only [List.getElem?_set_ne (Ne.symm hne)])]
      simp only [List.set_comm _ _ hne]
    · cases hb
  · obtain ⟨hj, hb⟩ := hb
    split at hb
    · rename_i f x xs ho
      obtain ⟨blk, h3, rfl, h5⟩ := N_exec hj h1
      rw [ho] at h2
      obtain ⟨id, blk', hid, rfl, h6⟩ := F4_exec h2
      have hne : id ≠ base + j.slot := (hp0 x none j.slot ⟨i.op, by simp, by rw [ho]; simp [AOp.opds]⟩ (fun z hz => by cases hz) hb id hid).1
      have h7 := h6 hp (by simp only [List.getElem?_set_ne (Ne.symm hne)]) (by simp)
      refine ⟨_, by rw [ho]; exact h7, ?_⟩
      rw [h5 _ (by simp only [List.getElem?_set_ne hne]; exact h3)]
      simp only [List.set_comm _ _ hne]
    · cases hb
  · obtain ⟨hi, hb⟩ := hb
    split at hb
    · rename_i f x xs ho
      rw [ho] at h1
      obtain ⟨id, blk', hid, rfl, h6⟩ := F4_exec h1
      obtain ⟨blk, h3, rfl, h5⟩ := N_exec hi h2
      have hne : id ≠ base + i.slot := (hp0 x none i.slot ⟨j.op, by simp, by rw [ho]; simp [AOp.opds]⟩ (fun z hz => by cases hz) hb id hid).1
      simp only [List.getElem?_set_ne hne] at h3
      refine ⟨_, h5 hp h3, ?_⟩
      rw [ho, h6 { hp with bs := hp.bs.set (base + i.slot) blk } (by simp only [List.getElem?_set_ne (Ne.symm hne)]) (by simp)]
      simp only [List.set_comm _ _ hne]
    · cases hb
  · obtain ⟨hj, hi⟩ := hb
    obtain ⟨id, lk, g, e, k, rows, hid, h3, rfl, h5⟩ := L_exec hj h1
    have e2 := R_same hi h2; subst e2
    exact ⟨hp, R_any hi h2 _ (agree_lockL h3).symm, h1⟩
  · obtain ⟨hj, hi⟩ := hb
    have e1 := R_same hj h1; subst e1
    obtain ⟨id, lk, g, e, k, rows, hid, h3, rfl, h5⟩ := L_exec hi h2
    exact ⟨_, h2, R_any hj h1 _ (agree_lockL h3)⟩
  · obtain ⟨hj, hb⟩ := hb
    split at hb
    · rename_i k0 y v ho
      obtain ⟨id, lk, g, e, k, rows, hid, h3, rfl, h5⟩ := L_exec hj h1
      rw [ho] at h2
      obtain ⟨id', blk', hid', rfl, h6⟩ := St_exec h2
      have hne : id ≠ id' := fun e => by
        obtain ⟨x, hx, hi⟩ := opds_ids hid
        exact (hp0 x (some y) i.slot ⟨j.op, by simp, hx⟩ (fun z hz => by cases hz; exact ⟨i.op, by simp, by rw [ho]; simp [AOp.opds]⟩) (List.all_eq_true.1 hb x hx) id hi).2 y rfl (e ▸ hid')
      have h7 := h6 hp (by simp only [List.getElem?_set_ne hne])
      refine ⟨_, by rw [ho]; exact h7, ?_⟩
      rw [h5 _ lk (by simp only [List.getElem?_set_ne (Ne.symm hne)]; exact h3)]
      simp only [List.set_comm _ _ hne]
    · cases hb
  · obtain ⟨hi, hb⟩ := hb
    split at hb
    · rename_i k0 y v ho
      rw [ho] at h1
      obtain ⟨id', blk', hid', rfl, h6⟩ := St_exec h1
      obtain ⟨id, lk, g, e, k, rows, hid, h3, rfl, h5⟩ := L_exec hi h2
      have hne : id ≠ id' := fun e => by
        obtain ⟨x, hx, hj⟩ := opds_ids hid
        exact (hp0 x (some y) j.slot ⟨i.op, by simp, hx⟩ (fun z hz => by cases hz; exact ⟨j.op, by simp, by rw [ho]; simp [AOp.opds]⟩) (List.all_eq_true.1 hb x hx) id hj).2 y rfl (e ▸ hid')
      simp only [List.getElem?_set_ne (Ne.symm hne)] at h3
      refine ⟨_, h5 hp lk h3, ?_⟩
      rw [ho, h6 { hp with bs := hp.bs.set id (.lst 2 g e k rows) } (by simp only [List.getElem?_set_ne hne])]
      simp only [List.set_comm _ _ hne]
    · cases hb
  · have e1 := RQ_same hb.1 h1; subst e1
    have e2 := RQ_same hb.2 h2; subst e2
    exact ⟨hp2, h2, h1⟩
  · obtain ⟨hj, ha, hs, hb⟩ := hb
    obtain ⟨e, k, b, x, y, ho⟩ := isApp_inv ha
    have hs' : j.slot ≠ i.slot := by simpa using hs
    obtain ⟨blk, h3, rfl, h5⟩ := N_exec hj h1
    have hsl := slotI j.slot hb
    rw [ho] at h2 hsl
    obtain ⟨f, rfl, hf, h6⟩ := Ap_exec h2
    have h7 := h6 hp (fun id hid => by simp only [List.getElem?_set_ne (Ne.symm (hsl id hid))]) (by simp only [List.getElem?_set_ne (show base + j.slot ≠ base + i.slot by omega)])
    refine ⟨_, by rw [ho]; exact h7, ?_⟩
    rcases hf with hf | ⟨id, blk', hid, hf⟩
    · simp only [hf]; exact h5 hp h3
    · have hne : id ≠ base + j.slot := by
        rcases hid with hid | rfl
        · exact hsl id (by simp [oids, AOp.opds, hid])
        · omega
      rw [h5 _ (by simp only [hf, List.getElem?_set_ne hne]; exact h3)]
      simp only [hf, List.set_comm _ _ hne]
  · obtain ⟨hi, ha, hs, hb⟩ := hb
    obtain ⟨e, k, b, x, y, ho⟩ := isApp_inv ha
    have hs' : j.slot ≠ i.slot := by simpa using hs
    have hsl := slotJ i.slot hb
    rw [ho] at h1 hsl
    obtain ⟨f, rfl, hf, h6⟩ := Ap_exec h1
    obtain ⟨blk, h3, rfl, h5⟩ := N_exec hi h2
    have hd : hp.bs[base + i.slot]? = some .dead := by
      rcases hf with hf | ⟨id, blk', hid, hf⟩
      · simpa only [hf] using h3
      · have hne : id ≠ base + i.slot := by
          rcases hid with hid | rfl
          · exact hsl id (by simp [oids, AOp.opds, hid])
          · omega
        simpa only [hf, List.getElem?_set_ne hne] using h3
    refine ⟨_, h5 hp hd, ?_⟩
    rw [ho, h6 { hp with bs := hp.bs.set (base + i.slot) blk } (fun id hid => by simp only [List.getElem?_set_ne (Ne.symm (hsl id hid))]) (by simp only [List.getElem?_set_ne (show base + i.slot ≠ base + j.slot by omega)])]
    rcases hf with hf | ⟨id, blk', hid, hf⟩
    · simp only [hf]
    · have hne : id ≠ base + i.slot := by
        rcases hid with hid | rfl
        · exact hsl id (by simp [oids, AOp.opds, hid])
        · omega
      simp only [hf, List.set_comm _ _ hne]
end Go.Proofs.YtgajekpigkknnaaDoor.A

/- An operation is drawn ahead of those that it need not wait for. No condition. -/
namespace Go.Proofs.YtgajekpigkknnaaDoor.A
open Go
variable {cV : FuncId → List AV → Option AV} {cR : FuncId → List AV → Hp → Option (AV × Hp)} {ys : List Hd} {hp hp' : Hp} {T T' : Tm} {pairs : List (Opd × Opd × Nat)} {base : Nat}

theorem iapart_spec {i j : AInstr} (h : iapart j i = true) : (∀ d, j.dst = some d → d ∉ i.looks) ∧ (∀ d, j.dst = some d → i.dst ≠ some d) ∧ (∀ d, i.dst = some d → d ∉ j.looks) := by
  unfold iapart at h
  simp only [Bool.and_eq_true] at h
  obtain ⟨h1, h2⟩ := h
  refine ⟨fun d hd hm => ?_, fun d hd hm => ?_, fun d hd hm => ?_⟩
  · rw [hd] at h1; simp at h1; exact h1.1 hm
  · rw [hd] at h1; simp at h1; exact h1.2 hm
  · rw [hd] at h2; simp at h2; exact h2 hm
theorem aval_put {i : AInstr} {d : Option Nat} {r : AV} (h : ∀ x, d = some x → x ∉ i.looks) : aval cV cR ys base i (putD T d r) hp = aval cV cR ys base i T hp :=
  aval_agree fun n hn => by
    rw [get_putD]
    split
    · rename_i hd; exact absurd hn (h n hd)
    · rfl
theorem swap {i j : AInstr} (ha : iapart j i = true) (hb : besides pairs j i = true) (hp0 : PairsAt pairs base T [j.op, i.op]) {rj ri : AV} {hp1 hp2 : Hp}
    (h1 : aval cV cR ys base j T hp = some (rj, hp1)) (h2 : aval cV cR ys base i (putD T j.dst rj) hp1 = some (ri, hp2)) :
    ∃ hp1', aval cV cR ys base i T hp = some (ri, hp1') ∧ aval cV cR ys base j (putD T i.dst ri) hp1' = some (rj, hp2) := by
  obtain ⟨k1, k2, k3⟩ := iapart_spec ha
  rw [aval_put k1] at h2
  have e : ∀ hp1', aval cV cR ys base j (putD T i.dst ri) hp1' = aval cV cR ys base j T hp1' := fun hp1' => aval_put k3
  simp only [e]
  unfold aval at h1 h2 ⊢
  split at h1
  · cases h1
  · cases h1
    rename_i hg
    exact ⟨hp2, h2, by simp only [hg]⟩
  · rename_i hg
    split at h2
    · cases h2
    · rename_i hg2; cases h2; exact ⟨hp, by first | rfl | simp only [hg2], by first | exact h1 | (simp only [hg]; exact h1)⟩
    · rename_i hg2
      first | exact commute hb hp0 h1 h2 | (simp only [hg, hg2]; exact commute hb hp0 h1 h2)

def inP (pairs : List (Opd × Opd × Nat)) (x : Opd) : Bool := pairs.any fun p => p.1.beq x || p.2.1.beq x
def okW (pairs : List (Opd × Opd × Nat)) (i k : AInstr) : Prop := ∀ n, Opd.t n ∈ i.op.opds → inP pairs (.t n) = true → k.dst ≠ some n
/-- What the pairs name is written no more. -/
def StabL (pairs : List (Opd × Opd × Nat)) (L : List AInstr) : Prop := (∀ i ∈ L, okW pairs i i) ∧ L.Pairwise (okW pairs)
theorem stab_spec : ∀ {L : List AInstr}, stab pairs L = true → StabL pairs L
  | [], _ => ⟨(fun i h => by cases h), List.Pairwise.nil⟩
  | i :: L, h => by
    simp only [stab, Bool.and_eq_true] at h
    obtain ⟨h1, h2⟩ := stab_spec h.2
    have key : ∀ k ∈ i :: L, okW pairs i k := fun k hk n hn hin hd => by
      have := List.all_eq_true.1 h.1 _ hn
      simp only [Bool.or_eq_true] at this
      rcases this with h3 | h3
      · unfold inP at hin; rw [hin] at h3; cases h3
      · have := List.all_eq_true.1 h3 k hk
        rw [hd] at this; simp at this
    refine ⟨fun k hk => ?_, List.Pairwise.cons (fun k hk => key k (by simp [hk])) h2⟩
    cases hk with
    | head => exact key i (by simp)
    | tail _ hk => exact h1 k hk
theorem StabL.sub {L L' : List AInstr} (h : StabL pairs L) (hs : L'.Sublist L) : StabL pairs L' := ⟨fun i hi => h.1 i (hs.subset hi), h.2.sublist hs⟩

theorem aops_keep : ∀ {l : List AInstr} {T Tf : Tm} {hp hpf : Hp} {n : Nat}, aops cV cR ys true base l T hp = some (Tf, hpf) → (∀ k ∈ l, k.dst ≠ some n) → Tf.get n = T.get n
  | [], T, Tf, hp, hpf, n, h, _ => by cases h; rfl
  | i :: l, T, Tf, hp, hpf, n, h, hk => by
    unfold aops at h
    rw [ainstr_eq] at h
    cases hv : aval cV cR ys base i T hp with
    | none => rw [hv] at h; cases h
    | some p =>
      rw [hv] at h
      rw [aops_keep (l := l) h (fun k hk' => hk k (by simp [hk'])), get_putD, if_neg (hk i (by simp))]

theorem beq_t {x : Opd} {n : Nat} (h : x.beq (.t n) = true) : x = .t n := by
  cases x with
  | t m => simp only [Opd.beq, beq_iff_eq] at h; rw [h]
  | c a => cases h
theorem beq_c {x : Opd} {a : AV} (h : x.beq (.c a) = true) : False := by cases x <;> cases h
theorem pairsAt_of {Tf : Tm} {ops : List AOp} (hF : pairs.all (pairOk Tf base) = true) (h : ∀ o ∈ ops, ∀ n, Opd.t n ∈ o.opds → inP pairs (.t n) = true → T.get n = Tf.get n) : PairsAt pairs base T ops := by
  intro x y s hx hy hin id hid
  unfold inPairs at hin
  simp only [Bool.or_eq_true] at hin
  rcases hin with hin | hin
  · cases x with
    | t n => cases hin
    | c a => simp only [noIds, List.isEmpty_iff] at hin; simp only [Opd.ev, hin] at hid; cases hid
  · obtain ⟨p, hp, hin⟩ := List.any_eq_true.1 hin
    simp only [Bool.and_eq_true, beq_iff_eq] at hin
    obtain ⟨⟨h1, h2⟩, h3⟩ := hin
    cases x with
    | c a => exact (beq_c h1).elim
    | t n =>
      obtain ⟨o, ho, hxo⟩ := hx
      have e1 := h o ho n hxo (List.any_eq_true.2 ⟨p, hp, by simp [h1]⟩)
      have hpo := List.all_eq_true.1 hF p hp
      unfold pairOk at hpo
      rw [beq_t h1] at hpo
      have hid' : id ∈ (Tf.get n).ids := by rw [← e1]; exact hid
      have := List.all_eq_true.1 hpo id hid'
      simp only [Bool.and_eq_true, Bool.not_eq_true', beq_eq_false_iff_ne] at this
      refine ⟨by rw [← h3]; exact this.2, fun z hz hzid => ?_⟩
      subst hz
      dsimp only at h2
      cases z with
      | c a => exact beq_c h2
      | t m =>
        obtain ⟨o', ho', hzo⟩ := hy _ rfl
        have e2 := h o' ho' m hzo (List.any_eq_true.2 ⟨p, hp, by simp [h2]⟩)
        have h5 := this.1
        rw [beq_t h2] at h5
        have : ((Tf.get m).ids.contains id) = true := by
          rw [← e2]; simpa [Opd.ev] using hzid
        simp only [Opd.ev] at h5
        rw [this] at h5; cases h5

theorem pull {i : AInstr} {B : List AInstr} {Tf : Tm} {hpf : Hp} (hF : pairs.all (pairOk Tf base) = true) : ∀ {A : List AInstr} {T Tf' : Tm} {hp : Hp}, aops cV cR ys true base (A ++ i :: B) T hp = some (Tf', hpf) → Teq Tf' Tf →
    (∀ j ∈ A, iapart j i = true ∧ besides pairs j i = true) → StabL pairs (A ++ i :: B) → ∃ T1 hp1 Tf'', ainstr cV cR ys true base i T hp = some (T1, hp1) ∧ aops cV cR ys true base (A ++ B) T1 hp1 = some (Tf'', hpf) ∧ Teq Tf'' Tf
  | [], T, Tf', hp, hx, ht, _, _ => by
    simp only [List.nil_append] at hx ⊢
    unfold aops at hx
    split at hx
    · rename_i T1 hp1 h1; exact ⟨T1, hp1, Tf', h1, hx, ht⟩
    · cases hx
  | j :: A, T, Tf', hp, hx, ht, hA, hS => by
    simp only [List.cons_append] at hx hS ⊢
    have hx0 := hx
    unfold aops at hx
    rw [ainstr_eq] at hx
    cases hv : aval cV cR ys base j T hp with
    | none => rw [hv] at hx; cases hx
    | some p =>
      rw [hv] at hx
      dsimp only [Option.map] at hx
      have hS' : StabL pairs (A ++ i :: B) := hS.sub (List.sublist_cons_self _ _)
      obtain ⟨T1, hp1, Tf'', h1, h2, h3⟩ := pull hF (A := A) hx ht (fun k hk => hA k (by simp [hk])) hS'
      rw [ainstr_eq] at h1
      cases hvi : aval cV cR ys base i (putD T j.dst p.1) p.2 with
      | none => rw [hvi] at h1; cases h1
      | some q =>
        rw [hvi] at h1
        dsimp only [Option.map] at h1
        simp only [Option.some.injEq, Prod.mk.injEq] at h1
        obtain ⟨rfl, rfl⟩ := h1
        obtain ⟨hap, hbe⟩ := hA j (by simp)
        have hPA : PairsAt pairs base T [j.op, i.op] := by
          refine pairsAt_of hF fun o ho n hn hin => ?_
          have : Tf'.get n = T.get n := aops_keep hx0 (fun k hk => ?_)
          · rw [← this]; exact ht n
          · simp only [List.mem_cons, List.not_mem_nil, or_false] at ho
            rcases ho with rfl | rfl
            · simp only [List.mem_cons] at hk
              rcases hk with rfl | hk
              · exact hS.1 k (by simp) n hn hin
              · exact (List.pairwise_cons.1 hS.2).1 k hk n hn hin
            · have hlk : n ∈ i.looks := mem_looks hn
              simp only [List.mem_cons, List.mem_append] at hk
              rcases hk with rfl | hk | rfl | hk
              · exact fun hd => (iapart_spec hap).1 n hd hlk
              · exact fun hd => (iapart_spec (hA k (by simp [hk])).1).1 n hd hlk
              · exact hS'.1 k (by simp) n hn hin
              · have := (List.pairwise_append.1 hS'.2).2.1
                exact (List.pairwise_cons.1 this).1 k hk n hn hin
        obtain ⟨hpx, h4, h5⟩ := swap hap hbe hPA hv hvi
        have hteq : Teq (putD (putD T j.dst p.1) i.dst q.1) (putD (putD T i.dst q.1) j.dst p.1) := fun t => by
          simp only [get_putD]
          by_cases hj : j.dst = some t
          · have hi : i.dst ≠ some t := (iapart_spec hap).2.1 t hj
            rw [if_pos hj, if_neg hi]
            rw [if_pos hj]
          · rw [if_neg hj]
            rw [if_neg hj]
        obtain ⟨Tg, h6, h7⟩ := aops_teq hteq h2
        refine ⟨putD T i.dst q.1, hpx, Tg, by rw [ainstr_eq, h4]; rfl, ?_, fun t => (h7 t).symm.trans (h3 t)⟩
        unfold aops
        rw [ainstr_eq, h5]
        exact h6

/-! ### What must come ahead -/
theorem foldl_bits (acc : List Nat) : ∀ (es : List Nat) (b : Nat) (j : Nat), (es.foldl (fun b e => b ||| (2 ^ e ||| acc.getD e 0)) b).testBit j = true → b.testBit j = true ∨ ∃ e ∈ es, j = e ∨ (acc.getD e 0).testBit j = true
  | [], b, j, h => .inl h
  | e :: es, b, j, h => by
    rcases foldl_bits acc es _ j h with h | ⟨e', he', h⟩
    · simp only [Nat.testBit_or, Bool.or_eq_true, Nat.testBit_two_pow, decide_eq_true_eq] at h
      rcases h with h | h | h
      · exact .inl h
      · exact .inr ⟨e, by simp, .inl h.symm⟩
      · exact .inr ⟨e, by simp, .inr h⟩
    · exact .inr ⟨e', by simp [he'], h⟩
/-- Where all is done that stands directly ahead of what is done, all is done that the bits name. -/
theorem befs_spec (Lst : Nat → Prop) (ed : Nat → List Nat) (hcl : ∀ k, Lst k → ∀ e ∈ ed k, Lst e) : ∀ (os : List Oper) (acc : List Nat), (∀ k, k < acc.length → (∀ e ∈ ed k, Lst e) → ∀ j, (acc.getD k 0).testBit j = true → Lst j) →
    (∀ (k : Nat) o, os[k]? = some o → edgesOf o = ed (acc.length + k) ∧ ∀ e ∈ edgesOf o, e < acc.length + k) → ∀ k, (∀ e ∈ ed k, Lst e) → ∀ j, ((befs acc os).getD k 0).testBit j = true → Lst j
  | [], acc, hacc, _, k, hk, j, h => by
    unfold befs at h
    by_cases hl : k < acc.length
    · exact hacc k hl hk j h
    · rw [List.getD_eq_getElem?_getD, List.getElem?_eq_none (by omega)] at h; simp at h
  | o :: os, acc, hacc, hed, k, hk, j, h => by
    unfold befs at h
    refine befs_spec Lst ed hcl os _ (fun k hl hk j hj => ?_) (fun k o' ho' => ?_) k hk j h
    · by_cases hka : k < acc.length
      · rw [List.getD_eq_getElem?_getD, List.getElem?_append_left hka, ← List.getD_eq_getElem?_getD] at hj
        exact hacc k hka hk j hj
      · have hke : k = acc.length := by simp at hl; omega
        subst hke
        rw [List.getD_eq_getElem?_getD, List.getElem?_append_right (Nat.le_refl _), Nat.sub_self] at hj
        simp only [List.getElem?_cons_zero, Option.getD_some] at hj
        obtain ⟨e1, e2⟩ := hed 0 o rfl
        rw [Nat.add_zero] at e1 e2
        rcases foldl_bits acc _ 0 j hj with hz | ⟨e, he, rfl | hb⟩
        · simp at hz
        · exact hk _ (by rw [← e1]; exact he)
        · have hle := hk e (by rw [← e1]; exact he)
          exact hacc e (e2 e he) (hcl e hle) j hb
    · have := hed (k + 1) o' (by simpa using ho')
      simp only [List.length_append, List.length_singleton]
      rw [show acc.length + 1 + k = acc.length + (k + 1) from by omega]
      exact this
end Go.Proofs.YtgajekpigkknnaaDoor.A

/- Regions in whatever order. No condition. -/
namespace Go.Proofs.YtgajekpigkknnaaDoor.A
open Go
variable {U : Nat → Prop} {w w' : World} {Pr Pr' : Nat → Nat → Prop} {σ σ' : List Blk} {γ γ' : List Ghost} {ls : List Nat} {P : Program} {G : Nat → Option (List AV)}
variable {cV : FuncId → List AV → Option AV} {cR : FuncId → List AV → Hp → Option (AV × Hp)} {ys : List Hd} {hs : List Lp} {hp hp' : Hp} {T T' : Tm} {pairs : List (Opd × Opd × Nat)} {base : Nat}

theorem sideOk_spec {bf : List Nat} : ∀ {j : Nat} {l : List AInstr}, sideOk pairs bf j l = true → (l.zipIdx j).Pairwise fun x y => (bf.getD y.2 0).testBit x.2 = true ∨ (iapart x.1 y.1 = true ∧ besides pairs x.1 y.1 = true)
  | j, [], _ => List.Pairwise.nil
  | j, x :: l, h => by
    simp only [sideOk, Bool.and_eq_true] at h
    rw [List.zipIdx_cons]
    refine List.Pairwise.cons (fun y hy => ?_) (sideOk_spec h.2)
    have := List.all_eq_true.1 h.1 y hy
    simpa only [Bool.or_eq_true, Bool.and_eq_true] using this

/-- What has not come up as yet. -/
def rem (l : List AInstr) (listed : Array Bool) : List (AInstr × Nat) := (l.zipIdx 0).filter fun y => !(listed.getD y.2 true)
theorem mem_rem {l : List AInstr} {listed : Array Bool} {i : AInstr} {k : Nat} : (i, k) ∈ rem l listed ↔ l[k]? = some i ∧ listed.getD k true = false := by
  unfold rem
  rw [List.mem_filter, List.mem_zipIdx_iff_getElem?]
  simp
theorem zipIdx_idx (l : List AInstr) (n : Nat) : (l.zipIdx n).Pairwise fun x y => x.2 < y.2 := by
  induction l generalizing n with
  | nil => exact List.Pairwise.nil
  | cons a l ih =>
    rw [List.zipIdx_cons]
    refine List.Pairwise.cons (fun y hy => ?_) (ih (n + 1))
    have := List.le_snd_of_mem_zipIdx hy
    exact this
theorem rem_set {l : List AInstr} {listed : Array Bool} {A B : List (AInstr × Nat)} {i : AInstr} {k : Nat} (h : rem l listed = A ++ (i, k) :: B) (hk : k < listed.size) : rem l (listed.setIfInBounds k true) = A ++ B := by
  have hp : (rem l listed).Pairwise fun x y => x.2 < y.2 := (zipIdx_idx l 0).filter _
  have e : rem l (listed.setIfInBounds k true) = (rem l listed).filter fun y => !(y.2 == k) := by
    unfold rem
    rw [List.filter_filter]
    refine List.filter_congr fun y _ => ?_
    by_cases hy : y.2 = k
    · rw [hy]; simp [hk]
    · have : ¬ k = y.2 := fun h => hy h.symm
      simp [hy, Array.getElem?_setIfInBounds_ne this]
  rw [e, h]
  rw [h] at hp
  rw [List.pairwise_append] at hp
  obtain ⟨hA, hB, hAB⟩ := hp
  rw [List.pairwise_cons] at hB
  rw [List.filter_append, List.filter_cons]
  simp only [beq_self_eq_true, Bool.not_true, Bool.false_eq_true, if_false]
  rw [List.filter_eq_self.2, List.filter_eq_self.2]
  · intro y hy; have := hB.1 y hy; simp; omega
  · intro y hy; have := hAB y hy (i, k) (by simp); simp; simp at this; omega

theorem ready_iff {ops : Array Oper} {listed : Array Bool} {i : Nat} : i ∈ Region.ready .any ops listed ↔ listed.getD i true = false ∧ ∃ o, ops[i]? = some o ∧ ∀ e ∈ edgesOf o, listed.getD e false = true := by
  unfold Region.ready edgesOf
  rw [List.mem_filter]
  constructor
  · rintro ⟨h1, h2⟩
    simp only [Bool.and_eq_true, Bool.not_eq_true'] at h2
    refine ⟨h2.1, ?_⟩
    have hi : i < ops.size := List.mem_range.1 h1
    have ho : ops[i]? = some ops[i] := Array.getElem?_eq_getElem hi
    refine ⟨_, ho, fun e he => ?_⟩
    rw [ho] at h2
    simp only [Option.map_some, Option.getD_some, Array.all_eq_true_iff_forall_mem] at h2
    obtain ⟨ed, hed, rfl⟩ := List.mem_map.1 he
    obtain ⟨hm, hb⟩ := List.mem_filter.1 hed
    have := h2.2 ed (Array.mem_toList_iff.1 hm)
    rw [hb] at this; simpa using this
  · rintro ⟨h1, o, ho, h2⟩
    refine ⟨List.mem_range.2 (Array.getElem?_eq_some_iff.1 ho).1, ?_⟩
    simp only [Bool.and_eq_true, Bool.not_eq_true']
    refine ⟨h1, ?_⟩
    rw [ho]
    simp only [Option.map_some, Option.getD_some, Array.all_eq_true_iff_forall_mem]
    intro ed hed
    cases hb : Region.binds .any ed with
    | false => rfl
    | true =>
      have := h2 ed.on (List.mem_map.2 ⟨ed, List.mem_filter.2 ⟨Array.mem_toList_iff.2 hed, hb⟩, rfl⟩)
      simpa using this

/-- A region in whatever order. -/
theorem draw_sound (hV : CVOk P G cV) (hR : CROk P G ys cR) {ro : Option Nat} {nt : Nat} {ops : Array Oper} {l : List AInstr} (hl : l.length = ops.size) (hok : ∀ (k : Nat) i o, l[k]? = some i → ops[k]? = some o → InstrOk P G ops nt i o)
    (hd : drawOk ops.toList l pairs = true) {Tf : Tm} (hF : pairs.all (pairOk Tf base) = true) {hpf : Hp} {Q : Exit → Act → World → Prop} :
    ∀ (fuel : Nat) {listed : Array Bool} {w : World} {Pr : Nat → Nat → Prop} {γ : List Ghost} {hp : Hp} {T Tf' : Tm} {a : Act}, listed.size = ops.size → (∀ k o, listed.getD k false = true → ops[k]? = some o → ∀ e ∈ edgesOf o, listed.getD e false = true) →
      (rem l listed).length = fuel → aops cV cR ys true base ((rem l listed).map (·.1)) T hp = some (Tf', hpf) → Teq Tf' Tf → nt ≤ a.tmps.size →
      Inv U w Pr hp.bs γ → GOk G w Pr → PendOk w hs hp.pend → HdsOk P U hs ys w Pr hp.bs γ → TOk w Pr hp.bs γ (lsOf hs) T a.tmps →
      (∀ a' w', Cont U hs w Pr hp.bs γ a Tf hpf a' w' → Q .normal a' w') → wpAnyIn (fenceOf ro) 0 P .any ops Q fuel listed a w
  | 0, listed, w, Pr, γ, hp, T, Tf', a, hsz, hcl, hlen, hx, ht, hnt, hI, hG, hP, hH, hT, hQ => by
    have h0 : rem l listed = [] := List.eq_nil_of_length_eq_zero hlen
    refine ⟨?_, ?_⟩
    · rw [List.eq_nil_iff_forall_not_mem]
      intro i hi
      obtain ⟨h1, o, ho, _⟩ := ready_iff.1 hi
      have hil : i < l.length := by rw [hl]; exact (Array.getElem?_eq_some_iff.1 ho).1
      have : (l[i], i) ∈ rem l listed := mem_rem.2 ⟨List.getElem?_eq_getElem hil, h1⟩
      rw [h0] at this; cases this
    · rw [h0] at hx
      cases hx
      exact hQ _ _ ⟨rfl, rfl, Pr, γ, hI, Keeps.refl _ _, Evo.refl _ _ _ _, hP, fun t => by rw [← ht t]; exact hT t⟩
  | fuel + 1, listed, w, Pr, γ, hp, T, Tf', a, hsz, hcl, hlen, hx, ht, hnt, hI, hG, hP, hH, hT, hQ => by
    unfold drawOk at hd
    simp only [Bool.and_eq_true] at hd
    obtain ⟨⟨hd1, hd2⟩, hd3⟩ := hd
    have hedge : ∀ (k : Nat) o, ops[k]? = some o → ∀ e ∈ edgesOf o, e < k := fun k o ho e he => by
      have := List.all_eq_true.1 hd1 (o, k) (by rw [List.mem_zipIdx_iff_getElem?]; simpa using ho)
      have := List.all_eq_true.1 this e he
      simpa using this
    have hnil : Region.ready .any ops listed = [] → Q .normal a w := fun hr => by
      exfalso
      cases hrem : rem l listed with
      | nil => rw [hrem] at hlen; cases hlen
      | cons x xs =>
        obtain ⟨i, k⟩ := x
        have hm : (i, k) ∈ rem l listed := by rw [hrem]; simp
        obtain ⟨h1, h2⟩ := mem_rem.1 hm
        have hk : k < ops.size := by rw [← hl]; exact (List.getElem?_eq_some_iff.1 h1).1
        have ho : ops[k]? = some ops[k] := Array.getElem?_eq_getElem hk
        have : k ∈ Region.ready .any ops listed := ready_iff.2 ⟨h2, _, ho, fun e he => by
          have hek := hedge k _ ho e he
          cases hle : listed.getD e true with
          | true =>
            have : e < listed.size := by omega
            simp [this] at hle ⊢; exact hle
          | false =>
            have hme : (l[e]'(by omega), e) ∈ rem l listed := mem_rem.2 ⟨List.getElem?_eq_getElem _, hle⟩
            have hp : (rem l listed).Pairwise fun x y => x.2 < y.2 := (zipIdx_idx l 0).filter _
            rw [hrem] at hp hme
            rcases List.mem_cons.1 hme with he' | he'
            · cases he'; omega
            · have := (List.pairwise_cons.1 hp).1 _ he'
              simp at this; omega⟩
        rw [hr] at this; cases this
    refine ⟨hnil, fun k hk => ?_⟩
    obtain ⟨h1, o, ho, hed⟩ := ready_iff.1 hk
    have hkl : k < l.length := by rw [hl]; exact (Array.getElem?_eq_some_iff.1 ho).1
    have hm : (l[k], k) ∈ rem l listed := mem_rem.2 ⟨List.getElem?_eq_getElem hkl, h1⟩
    obtain ⟨A, B, hAB⟩ := List.append_of_mem hm
    have hside : (rem l listed).Pairwise fun x y => ((befs [] ops.toList).getD y.2 0).testBit x.2 = true ∨ (iapart x.1 y.1 = true ∧ besides pairs x.1 y.1 = true) := (sideOk_spec hd3).filter _
    have hA : ∀ j ∈ A.map (·.1), iapart j l[k] = true ∧ besides pairs j l[k] = true := by
      intro j hj
      obtain ⟨x, hxA, rfl⟩ := List.mem_map.1 hj
      rw [hAB] at hside
      have := (List.pairwise_append.1 hside).2.2 x hxA _ (by simp : (l[k], k) ∈ (l[k], k) :: B)
      refine this.resolve_left fun hb => ?_
      have hxr : (x.1, x.2) ∈ rem l listed := by rw [hAB]; exact List.mem_append_left _ hxA
      obtain ⟨h3, h4⟩ := mem_rem.1 hxr
      have := befs_spec (fun e => listed.getD e false = true) (fun k => match ops[k]? with
        | some o => edgesOf o
        | none => []) (fun k hk e he => by
          cases hok' : ops[k]? with
          | none => rw [hok'] at he; cases he
          | some o' => rw [hok'] at he; exact hcl k o' hk hok' e he) ops.toList [] (fun k hk => by simp at hk) (fun k' o' ho' => by
            have ho'' : ops[k']? = some o' := by simpa using ho'
            refine ⟨?_, fun e he => ?_⟩
            · simp only [List.length_nil, Nat.zero_add, ho'']
            · simp only [List.length_nil, Nat.zero_add]; exact hedge k' o' ho'' e he) k (by rw [ho]; exact hed) x.2 hb
      have hlt : x.2 < listed.size := by rw [hsz, ← hl]; exact (List.getElem?_eq_some_iff.1 h3).1
      simp [hlt] at this h4
      rw [this] at h4; cases h4
    have hS : StabL pairs ((rem l listed).map (·.1)) := by
      refine (stab_spec hd2).sub ?_
      have h2 := List.Sublist.map Prod.fst (List.filter_sublist (p := fun y : AInstr × Nat => !(listed.getD y.2 true)) (l := l.zipIdx 0))
      rw [List.zipIdx_map_fst] at h2
      exact h2
    rw [hAB, List.map_append, List.map_cons] at hx hS
    obtain ⟨T1, hp1, Tf'', h3, h4, h5⟩ := pull hF hx ht hA hS
    have hset := rem_set hAB (by rw [hsz, ← hl]; exact hkl)
    unfold wpOpIn
    rw [ho]
    refine instr_sound hV hR (hok k _ _ (List.getElem?_eq_getElem hkl) ho) h3 hnt hI hG hP hH hT ?_
    rintro a' w' ⟨h6, h7, Pr', γ', k1, k2, k3, k4, k5⟩
    refine draw_sound hV hR hl hok (by unfold drawOk; simp only [Bool.and_eq_true]; exact ⟨⟨hd1, hd2⟩, hd3⟩) hF fuel (by simp [hsz]) ?_ ?_ (by rw [hset, List.map_append]; exact h4) h5 (by rw [h6]; exact hnt) k1 (hG.mono k3.stays) k4 (hH.mono k3.size k3.stays k2) k5 (fun a'' w'' hc => hQ _ _ (hc.trans h6 h7 k2 k3))
    · intro k' o' hk' ho' e he
      have keep : ∀ e, listed.getD e false = true → (listed.setIfInBounds k true).getD e false = true := fun e he => by
        by_cases hek : k = e
        · subst hek
          have : k < listed.size := by rw [hsz]; exact (Array.getElem?_eq_some_iff.1 ho).1
          simp [this]
        · simp [Array.getElem?_setIfInBounds_ne hek]; simpa using he
      by_cases hkk : k = k'
      · subst hkk
        rw [ho] at ho'; cases ho'
        exact keep e (hed e he)
      · have : listed.getD k' false = true := by
          simp [Array.getElem?_setIfInBounds_ne hkk] at hk'; simpa using hk'
        exact keep e (hcl k' o' this ho' e he)
    · rw [hset]
      rw [hAB] at hlen
      simp at hlen ⊢; omega
end Go.Proofs.YtgajekpigkknnaaDoor.A

/- Codes: regions, rows of codes, branches, loops. No condition. -/
namespace Go.Proofs.YtgajekpigkknnaaDoor.A
open Go
variable {U : Nat → Prop} {w w' : World} {Pr Pr' : Nat → Nat → Prop} {σ σ' : List Blk} {γ γ' : List Ghost} {ls : List Nat} {P : Program} {G : Nat → Option (List AV)}
variable {cV : FuncId → List AV → Option AV} {cR : FuncId → List AV → Hp → Option (AV × Hp)} {ys : List Hd} {hs : List Lp} {hp hp' : Hp} {T T' : Tm}

def exitOf : AExit → Exit
  | .normal => .normal
  | .exit i => .exit i
  | .ret => .ret
/-- What holds of the frame: marks of loops that have ended; or the loop whose round it is. -/
def FrOk (ro : Option Nat) (m : Nat) (hs : List Lp) (a : Act) (w : World) : Prop :=
  match ro with
  | none => J.Marks m a.defers w
  | some l => l ∉ lsOf hs ∧ ∃ r, w.heap[l]? = some (.loop r)
theorem FrOk.evo {ro : Option Nat} {m : Nat} {pend : List (Option AExit)} {a a' : Act} (h : FrOk ro m hs a w) (hP : PendOk w hs pend) (hE : Evo U (lsOf hs) w Pr w' Pr') (hd : a'.defers = a.defers) : FrOk ro m hs a' w' := by
  cases ro with
  | none =>
    obtain ⟨Ds, h1, h2, h3⟩ := h
    refine ⟨Ds, hd.trans h1, h2, fun D hD => ⟨(h3 D hD).1, hE.keep _ _ (h3 D hD).2 rfl (fun hx => ?_)⟩⟩
    obtain ⟨r, hr⟩ := hP.isLoop hx
    rw [(h3 D hD).2] at hr; cases hr
  | some l =>
    obtain ⟨h1, r, h2⟩ := h
    exact ⟨h1, r, hE.keep _ _ h2 rfl h1⟩
/-- What is known behind a code. -/
def CPost (U : Nat → Prop) (ro : Option Nat) (m : Nat) (hs : List Lp) (w : World) (Pr : Nat → Nat → Prop) (σ : List Blk) (γ : List Ghost) (a : Act) (ex : AExit) (T' : Tm) (hp' : Hp) : Exit → Act → World → Prop := fun e a' w' =>
  e = exitOf ex ∧ a'.tmps.size = a.tmps.size ∧ FrOk ro m hs a' w' ∧ ∃ Pr' γ', Inv U w' Pr' hp'.bs γ' ∧ Keeps σ γ hp'.bs γ' ∧ Evo U (lsOf hs) w Pr w' Pr' ∧ PendOk w' hs hp'.pend ∧ TOk w' Pr' hp'.bs γ' (lsOf hs) T' a'.tmps
theorem CPost.trans {ro : Option Nat} {m : Nat} {a a1 a2 : Act} {w1 w2 : World} {Pr1 : Nat → Nat → Prop} {σ1 : List Blk} {γ1 : List Ghost} {ex : AExit} {e : Exit} (hs1 : a1.tmps.size = a.tmps.size) (hK : Keeps σ γ σ1 γ1) (hE : Evo U (lsOf hs) w Pr w1 Pr1)
    (h : CPost U ro m hs w1 Pr1 σ1 γ1 a1 ex T' hp' e a2 w2) : CPost U ro m hs w Pr σ γ a ex T' hp' e a2 w2 := by
  obtain ⟨h1, h2, h3, Pr2, γ2, k1, k2, k3, k4, k5⟩ := h
  exact ⟨h1, h2.trans hs1, h3, Pr2, γ2, k1, hK.trans k2, hE.trans k3, k4, k5⟩

/-- The evaluator is right of codes. -/
def CodeOk (P : Program) (G : Nat → Option (List AV)) (E : Env) (n : Nat) : Prop :=
  ∀ ys c' T hp ex T' hp', acode E n ys c' T hp = some (ex, T', hp') → ∀ g nt c, cCode P G nt g c = some c' → ∀ U ro m hs w Pr γ a, nt ≤ a.tmps.size → m ≤ w.heap.size → Inv U w Pr hp.bs γ → GOk G w Pr → PendOk w hs hp.pend → HdsOk P U hs ys w Pr hp.bs γ → FrOk ro m hs a w → TOk w Pr hp.bs γ (lsOf hs) T a.tmps →
    c.wpIn (fenceOf ro) 0 P (CPost U ro m hs w Pr hp.bs γ a ex T' hp') a w

theorem region_ok {E : Env} {n : Nat} (hV : CVOk P G (acallV E n)) (hR : ∀ ys, CROk P G ys (acall E n ys)) {slots : Nat} {l : List AInstr} {draw : Bool} {pairs : List (Opd × Opd × Nat)} {ex : AExit} (hx : acode E (n + 1) ys (.region slots l draw pairs) T hp = some (ex, T', hp'))
    {g : ACode} {nt : Nat} {c : Code} (hc : cCode P G nt g c = some (.region slots l draw pairs)) {ro : Option Nat} {m : Nat} {a : Act} (hnt : nt ≤ a.tmps.size) (hI : Inv U w Pr hp.bs γ) (hG : GOk G w Pr) (hP : PendOk w hs hp.pend)
    (hH : HdsOk P U hs ys w Pr hp.bs γ) (hF : FrOk ro m hs a w) (hT : TOk w Pr hp.bs γ (lsOf hs) T a.tmps) : c.wpIn (fenceOf ro) 0 P (CPost U ro m hs w Pr hp.bs γ a ex T' hp') a w := by
  unfold acode at hx
  dsimp only at hx
  split at hx
  · rename_i T1 hp1 h1
    split at hx
    · cases hx
    · rename_i hdr
      cases hx
      obtain ⟨hI1, hK1⟩ := hI.slots slots
      have hT1 : TOk w Pr (hp.bs ++ List.replicate slots .dead) (γ ++ List.replicate slots default) (lsOf hs) T a.tmps := hT.mono (Stays.refl _ _) hK1 (fun _ _ h => h)
      have hH1 := hH.mono (Nat.le_refl _) (Stays.refl _ _) hK1
      have fin : ∀ {w1 : World} {e : Exit} {a' : Act} {w' : World}, Evo U (lsOf hs) w Pr w1 Pr → e = .normal → Cont U hs w1 Pr (hp.bs ++ List.replicate slots .dead) (γ ++ List.replicate slots default) a T' hp' a' w' → CPost U ro m hs w Pr hp.bs γ a .normal T' hp' e a' w' := by
        rintro w1 e a' w' hE0 rfl ⟨h2, h3, Pr', γ', k1, k2, k3, k4, k5⟩
        exact ⟨rfl, h2, hF.evo hP (hE0.trans k3) h3, Pr', γ', k1, hK1.trans k2, hE0.trans k3, k4, k5⟩
      unfold cCode at hc
      split at hc <;> first | (cases hc; done) | skip
      · split at hc <;> cases hc
      · split at hc <;> cases hc
      · obtain ⟨x, _, h⟩ := Option.map_eq_some_iff.1 hc; cases h
      · obtain ⟨x, _, h⟩ := Option.map_eq_some_iff.1 hc; cases h
      · split at hc
        · split at hc <;> cases hc
        · cases hc
      · rename_i sl gs dr prs id ops draw'
        split at hc
        · rename_i l' hl'
          split at hc
          · rename_i hd
            cases hc
            obtain ⟨hlen, hok⟩ := cOps_ok hl'
            have hlen' : l.length = ops.size := by rw [hlen]; simp
            have hok' : ∀ (k : Nat) i o, l[k]? = some i → ops[k]? = some o → InstrOk P G ops nt i o := fun k i o h1 h2 => hok k i o h1 (by simpa using h2)
            cases draw with
            | false =>
              refine wpIn_region ?_
              rw [List.range_eq_range']
              exact ops_sound hV (hR ys) hlen' hok' ops.size 0 (hp := ⟨hp.bs ++ List.replicate slots .dead, hp.pend⟩) (by omega) (by rw [List.drop_zero]; exact h1) hnt hI1 hG hP hH1 hT1 (fun a' w' hcont => fin (Evo.refl _ _ _ _) rfl hcont)
            | true =>
              simp only [Bool.not_true, Bool.false_or, Bool.and_eq_true] at hd
              simp only [Bool.true_and, Bool.not_eq_true', Bool.not_eq_false] at hdr
              refine wpIn_region_any hd.1 ?_
              have hE := Evo.drew U (lsOf hs) w Pr
              have hE0 := Evo.drew U [] w Pr
              have hrem : rem l (Array.replicate ops.size false) = l.zipIdx 0 := by
                unfold rem
                rw [List.filter_eq_self]
                intro y hy
                have : y.2 < ops.size := by
                  rw [List.mem_zipIdx_iff_getElem?] at hy
                  rw [← hlen']; exact (List.getElem?_eq_some_iff.1 hy).1
                simp [this]
              refine draw_sound hV (hR ys) hlen' hok' hd.2 hdr ops.size (hp := ⟨hp.bs ++ List.replicate slots .dead, hp.pend⟩) (by simp) (fun k o hk => ?_) (by rw [hrem]; simp [hlen']) (by rw [hrem, List.zipIdx_map_fst]; exact h1) (fun _ => rfl) hnt (hI1.same (w' := { w with drawn := w.drawn + 1 }) rfl) (hG.mono hE.stays) (hP.evo hE0) (hH1.mono (Nat.le_refl _) hE.stays (Keeps.refl _ _))
                (hT1.mono hE.stays (Keeps.refl _ _) (fun _ _ h => h)) (fun a' w' hcont => fin hE rfl hcont)
              intro ho
              exfalso
              have : k < ops.size := (Array.getElem?_eq_some_iff.1 ho).1
              simp [this] at hk
          · cases hc
        · cases hc
  · cases hx

theorem mask_get (T : Tm) : ∀ (keep : List Nat) (t : Nat), (T.mask keep).get t = if t ∈ keep then T.get t else .undef
  | [], t => rfl
  | i :: keep, t => by
    show (if i = t then T.get i else (Tm.mask T keep).get t) = _
    by_cases h : i = t
    · subst h; simp
    · rw [if_neg h, mask_get T keep t]
      have : ¬ t = i := fun e => h e.symm
      simp [this]
theorem mask_ok {m : Nat} {keep : List Nat} {tm : Array Value} (hT : TOk w Pr σ γ ls T tm) (hb : belowL m ((T.mask keep).map (·.2)) = true) : TOk w Pr (σ.take m) (γ.take m) ls (T.mask keep) tm := by
  intro t
  rw [mask_get]
  split
  · rename_i hm
    obtain ⟨i, hi, he⟩ := List.mem_iff_getElem.1 hm
    have : ((T.mask keep).map (·.2))[i]? = some (T.get t) := by
      simp [Tm.mask, List.getElem?_eq_getElem hi, he]
    exact (hT t).trunc (belowL_get hb this)
  · exact .undef _

theorem loop_ok {E : Env} {ex : AExit} {keep : List Nat} {c' : ACode} {g : ACode} {nt : Nat} {c : Code} (hc : cCode P G nt g c = some c') {ro : Option Nat} {m0 m : Nat} {a0 : Act} {w0 : World} {Pr0 : Nat → Nat → Prop} {σ0 : List Blk} {γ0 : List Ghost}
    (hH0 : HdsOk P U hs ys w0 Pr0 σ0 γ0) (hG0 : GOk G w0 Pr0) (hm0 : m0 ≤ w0.heap.size) (hnt : nt ≤ a0.tmps.size) (hm : σ0.length = m) : ∀ (k : Nat), (∀ j, j < k → CodeOk P G E j) → ∀ {w : World} {Pr : Nat → Nat → Prop} {γ : List Ghost} {hp : Hp} {T : Tm} {a : Act},
      aloop E k ys m keep c' T hp = some (ex, T', hp') → a.tmps.size = a0.tmps.size → FrOk ro m0 hs a w → Inv U w Pr hp.bs γ → Keeps σ0 γ0 hp.bs γ → Evo U (lsOf hs) w0 Pr0 w Pr → PendOk w hs hp.pend → TOk w Pr hp.bs γ (lsOf hs) T a.tmps →
      c.roundsIn (fenceOf ro) 0 P (CPost U ro m0 hs w0 Pr0 σ0 γ0 a0 ex T' hp') k a w
  | 0, _, w, Pr, γ, hp, T, a, hx, _, _, _, _, _, _, _ => by unfold aloop at hx; cases hx
  | k + 1, hC, w, Pr, γ, hp, T, a, hx, hsz, hF, hI, hK, hE, hP, hT => by
    unfold aloop at hx
    split at hx
    · rename_i hb
      have hI1 := hI.trunc hb.2
      have hK1 := hK.trunc (m := m) (by omega)
      have hT1 := mask_ok hT hb.1
      have hcode := hC k (Nat.lt_succ_self k) ys c' (T.mask keep) { hp with bs := hp.bs.take m }
      have hGw := hG0.mono hE.stays
      have hHw := hH0.mono hE.size hE.stays hK1
      have hmw : m0 ≤ w.heap.size := Nat.le_trans hm0 hE.size
      rw [roundsIn_succ]
      split at hx
      · rename_i T1 hp1 h1
        refine wpIn_mono (hcode _ _ _ h1 g nt c hc U ro m0 hs w Pr _ a (by rw [hsz]; exact hnt) hmw hI1 hGw hP hHw hF hT1) ?_
        rintro e a1 w1 ⟨rfl, h2, h3, Pr1, γ1, k1, k2, k3, k4, k5⟩
        exact loop_ok hc hH0 hG0 hm0 hnt hm k (fun j hj => hC j (Nat.lt_succ_of_lt hj)) hx (h2.trans hsz) h3 k1 (hK1.trans k2) (hE.trans k3) k4 k5
      · rename_i hne
        refine wpIn_mono (hcode _ _ _ hx g nt c hc U ro m0 hs w Pr _ a (by rw [hsz]; exact hnt) hmw hI1 hGw hP hHw hF hT1) ?_
        intro e a1 w1 hp1
        have h9 := CPost.trans hsz hK1 hE hp1
        have : ex ≠ .normal := fun h => by subst h; exact hne _ _ hx
        cases ex with
        | normal => exact absurd rfl this
        | exit i => obtain ⟨rfl, _⟩ := hp1; exact h9
        | ret => obtain ⟨rfl, _⟩ := hp1; exact h9
    · cases hx
end Go.Proofs.YtgajekpigkknnaaDoor.A

/- Codes: loops over iterators. No condition. -/
namespace Go.Proofs.YtgajekpigkknnaaDoor.A
open Go
variable {U : Nat → Prop} {w w' : World} {Pr Pr' : Nat → Nat → Prop} {σ σ' : List Blk} {γ γ' : List Ghost} {ls : List Nat} {P : Program} {G : Nat → Option (List AV)}
variable {ys : List Hd} {hs : List Lp} {hp hp' : Hp} {T T' : Tm}

theorem Inv.cells (h : Inv U w Pr σ γ) {j b : Nat} (hm : memB σ γ j = some b) : ∃ cs e, w.heap[b]? = some (.cells cs e (0, 0)) := by
  obtain ⟨blk, hb⟩ := A.memB_lt hm
  cases blk with
  | dead => unfold memB at hm; rw [hb] at hm; cases hm
  | box lk e row =>
    obtain ⟨gh, cs, h1, h2, _⟩ := h.box _ _ _ _ hb
    rw [memB_box hb h1] at hm; cases hm
    exact ⟨_, _, h2⟩
  | lst lk g e k rows =>
    obtain ⟨gh, vs, h1, _, _, _, h5, _⟩ := h.lst _ _ _ _ _ _ hb
    rw [memB_lst hb h1] at hm
    obtain ⟨_, ⟨_, a, hx⟩ | ⟨g', c, cur, hx, hh, _⟩⟩ := h5
    · rw [hx] at hm; cases a <;> cases hm
    · rw [hx] at hm; cases hm; exact ⟨_, _, hh⟩
theorem Evo.putLoop {l : Nat} {r : Loop} (hl : w.heap[l]? = some (.loop r)) (hU : U l) (r' : Loop) : Evo U [l] w Pr (w.putObj l (.loop r')) Pr := by
  have hg : J.Gr 0 w (w.putObj l (.loop r')) := J.Gr.putObj _ hl rfl (Nat.zero_le _)
  refine ⟨hg.os, hg.tape, hg.output, hg.size, fun b hb => World.putObj_heap_other (fun e => hb (e ▸ hU)), fun b o h1 h2 h3 => ?_, fun b i hp => ⟨hp, fun v hv => hg.cell hv⟩, fun _ _ _ h => h, Nat.le_refl _⟩
  have : b ≠ l := by simpa using h3
  exact (World.putObj_heap_other this).trans h1
theorem Inv.putLoop (h : Inv U w Pr σ γ) {l : Nat} {r : Loop} (hl : w.heap[l]? = some (.loop r)) (hU : U l) (r' : Loop) : Inv U (w.putObj l (.loop r')) Pr σ γ := by
  have hE := Evo.putLoop (Pr := Pr) hl hU r'
  refine h.world hE (fun j b hb => World.putObj_heap_other (fun e => ?_)) (fun _ _ _ _ h => h) (fun b i hp => Nat.lt_of_lt_of_le (h.old b i hp) hE.size)
  obtain ⟨cs, t, hc⟩ := h.cells hb
  rw [e, hl] at hc; cases hc
theorem putLoop_get {l : Nat} {r : Loop} (hl : w.heap[l]? = some (.loop r)) (r' : Loop) : (w.putObj l (.loop r')).heap[l]? = some (.loop r') := World.putObj_heap_same (Array.getElem?_eq_some_iff.1 hl).1

theorem setAll_ok : ∀ (ps : List Nat) {args : List AV} {vs : List Value} {T : Tm} {tm : Array Value}, TOk w Pr σ γ ls T tm → RepA w Pr σ γ ls args vs → args.length = ps.length → (∀ p ∈ ps, p < tm.size) →
    TOk w Pr σ γ ls (setAll T ps args) ((ps.zip vs).foldl (fun t (p, v) => t.setIfInBounds p v) tm) ∧ ((ps.zip vs).foldl (fun t (p, v) => t.setIfInBounds p v) tm).size = tm.size
  | [], args, vs, T, tm, hT, hA, hl, hp => by
    have : args = [] := List.eq_nil_of_length_eq_zero hl
    subst this
    exact ⟨hT, rfl⟩
  | p :: ps, [], vs, T, tm, hT, hA, hl, hp => by simp at hl
  | p :: ps, a :: args, vs, T, tm, hT, hA, hl, hp => by
    obtain ⟨v, vs', rfl, h1, h2⟩ := hA.cons_inv
    simp only [List.zip_cons_cons, List.foldl_cons]
    have h3 := hT.put (hp p (by simp)) h1
    obtain ⟨h4, h5⟩ := setAll_ok ps h3 h2 (by simpa using hl) (fun q hq => by simpa using hp q (by simp [hq]))
    exact ⟨h4, by rw [h5]; simp⟩

/-- The record of a loop. -/
def recOf (fn : FuncId) (tm : Array Value) (ps : Array Tmp) (assign body : Code) (D : Nat) : LoopState → Option Code → Loop := fun st pe => { state := st, pending := pe, fn, tmps := tm, params := ps, assign, body, defers := D }

/-- The evaluator's handler of a loop. -/
def handler (E : Env) (n : Nat) (ys : List Hd) (T : Tm) (ps : List Nat) (assign body : ACode) : Hd := fun args hp => match hp.pend[ys.length]? with
  | some none => if args.length = ps.length then match acode E n ys assign (setAll T ps args) { hp with pend := hp.pend.take ys.length } with
    | some (.normal, T1, hp1) => match acode E n ys body T1 hp1 with
      | some (.normal, _, hp') => (shrink false hp.bs.length .undef hp').map fun h' => (true, { h' with pend := h'.pend ++ none :: hp.pend.drop (ys.length + 1) })
      | some (ex, _, hp') => (shrink false hp.bs.length .undef hp').map fun h' => (false, { h' with pend := h'.pend ++ some ex :: hp.pend.drop (ys.length + 1) })
      | none => none
    | _ => none else none
  | _ => none
theorem handler_inv {E : Env} {n : Nat} {ps : List Nat} {assign body : ACode} {args : List AV} {b : Bool} (h : handler E n ys T ps assign body args hp = some (b, hp')) :
    hp.pend[ys.length]? = some none ∧ args.length = ps.length ∧ ∃ T1 hp1 ex T2 hp2 h', acode E n ys assign (setAll T ps args) { hp with pend := hp.pend.take ys.length } = some (.normal, T1, hp1) ∧ acode E n ys body T1 hp1 = some (ex, T2, hp2) ∧
      shrink false hp.bs.length .undef hp2 = some h' ∧ b = (exitCode ex).isNone ∧ hp' = { h' with pend := h'.pend ++ (if ex = .normal then none else some ex) :: hp.pend.drop (ys.length + 1) } := by
  unfold handler at h
  split at h
  · rename_i h1
    split at h
    · rename_i h2
      split at h
      · rename_i T1 hp1 h3
        split at h
        · rename_i T2 hp2 h4
          obtain ⟨h', h5, h6⟩ := Option.map_eq_some_iff.1 h
          cases h6
          exact ⟨h1, h2, T1, hp1, _, T2, hp2, h', h3, h4, h5, rfl, rfl⟩
        · rename_i ex T2 hp2 hne h4
          obtain ⟨h', h5, h6⟩ := Option.map_eq_some_iff.1 h
          cases h6
          have hex : ex ≠ .normal := fun e => by subst e; first | exact hne | exact hne rfl | exact hne _ rfl | exact hne _ _ rfl
          refine ⟨h1, h2, T1, hp1, _, T2, hp2, h', h3, h4, h5, ?_, ?_⟩
          · cases ex <;> first | rfl | exact absurd rfl hex
          · rw [if_neg hex]
        · cases h
      · cases h
    · cases h
  · cases h

theorem handler_ok {E : Env} {n : Nat} (hC : CodeOk P G E n) {ps : Array Nat} {assign body : ACode} {gA gB : ACode} {nt : Nat} {cA cB : Code} (hcA : cCode P G nt gA cA = some assign) (hcB : cCode P G nt gB cB = some body) {a : Act} (hnt : nt ≤ a.tmps.size) (hps : ∀ p ∈ ps.toList, p < nt)
    {w0 : World} {Pr0 : Nat → Nat → Prop} {σ0 : List Blk} {γ0 : List Ghost} {l : Nat} {fn D : Nat} (hUl : U l) (hl : l ∉ lsOf hs) (hG : GOk G w0 Pr0) (hH : HdsOk P U hs ys w0 Pr0 σ0 γ0) (hT : TOk w0 Pr0 σ0 γ0 (lsOf hs) T a.tmps) :
    HOk P U (hs ++ [⟨l, recOf fn a.tmps ps cA cB D⟩]) ⟨l, recOf fn a.tmps ps cA cB D⟩ (handler E n ys T ps.toList assign body) w0 Pr0 σ0 γ0 := by
  intro args hp b hp' hy w Pr γ vs hsz hSt hK hI hP hA
  obtain ⟨h1, h2, T1, hp1, ex, T2, hp2, h', h3, h4, h5, rfl, rfl⟩ := handler_inv hy
  have hylen := hH.len
  have hlen1 : (hs ++ [(⟨l, recOf fn a.tmps ps cA cB D⟩ : Lp)]).length = hs.length + 1 := by simp
  rw [hlen1] at hP ⊢
  -- the loop is ready
  have hloop : w.heap[l]? = some (.loop (recOf fn a.tmps ps cA cB D .ready none)) := by
    have := (hP.2 hs.length ⟨l, recOf fn a.tmps ps cA cB D⟩ none (by simp) (by rw [get_take' (Nat.lt_succ_self _), ← hylen]; exact h1)).1
    exact this
  have hP0 : PendOk w hs (hp.pend.take ys.length) := by
    have := hP.take hs.length
    rw [List.take_left' rfl, List.take_take, Nat.min_eq_left (Nat.le_succ _)] at this
    rw [hylen]; exact this
  have hPlen : hs.length + 1 ≤ hp.pend.length := by have := hP.1; simp at this; omega
  have hvl : vs.length = ps.size := by rw [hA.1, h2]; simp
  have hy' := run_yield (P := P) (args := vs.toArray) hloop (by simp [recOf, hvl])
  refine ⟨fn, _, cA, cB, hy', roundIn_of_wpIn trivial ?_⟩
  have hfold : ((recOf fn a.tmps ps cA cB D .ready none).params.zip vs.toArray).foldl (fun tmps (t, a) => tmps.setIfInBounds t a) (recOf fn a.tmps ps cA cB D .ready none).tmps = (ps.toList.zip vs).foldl (fun t (p, v) => t.setIfInBounds p v) a.tmps := by
    simp only [recOf]
    rw [← Array.foldl_toList, Array.toList_zip]
  rw [hfold]
  have hH1 : HdsOk P U hs ys w Pr hp.bs γ := hH.mono hsz hSt hK
  obtain ⟨hT1, hs1⟩ := setAll_ok (w := w) (Pr := Pr) (σ := hp.bs) (γ := γ) (ls := lsOf hs) ps.toList (hT.mono hSt hK (fun _ _ h => h)) (args := args) (vs := vs) ⟨hA.1, fun i a v h1 h2 => (hA.2 i a v h1 h2).up⟩ h2 (fun p hp => Nat.lt_of_lt_of_le (hps p hp) hnt)
  have hcodeA := hC ys assign (setAll T ps.toList args) { hp with pend := hp.pend.take ys.length } .normal T1 hp1 h3 gA nt cA hcA U (some l) 0 hs w Pr γ ⟨(ps.toList.zip vs).foldl (fun t (p, v) => t.setIfInBounds p v) a.tmps, []⟩ (by rw [hs1]; exact hnt) (Nat.zero_le _) hI (hG.mono hSt) hP0 hH1
    ⟨hl, _, hloop⟩ hT1
  refine wpIn_mono hcodeA ?_
  rintro e a1 w1 ⟨rfl, hz1, hF1, Pr1, γ1, k1, k2, k3, k4, k5⟩
  have hloop1 : w1.heap[l]? = some (.loop (recOf fn a.tmps ps cA cB D .ready none)) := k3.keep _ _ hloop rfl hl
  refine ⟨_, run_beginRound hloop1 rfl, ?_⟩
  obtain ⟨X, hX⟩ : ∃ X, w1.putObj l (.loop { recOf fn a.tmps ps cA cB D .ready none with state := .busy }) = X := ⟨_, rfl⟩
  rw [hX]
  have hloopX : X.heap[l]? = some (.loop { recOf fn a.tmps ps cA cB D .ready none with state := .busy }) := by rw [← hX]; exact putLoop_get hloop1 _
  have hEX : Evo U [l] w1 Pr1 X Pr1 := by rw [← hX]; exact Evo.putLoop hloop1 hUl _
  have hIX : Inv U X Pr1 hp1.bs γ1 := by rw [← hX]; exact k1.putLoop hloop1 hUl _
  have hother : ∀ {W W' : World} {r : Loop} {pend : List (Option AExit)}, W' = W.putObj l (.loop r) → PendOk W hs pend → PendOk W' hs pend := fun {W W' r pend} e hp => by
    refine ⟨hp.1, fun d k p h1 h2 => ⟨?_, (hp.2 d k p h1 h2).2⟩⟩
    have hne : k.l ≠ l := fun e' => hl (e' ▸ List.mem_map.2 ⟨k, List.mem_of_getElem? h1, rfl⟩)
    rw [e, World.putObj_heap_other hne]; exact (hp.2 d k p h1 h2).1
  have hPX : PendOk X hs hp1.pend := hother hX.symm k4
  have hSX : Stays w Pr X Pr1 := k3.stays.trans hEX.stays
  have hzX : w.heap.size ≤ X.heap.size := Nat.le_trans k3.size hEX.size
  have hcodeB := hC ys body T1 hp1 ex T2 hp2 h4 gB nt cB hcB U (some l) 0 hs X Pr1 γ1 a1 (by rw [hz1, hs1]; exact hnt) (Nat.zero_le _) hIX (hG.mono (hSt.trans hSX)) hPX (hH1.mono hzX hSX k2) ⟨hl, _, hloopX⟩ (k5.mono hEX.stays (Keeps.refl _ _) (fun _ _ h => h))
  refine wpIn_mono hcodeB ?_
  rintro e a2 w2 ⟨rfl, hz2, hF2, Pr2, γ2, j1, j2, j3, j4, j5⟩
  have hloop2 : w2.heap[l]? = some (.loop { recOf fn a.tmps ps cA cB D .ready none with state := .busy }) := j3.keep _ _ hloopX rfl hl
  have sub1 : ∀ x ∈ lsOf hs, x ∈ lsOf (hs ++ [(⟨l, recOf fn a.tmps ps cA cB D⟩ : Lp)]) := fun x hx => by simp only [lsOf, List.map_append, List.mem_append]; exact .inl hx
  have sub2 : ∀ x ∈ [l], x ∈ lsOf (hs ++ [(⟨l, recOf fn a.tmps ps cA cB D⟩ : Lp)]) := fun x hx => by simp only [lsOf, List.map_append, List.mem_append]; exact .inr (by simpa using hx)
  obtain ⟨hpend, γ3, m1, m2, _⟩ := shrink_behind (hp := hp) (hp1 := hp2) (r := .undef) (v := undef) (ls' := []) hI.len h5 j1 (k2.trans j2) (.undef _)
  have hjump : ∀ jump, jump = exitCode ex → ∃ v w', (Instr.endRound l jump).run P w2 = .ok v w' ∧ ((Ending.returned v = .returned (.bool (exitCode ex).isNone)) ∧ ∃ Pr' γ', Inv U w' Pr' h'.bs γ' ∧ Keeps hp.bs γ h'.bs γ' ∧ Evo U (lsOf (hs ++ [(⟨l, recOf fn a.tmps ps cA cB D⟩ : Lp)])) w Pr w' Pr' ∧
      PendOk w' (hs ++ [(⟨l, recOf fn a.tmps ps cA cB D⟩ : Lp)]) ((h'.pend ++ (if ex = .normal then none else some ex) :: hp.pend.drop (ys.length + 1)).take (hs.length + 1)) ∧
      (h'.pend ++ (if ex = .normal then none else some ex) :: hp.pend.drop (ys.length + 1)).drop (hs.length + 1) = hp.pend.drop (hs.length + 1)) := by
    rintro jump rfl
    refine ⟨_, _, run_endRound (P := P) (exitCode ex) hloop2, rfl, Pr2, γ3, m1.putLoop hloop2 hUl _, m2, ?_, ?_, ?_⟩
    · exact (((k3.more sub1).trans (hEX.more sub2)).trans (j3.more sub1)).trans ((Evo.putLoop hloop2 hUl _).more sub2)
    · have hpl : h'.pend.length = hs.length := by rw [hpend]; exact j4.1
      have htake : (h'.pend ++ (if ex = .normal then none else some ex) :: hp.pend.drop (ys.length + 1)).take (hs.length + 1) = h'.pend ++ [if ex = .normal then none else some ex] := by
        rw [← hpl, List.take_append, List.take_of_length_le (Nat.le_succ _), Nat.add_sub_cancel_left]; rfl
      rw [htake]
      refine ⟨by simp [hpl], fun d k p h1 h2 => ?_⟩
      by_cases hd : d < hs.length
      · rw [List.getElem?_append_left hd] at h1
        rw [List.getElem?_append_left (by omega), hpend] at h2
        exact (hother rfl j4).2 d k p h1 h2
      · have hde : d = hs.length := by have := (List.getElem?_eq_some_iff.1 h1).1; simp at this; omega
        subst hde
        simp at h1
        rw [List.getElem?_append_right (by omega), hpl, Nat.sub_self] at h2
        simp at h2
        subst h1; subst h2
        refine ⟨?_, by split <;> simp_all⟩
        rw [putLoop_get hloop2]
        cases ex <;> rfl
    · have hpl : h'.pend.length = hs.length := by rw [hpend]; exact j4.1
      rw [hylen, ← hpl, List.drop_append, List.drop_of_length_le (Nat.le_succ _), Nat.add_sub_cancel_left]; rfl
  cases ex with
  | normal => obtain ⟨v, w', q1, q2, q3⟩ := hjump none rfl; exact ⟨v, w', q1, q2, q3⟩
  | exit i => obtain ⟨v, w', q1, q2, q3⟩ := hjump (some (.exit i)) rfl; exact ⟨v, w', q1, q2, q3⟩
  | ret => obtain ⟨v, w', q1, q2, q3⟩ := hjump (some .ret) rfl; exact ⟨v, w', q1, q2, q3⟩
end Go.Proofs.YtgajekpigkknnaaDoor.A

/- Codes: the statement 'for .. := range f'. No condition. -/
namespace Go.Proofs.YtgajekpigkknnaaDoor.A
open Go
variable {U : Nat → Prop} {w w' : World} {Pr Pr' : Nat → Nat → Prop} {σ σ' : List Blk} {γ γ' : List Ghost} {ls : List Nat} {P : Program} {G : Nat → Option (List AV)}
variable {ys : List Hd} {hs : List Lp} {hp hp' : Hp} {T T' : Tm}

/-- Function f is entered by a call. -/
def Ent (P : Program) (f : FuncId) : Prop := ∀ args w, (callFunc f args).run P w = .ok (.enter f args) w
theorem FCall.calls {f : FuncId} {args : Array Value} {R : Value → World → Prop} (h : FCall P f args w R) (he : Ent P f) : Calls P f args w fun e w' => ∃ v, e = .returned v ∧ R v w' := by
  rcases h with ⟨_, h⟩ | ⟨v, w', h1, _⟩
  · exact h
  · rw [he] at h1; cases h1

theorem range_inv {E : Env} {n : Nat} {f : Opd} {ps : List Nat} {assign body : ACode} {ex : AExit} (h : acode E (n + 1) ys (.range f ps assign body) T hp = some (ex, T', hp')) :
    ∃ g caps r hp1 p h1, f.ev T = .clo g caps ∧ (E.prim g).isSome = false ∧ acall E n (ys ++ [handler E n ys T ps assign body]) g (.yld ys.length :: caps) { hp with pend := hp.pend ++ [none] } = some (r, hp1) ∧ hp1.pend[ys.length]? = some p ∧
      shrink false hp.bs.length .undef { hp1 with pend := hp1.pend.take ys.length } = some h1 ∧ T' = T ∧ hp' = h1 ∧ ex = (match p with
        | none => .normal
        | some ex => ex) := by
  unfold acode at h
  dsimp only at h
  split at h
  · rename_i g caps hf
    split at h
    · cases h
    · rename_i hpr
      split at h
      · rename_i r hp1 hc
        split at h
        · rename_i hpd
          obtain ⟨h1, h2, h3⟩ := Option.map_eq_some_iff.1 h
          cases h3
          exact ⟨g, caps, r, hp1, none, _, hf, by simpa using hpr, hc, hpd, h2, rfl, rfl, rfl⟩
        · rename_i ex' hpd
          obtain ⟨h1, h2, h3⟩ := Option.map_eq_some_iff.1 h
          cases h3
          exact ⟨g, caps, r, hp1, some _, _, hf, by simpa using hpr, hc, hpd, h2, rfl, rfl, rfl⟩
        · cases h
      · cases h
  · cases h

theorem resolve_range {a : Act} {g : Operand} {gf : Nat} {lb : Array Value} (hg : a.eval g = .func (.func gf) #[] lb) (l : Nat) (W : World) :
    (resolve a.eval (rangeCall g l) 0).run P W = .ok { target := .fn (.func gf) lb, args := #[.func (.yield l) #[] #[]] } W := J.enters_run hg l W

theorem range_ok {E : Env} {n : Nat} (hC : CodeOk P G E n) (hR : ∀ ys, CROk P G ys (acall E n ys)) (hE : ∀ f af, E.prim f = none → E.fn f = some af → Ent P f) {f : Opd} {ps : Array Nat} {assign body gA gB : ACode} {nt : Nat} {cA cB : Code} (hcA : cCode P G nt gA cA = some assign) (hcB : cCode P G nt gB cB = some body)
    {fo : Operand} (hfo : cOpd G fo = some f) (hps : ∀ p ∈ ps.toList, p < nt) {ex : AExit} (hx : acode E (n + 1) ys (.range f ps.toList assign body) T hp = some (ex, T', hp')) {ro : Option Nat} {m : Nat} {a : Act} (hnt : nt ≤ a.tmps.size) (hm : m ≤ w.heap.size)
    (hI : Inv U w Pr hp.bs γ) (hG : GOk G w Pr) (hP : PendOk w hs hp.pend) (hH : HdsOk P U hs ys w Pr hp.bs γ) (hF : FrOk ro m hs a w) (hT : TOk w Pr hp.bs γ (lsOf hs) T a.tmps) :
    (Code.rangeFunc fo ps cA cB).wpIn (fenceOf ro) 0 P (CPost U ro m hs w Pr hp.bs γ a ex T' hp') a w := by
  obtain ⟨g, caps, r, hp1, p, h1, hf, hpr, hc, hpd, hsh, rfl, rfl, hex⟩ := range_inv hx
  have hFv := cOpd_rep hG hT hfo
  rw [hf] at hFv
  obtain ⟨us, hu, hcap⟩ := clo_inv hFv
  have hent : Ent P g := by
    cases n with
    | zero => unfold acall at hc; cases hc
    | succ n =>
      unfold acall at hc
      cases hp' : E.prim g with
      | some p => rw [hp'] at hpr; cases hpr
      | none =>
        rw [hp'] at hc
        dsimp only at hc
        cases hfn : E.fn g with
        | none => rw [hfn] at hc; cases hc
        | some af => exact hE g af hp' hfn
  have hylen := hH.len
  refine wpIn_rangeFunc ?_
  intro fn _
  -- whatever the frame: a new loop, all else as it lay
  have main : ∀ (l D : Nat) (mark : List Deferred) (w1 : World), w1.heap[l]? = some (.loop (recOf fn a.tmps ps cA cB D .ready none)) → w.heap.size ≤ l → Evo U [] w Pr w1 Pr → Inv U w1 Pr hp.bs γ →
      (∀ w4 Pr4, Evo U (lsOf hs) w Pr w4 Pr4 → (∀ b o, w1.heap[b]? = some o → o.isCells = false → b ≠ l → b ∉ lsOf hs → w4.heap[b]? = some o) → FrOk ro m hs { a with defers := mark ++ a.defers } w4) →
      CallsIn (fenceOf ro) (0 - 1) P g (#[.func (.yield l) #[] #[]] ++ us.toArray) w1 (rangePost (fenceOf ro) 0 P l (CPost U ro m hs w Pr hp.bs γ a ex T' hp') { a with defers := mark ++ a.defers }) := by
    intro l D mark w1 hloop hlw hE1 hI1 hfr
    have hUl : U l := hI.new l hlw
    have hlh : l ∉ lsOf hs := fun hx => by have := hH.lt l hx; omega
    obtain ⟨L, hL⟩ : ∃ L : Lp, L = ⟨l, recOf fn a.tmps ps cA cB D⟩ := ⟨_, rfl⟩
    have hok := handler_ok (fn := fn) (D := D) hC hcA hcB hnt hps hUl hlh (hG.mono hE1.stays) (hH.mono hE1.size hE1.stays (Keeps.refl _ _)) (hT.mono hE1.stays (Keeps.refl _ _) (fun _ _ h => h))
    rw [← hL] at hok
    have hls : lsOf (hs ++ [L]) = lsOf hs ++ [l] := by simp [lsOf, hL]
    have hH1 : HdsOk P U (hs ++ [L]) (ys ++ [handler E n ys T' ps.toList assign body]) w1 Pr hp.bs γ := by
      refine ⟨by simp [hylen], ?_, ?_, ?_⟩
      · rw [hls, List.nodup_append]
        exact ⟨hH.nodup, by simp, fun x hx y hy => by simp at hy; subst hy; exact fun e => hlh (e ▸ hx)⟩
      · intro x hx
        rw [hls] at hx
        rcases List.mem_append.1 hx with hx | hx
        · exact Nat.lt_of_lt_of_le (hH.lt x hx) hE1.size
        · simp at hx; subst hx; exact (Array.getElem?_eq_some_iff.1 hloop).1
      · intro d h y h2 h3
        by_cases hd : d < hs.length
        · rw [List.getElem?_append_left hd] at h2
          rw [List.getElem?_append_left (by omega)] at h3
          rw [List.take_append_of_le_length (by omega)]
          exact (hH.ok d h y h2 h3).mono hE1.size hE1.stays (Keeps.refl _ _)
        · have hde : d = hs.length := by have := (List.getElem?_eq_some_iff.1 h2).1; simp at this; omega
          subst hde
          rw [List.take_of_length_le (by simp)]
          simp at h2
          rw [← hylen] at h3
          simp at h3
          subst h2; subst h3
          exact hok
    have hP1 : PendOk w1 (hs ++ [L]) (hp.pend ++ [none]) := by
      have h0 := hP.evo hE1
      refine ⟨by simp [h0.1], fun d h q h2 h3 => ?_⟩
      by_cases hd : d < hs.length
      · rw [List.getElem?_append_left hd] at h2
        rw [List.getElem?_append_left (by rw [h0.1]; exact hd)] at h3
        exact h0.2 d h q h2 h3
      · have hde : d = hs.length := by have := (List.getElem?_eq_some_iff.1 h2).1; simp at this; omega
        subst hde
        simp at h2
        rw [← h0.1] at h3
        simp at h3
        subst h2; subst h3
        refine ⟨?_, by simp⟩
        rw [hL]; exact hloop
    have hA : RepA w1 Pr hp.bs γ (lsOf (hs ++ [L])) (.yld ys.length :: caps) (.func (.yield l) #[] #[] :: us) := by
      refine RepA.cons (.yld _ _ ?_) ((hcap.mono hE1.stays (Keeps.refl _ _)).toA)
      rw [hls, hylen, List.getElem?_append_right (by simp [lsOf])]
      simp [lsOf]
    have hcall := (hR (ys ++ [handler E n ys T' ps.toList assign body]) g _ { hp with pend := hp.pend ++ [none] } r hp1 hc U (hs ++ [L]) w1 Pr γ _ hI1 (hG.mono hE1.stays) hP1 hH1 hA).calls hent
    have hargs : #[Value.func (.yield l) #[] #[]] ++ us.toArray = (Value.func (.yield l) #[] #[] :: us).toArray := by apply Array.toList_inj.1; simp
    rw [hargs]
    have hfin : Calls P g (Value.func (.yield l) #[] #[] :: us).toArray w1 (rangePost (fenceOf ro) 0 P l (CPost U ro m hs w Pr hp.bs γ a ex T' hp') { a with defers := mark ++ a.defers }) := by
      refine hcall.mono ?_
      rintro e w3 ⟨v, rfl, Pr3, γ3, k1, k2, k3, k4, k5⟩
      have hloop3 : w3.heap[l]? = some (.loop (L.at p)) := by
        have := (k4.2 hs.length L p (by simp) (by rw [← hylen]; exact hpd)).1
        rw [hL] at this ⊢; exact this
      have hst : (L.at p).state ≠ .busy := by rw [hL]; cases p <;> simp [Lp.at, recOf]
      have hpn : p ≠ some .normal := (k4.2 hs.length L p (by simp) (by rw [← hylen]; exact hpd)).2
      refine ⟨_, _, run_endLoop (P := P) hloop3 hst, ?_⟩
      obtain ⟨w4, hw4⟩ : ∃ w4, w3.putObj l (.loop { L.at p with state := .exhausted }) = w4 := ⟨_, rfl⟩
      rw [hw4]
      have hE4 : Evo U [l] w3 Pr3 w4 Pr3 := by rw [← hw4]; exact Evo.putLoop hloop3 hUl _
      have hI4 : Inv U w4 Pr3 hp1.bs γ3 := by rw [← hw4]; exact k1.putLoop hloop3 hUl _
      have hEall : Evo U (lsOf hs ++ [l]) w Pr w4 Pr3 := ((hE1.more (fun _ h => by cases h)).trans (by rw [hls] at k3; exact k3)).trans (hE4.more (fun x hx => by simp at hx; subst hx; simp))
      have hEw : Evo U (lsOf hs) w Pr w4 Pr3 := ⟨hEall.os, hEall.tape, hEall.output, hEall.size, hEall.same, fun b o h2 h3 h4 => hEall.keep b o h2 h3 (fun hx => by
        rcases List.mem_append.1 hx with hx | hx
        · exact h4 hx
        · simp at hx; subst hx; have := (Array.getElem?_eq_some_iff.1 h2).1; omega), hEall.stays, hEall.prot, hEall.drawn⟩
      have hP4 : PendOk w4 hs (hp1.pend.take hs.length) := by
        have h0 := k4.take hs.length
        rw [List.take_left' rfl] at h0
        refine ⟨h0.1, fun d h q h2 h3 => ⟨?_, (h0.2 d h q h2 h3).2⟩⟩
        have hne : h.l ≠ l := fun e => hlh (e ▸ List.mem_map.2 ⟨h, List.mem_of_getElem? h2, rfl⟩)
        rw [← hw4, World.putObj_heap_other hne]; exact (h0.2 d h q h2 h3).1
      obtain ⟨hpend, γ4, m1, m2, _⟩ := shrink_behind (hp := hp) (hp1 := { hp1 with pend := hp1.pend.take ys.length }) (r := .undef) (v := undef) (ls' := []) hI.len hsh hI4 k2 (.undef _)
      have hfr4 := hfr w4 Pr3 hEw (fun b o h2 h3 h4 h5 => by
        have h6 := k3.keep b o h2 h3 (by rw [hls]; simp; exact ⟨h5, h4⟩)
        rw [← hw4, World.putObj_heap_other h4]; exact h6)
      have post : CPost U ro m hs w Pr hp.bs γ a ex T' hp' (exitOf ex) { a with defers := mark ++ a.defers } w4 :=
        ⟨rfl, rfl, hfr4, Pr3, γ4, m1, m2, hEw, by rw [hpend, hylen]; exact hP4, hT.mono hEw.stays m2 (fun _ _ h => h)⟩
      have hpe : (L.at p).pending = exitCode ex := by
        rw [hex, hL]
        cases p <;> rfl
      rw [hpe]
      cases ex with
      | normal => exact post
      | exit i => exact wpIn_exit post
      | ret => exact wpIn_ret post
    cases ro with
    | none => exact J.cin hfin
    | some l0 => exact J.cinR l0 hfin
  cases ro with
  | none =>
    obtain ⟨w1, hw1⟩ : ∃ w1, (w.alloc (.deferred (some []))).alloc (.loop (recOf fn a.tmps ps cA cB w.heap.size .ready none)) = w1 := ⟨_, rfl⟩
    have hE0 : Evo U [] w Pr (w.alloc (.deferred (some []))) Pr := Evo.alloc hI.new _
    have hI0 : Inv U (w.alloc (.deferred (some []))) Pr hp.bs γ := hI.world hE0 (fun j b hb => alloc_old w _ (hI.memB_lt hb)) (fun _ _ _ _ h => h) (fun b i hp => Nat.lt_of_lt_of_le (hI.old b i hp) hE0.size)
    have hE1 : Evo U [] (w.alloc (.deferred (some []))) Pr w1 Pr := by rw [← hw1]; exact Evo.alloc hI0.new _
    have hI1 : Inv U w1 Pr hp.bs γ := hI0.world hE1 (fun j b hb => by rw [← hw1]; exact alloc_old _ _ (hI0.memB_lt hb)) (fun _ _ _ _ h => h) (fun b i hp => Nat.lt_of_lt_of_le (hI0.old b i hp) hE1.size)
    have hloop : w1.heap[w.heap.size + 1]? = some (.loop (recOf fn a.tmps ps cA cB w.heap.size .ready none)) := by
      rw [← hw1]; have := World.alloc_heap_new (w.alloc (.deferred (some []))) (.loop (recOf fn a.tmps ps cA cB w.heap.size .ready none)); rwa [World.size_alloc] at this
    have hdef : w1.heap[w.heap.size]? = some (.deferred (some [])) := by
      rw [← hw1]; exact (alloc_old _ _ (by simp)).trans (World.alloc_heap_new w _)
    refine ⟨w.heap.size + 1, [J.mark w.heap.size], w1, _, w1, g, _, w1, ?_, resolve_range hu _ _, fun _ _ => trivial, by simp [invoke, go_sem, hent _ _], fun h => (by cases h), main _ _ _ _ hloop (Nat.le_succ _) (hE0.trans hE1) hI1 ?_⟩
    · rw [← hw1]; exact run_enterLoop_outer _ _ _ _ _
    · intro w4 Pr4 hE4 hk4
      have hm4 : FrOk none m hs a w4 := hF.evo hP hE4 rfl
      refine J.Marks.more hm4 hm (hk4 _ _ hdef rfl (by omega) (fun hx => by have := hH.lt _ hx; omega)) ?_
      rintro d hd rfl
      obtain ⟨Ds, h1, h2, h3⟩ := hF
      rw [h1] at hd
      obtain ⟨D, hD, hDe⟩ := List.mem_map.1 hd
      have : D = w.heap.size := by simpa [J.mark] using hDe
      subst this
      have := (Array.getElem?_eq_some_iff.1 (h3 _ hD).2).1
      omega
  | some l0 =>
    obtain ⟨hl0, r0, hr0⟩ := hF
    obtain ⟨w1, hw1⟩ : ∃ w1, w.alloc (.loop (recOf fn a.tmps ps cA cB r0.defers .ready none)) = w1 := ⟨_, rfl⟩
    have hE1 : Evo U [] w Pr w1 Pr := by rw [← hw1]; exact Evo.alloc hI.new _
    have hI1 : Inv U w1 Pr hp.bs γ := hI.world hE1 (fun j b hb => by rw [← hw1]; exact alloc_old _ _ (hI.memB_lt hb)) (fun _ _ _ _ h => h) (fun b i hp => Nat.lt_of_lt_of_le (hI.old b i hp) hE1.size)
    have hloop : w1.heap[w.heap.size]? = some (.loop (recOf fn a.tmps ps cA cB r0.defers .ready none)) := by rw [← hw1]; exact World.alloc_heap_new w _
    refine ⟨w.heap.size, [], w1, _, w1, g, _, w1, ?_, resolve_range hu _ _, fun _ _ => trivial, by simp [invoke, go_sem, hent _ _], fun h => (by cases h), main _ _ _ _ hloop (Nat.le_refl _) hE1 hI1 ?_⟩
    · rw [← hw1]; exact run_enterLoop_inner hr0 _ _ _ _ _
    · intro w4 Pr4 hE4 _
      exact ⟨hl0, r0, hE4.keep _ _ hr0 rfl hl0⟩
end Go.Proofs.YtgajekpigkknnaaDoor.A

/- The evaluator is right. No condition. -/
namespace Go.Proofs.YtgajekpigkknnaaDoor.A
open Go
variable {U : Nat → Prop} {w w' : World} {Pr Pr' : Nat → Nat → Prop} {σ σ' : List Blk} {γ γ' : List Ghost} {ls : List Nat} {P : Program} {G : Nat → Option (List AV)}
variable {ys : List Hd} {hs : List Lp} {hp hp' : Hp} {T T' : Tm}

/-! ### A function's results -/
def Cel (w w' : World) : Prop := ∀ a v, w.cell? a = some v → w'.cell? a = some v
theorem loadVar_any {t : TypeId} {k : Nat} {agg : Bool} (hk : ksize P t = some (k, agg)) {b off : Nat} {vs : List Value} {cs : List AV} (hrep : RepL w Pr σ γ cs vs) (h1 : ∀ u ∈ vs, u.oneCell' = true) (hl : cs.length = k)
    {r : AV} (ha : asVal agg cs = some r) : ∃ v, Rep w Pr σ γ [] r v ∧ ∀ B : World, B.rangeAt b off vs → (loadVar t ⟨b, off, none⟩).run P B = .ok v B := by
  obtain ⟨hs, hg, hone⟩ := ksize_inv hk
  obtain ⟨d, hu, hd, hrun⟩ := tagg_inv hg
  rcases asVal_rep (ls := []) hrep h1 ha with ⟨rfl, h2⟩ | ⟨rfl, v, rfl, h2⟩
  · exact ⟨_, h2, fun B hr => run_loadVar_mid B b off t vs d hr hu hd (by rw [show (P.info? t).map (·.size) = tsize P t from rfl, hs, hrep.1, hl])⟩
  · refine ⟨v, h2, fun B hr => ?_⟩
    have hc : B.cell? ⟨b, off, none⟩ = some v := by have := hr 0 v rfl; simpa using this
    simp [loadVar, hrun, hc]
/-- One result. -/
def resOne (tm : Array Value) : ResultVar → Sem Value
  | .tmp t => pure (tm.getD t undef)
  | .cell a t => do loadVar t (← asAddr (tm.getD a undef))
theorem res_one (hI : Inv U w Pr σ γ) {tm : Array Value} (hT : TOk w Pr σ γ ls T tm) {rv : ResultVar} {ar : ARes} (hc : cRes P rv = some ar) {r : AV} (ha : ares T σ ar = some r) :
    ∃ v, Rep w Pr σ γ [] r v ∧ ∀ B, Cel w B → (resOne tm rv).run P B = .ok v B := by
  cases rv with
  | tmp t =>
    cases hc
    have hr := hT t
    simp only [ares] at ha
    have hne : r = T.get t ∧ (T.get t).isYld = false := by
      split at ha <;> first | (cases ha; done) | skip
      cases ha
      refine ⟨rfl, ?_⟩
      cases h : T.get t <;> first | rfl | (exfalso; simp_all)
    obtain ⟨rfl, hy⟩ := hne
    exact ⟨_, hr.base hy, fun B _ => rfl⟩
  | cell a t =>
    obtain ⟨k, hk, rfl⟩ := Option.map_eq_some_iff.1 hc
    simp only [ares] at ha
    split at ha
    · rename_i cs hcs
      obtain ⟨b, o, vs, hv, h1, h2, h3, h4⟩ := rdPtr_rep hI (hT a) hcs
      obtain ⟨v, h5, h6⟩ := loadVar_any (b := b) (off := o) (show ksize P t = some (k.1, k.2) from hk) h2 h3 h4 ha
      refine ⟨v, h5, fun B hB => ?_⟩
      simp only [resOne, hv, asAddr, pure_bind]
      exact h6 B (fun j u hj => hB _ _ (h1 j u hj))
    · cases ha
theorem res_list (hI : Inv U w Pr σ γ) {tm : Array Value} (hT : TOk w Pr σ γ ls T tm) : ∀ {rvs : List ResultVar} {ars : List ARes} {rs : List AV}, cResL P rvs = some ars → ars.mapM (ares T σ) = some rs →
    ∃ vs, RepL w Pr σ γ rs vs ∧ ∀ B, Cel w B → (rvs.mapM (resOne tm)).run P B = .ok vs B
  | [], ars, rs, hc, hm => by
    cases hc
    have := mapM_nil_inv hm; subst this
    exact ⟨[], RepL.nil, fun B _ => by simp⟩
  | rv :: rvs, ars, rs, hc, hm => by
    unfold cResL at hc
    split at hc
    · rename_i ar ars' h1 h2
      cases hc
      obtain ⟨r, rs', h3, h4, rfl⟩ := mapM_cons_inv hm
      obtain ⟨v, h5, h6⟩ := res_one hI hT h1 h3
      obtain ⟨vs, h7, h8⟩ := res_list hI hT h2 h4
      refine ⟨v :: vs, RepL.cons h5 h7, fun B hB => ?_⟩
      rw [List.mapM_cons, Sem.run_bind, h6 B hB]
      simp only [Result.andThen_ok, Sem.run_bind, h8 B hB, Sem.run_pure]
    · cases hc
theorem cResL_len : ∀ {rvs : List ResultVar} {ars : List ARes}, cResL P rvs = some ars → ars.length = rvs.length
  | [], ars, h => by cases h; rfl
  | rv :: rvs, ars, h => by
    unfold cResL at h
    split at h
    · rename_i h2; cases h; simp [cResL_len h2]
    · cases h
theorem results_eq (fn : Func) (tm : Array Value) : results fn tm = (do
    let vs ← fn.results.toList.mapM (resOne tm)
    pure (match vs with
      | [v] => v
      | vs => .tuple vs.toArray)) := by
  unfold results
  have e : (fun (x : ResultVar) => match x with
      | .tmp t => (pure (tm.getD t undef) : Sem Value)
      | .cell a t => do loadVar t (← asAddr (tm.getD a undef))) = resOne tm := by funext x; cases x <;> rfl
  rw [Array.mapM_eq_mapM_toList]
  rw [map_eq_pure_bind, bind_assoc]
  congr 1
  funext vs
  simp only [pure_bind]
  congr 1
  match vs with
  | [] => rfl
  | [v] => rfl
  | _ :: _ :: _ => rfl
theorem mapM_len {α β : Type} {f : α → Option β} : ∀ {l : List α} {r : List β}, l.mapM f = some r → r.length = l.length
  | [], r, h => by have := mapM_nil_inv h; subst this; rfl
  | a :: l, r, h => by obtain ⟨y, r', _, h4, rfl⟩ := mapM_cons_inv h; simp [mapM_len h4]
theorem results_rep (hI : Inv U w Pr σ γ) {fn : Func} {tm : Array Value} (hT : TOk w Pr σ γ ls T tm) {ars : List ARes} {r : AV} (hc : cResL P fn.results.toList = some ars) (ha : aresults ars T σ = some r) :
    ∃ v, Rep w Pr σ γ [] r v ∧ ∀ B, Cel w B → (results fn tm).run P B = .ok v B := by
  have many : ∀ {rs : List AV}, ars.length ≠ 1 → ars.mapM (ares T σ) = some rs → r = .tup rs → ∃ v, Rep w Pr σ γ [] r v ∧ ∀ B, Cel w B → (results fn tm).run P B = .ok v B := by
    rintro rs hlen hm rfl
    obtain ⟨vs, h1, h2⟩ := res_list hI hT hc hm
    refine ⟨.tuple vs.toArray, .tup rs vs h1.1 h1.2, fun B hB => ?_⟩
    rw [results_eq, Sem.run_bind, h2 B hB]
    simp only [Result.andThen_ok, Sem.run_pure]
    have : vs.length ≠ 1 := by
      have h3 : rs.length = ars.length := mapM_len hm
      rw [h1.1, h3]; exact hlen
    match vs, this with
    | [], _ => rfl
    | [v], h => exact absurd rfl h
    | _ :: _ :: _, _ => rfl
  unfold aresults at ha
  split at ha
  · rename_i ar
    have hr1 : ∃ rv, fn.results.toList = [rv] := by
      have := cResL_len hc
      match hq : fn.results.toList, this with
      | [rv], _ => exact ⟨rv, rfl⟩
    obtain ⟨rv, hrv⟩ := hr1
    rw [hrv] at hc
    unfold cResL at hc
    split at hc
    · rename_i ar' ars' h1 h2
      cases h2
      cases hc
      obtain ⟨v, h5, h6⟩ := res_one hI hT h1 ha
      refine ⟨v, h5, fun B hB => ?_⟩
      rw [results_eq, hrv, Sem.run_bind]
      rw [List.mapM_cons, List.mapM_nil, Sem.run_bind, h6 B hB]
      simp
    · cases hc
  · rename_i hne
    obtain ⟨rs, h1, h2⟩ := Option.map_eq_some_iff.1 ha
    refine many (fun hl => ?_) h1 h2.symm
    match ars, hl with
    | [ar], _ => exact hne ar rfl
end Go.Proofs.YtgajekpigkknnaaDoor.A

/- The evaluator is right: calls. No condition. -/
namespace Go.Proofs.YtgajekpigkknnaaDoor.A
open Go
variable {U : Nat → Prop} {w w' : World} {Pr Pr' : Nat → Nat → Prop} {σ σ' : List Blk} {γ γ' : List Ghost} {ls : List Nat} {P : Program} {G : Nat → Option (List AV)}
variable {ys : List Hd} {hs : List Lp} {hp hp' : Hp} {T T' : Tm}

/-- A function that is taken as told. -/
def PrimOk (P : Program) (G : Nat → Option (List AV)) (f : FuncId) (p : List AV → List Blk → Option (AV × List Blk)) : Prop :=
  ∀ args bs r bs', p args bs = some (r, bs') → ∀ U w Pr γ vs, Inv U w Pr bs γ → GOk G w Pr → RepL w Pr bs γ args vs →
    FCall P f vs.toArray w fun v w' => ∃ Pr' γ', Inv U w' Pr' bs' γ' ∧ Keeps bs γ bs' γ' ∧ Evo U [] w Pr w' Pr' ∧ Rep w' Pr' bs' γ' [] r v
/-- What the evaluator is told of functions is right. -/
structure EnvOk (P : Program) (G : Nat → Option (List AV)) (E : Env) : Prop where
  fn : ∀ f af, E.prim f = none → E.fn f = some af → ∃ fm g, P.funcs[f]? = some fm ∧ (fm.name == "runtime.NumGoroutine") = false ∧ cFunc P G g fm = some af
  prim : ∀ f p, E.prim f = some p → PrimOk P G f p

theorem ent_of {f : FuncId} {fm : Func} (hf : P.funcs[f]? = some fm) (hn : (fm.name == "runtime.NumGoroutine") = false) {c : Code} (hb : fm.body = some c) : Ent P f := by
  intro args w
  unfold callFunc
  have hn' : ¬ fm.name = "runtime.NumGoroutine" := by simpa using hn
  simp [hf, hn', hb]

theorem params_get : ∀ (args : List AV) (i t : Nat), (params i args).get t = if i ≤ t then args.getD (t - i) .undef else .undef
  | [], i, t => by simp [params, Tm.get]
  | a :: args, i, t => by
    show (if i = t then a else (params (i + 1) args).get t) = _
    by_cases h : i = t
    · subst h; simp
    · rw [if_neg h, params_get args (i + 1) t]
      by_cases h2 : i ≤ t
      · rw [if_pos h2, if_pos (by omega)]
        obtain ⟨d, hd⟩ : ∃ d, t - i = d + 1 := ⟨t - i - 1, by omega⟩
        rw [hd, show t - (i + 1) = d from by omega]
        simp
      · rw [if_neg h2, if_neg (by omega)]
theorem params_ok {args : List AV} {vs : List Value} (hA : RepA w Pr σ γ ls args vs) (n : Nat) : TOk w Pr σ γ ls (params 0 args) (vs.toArray ++ Array.replicate n undef) := by
  intro t
  rw [params_get, if_pos (Nat.zero_le _), Nat.sub_zero]
  by_cases ht : t < args.length
  · have h1 : args[t]? = some args[t] := List.getElem?_eq_getElem ht
    have ht' : t < vs.length := by rw [hA.1]; exact ht
    have h2 : vs[t]? = some vs[t] := List.getElem?_eq_getElem ht'
    rw [List.getD_eq_getElem?_getD, h1, Array.getD_eq_getD_getElem?, Array.getElem?_append_left (by simpa using ht')]
    simp only [List.getElem?_toArray, h2, Option.getD_some]
    exact hA.2 t _ _ h1 h2
  · rw [List.getD_eq_getElem?_getD, List.getElem?_eq_none (by omega)]
    exact .undef _

theorem gr_cel {n : Nat} {A B : World} (h : J.Gr n A B) : Cel A B := fun a v hc => h.cell hc
theorem gr_stays {n : Nat} {A B : World} (h : J.Gr n A B) : Stays A Pr B Pr := fun b i hp => ⟨hp, fun v hv => h.cell hv⟩
theorem Inv.gr {n : Nat} {A B : World} (h : Inv U A Pr σ γ) (hg : J.Gr n A B) (hE : Evo U ls w Pr' A Pr) (hn : n = w.heap.size) (hu : ∀ b, w.heap.size ≤ b → U b) : Inv U B Pr σ γ := by
  have hE2 : Evo (fun b => n ≤ b ∨ U b) [] A Pr A Pr := Evo.refl _ _ _ _
  have hm : ∀ as vs, RepL A Pr σ γ as vs → RepL B Pr σ γ as vs := fun as vs hh => hh.mono (gr_stays hg) (Keeps.refl _ _)
  have hc : ∀ j b, memB σ γ j = some b → B.heap[b]? = A.heap[b]? := fun j b hb => by
    obtain ⟨cs, e, hce⟩ := h.cells hb
    rw [hce]; exact hg.same _ _ hce (.inr rfl)
  refine ⟨h.len, fun id lk e row hi => ?_, fun id lk g e k rows hi => ?_, h.free, h.fix, h.inj, fun b i hp => Nat.lt_of_lt_of_le (h.old b i hp) hg.size, fun b hb => h.new b (Nat.le_trans hg.size hb)⟩
  · obtain ⟨gh, cs, h1, h2, h3, h4⟩ := h.box id lk e row hi
    exact ⟨gh, cs, h1, (hc id gh.b (memB_box hi h1)).trans h2, hm _ _ h3, h4⟩
  · obtain ⟨gh, vs, h1, h2, h3, h4, h5, h6, h7⟩ := h.lst id lk g e k rows hi
    exact ⟨gh, vs, h1, h2, h3, h4, h5.same (fun b hb => hc id b ((memB_lst hi h1).trans hb)), hm _ _ h6, h7⟩
theorem Evo.gr {A B : World} (hE : Evo U ls w Pr A Pr') (hg : J.Gr w.heap.size A B) (hu : ∀ b, w.heap.size ≤ b → U b) : Evo U ls w Pr B Pr' := by
  refine ⟨hg.os.trans hE.os, hg.tape.trans hE.tape, hg.output.trans hE.output, Nat.le_trans hE.size hg.size, fun b hb => ?_, fun b o h1 h2 h3 => ?_, hE.stays.trans (gr_stays hg), hE.prot, Nat.le_trans hE.drawn hg.drawn⟩
  · have hlt : b < w.heap.size := Nat.lt_of_not_le fun h => hb (hu b h)
    have h1 := hE.same b hb
    have h2 : A.heap[b]? = some (A.heap[b]'(Nat.lt_of_lt_of_le hlt hE.size)) := Array.getElem?_eq_getElem _
    rw [hg.same _ _ h2 (.inl hlt), ← h2, h1]
  · exact hg.same _ _ (hE.keep b o h1 h2 h3) (.inl (Array.getElem?_eq_some_iff.1 h1).1)

theorem afin_inv {rs : List ARes} {x : Option (AExit × Tm × Hp)} {r : AV} {hp' : Hp} (h : afin rs x = some (r, hp')) : ∃ ex T', x = some (ex, T', hp') ∧ (ex = .normal ∨ ex = .ret) ∧ aresults rs T' hp'.bs = some r := by
  unfold afin at h
  split at h
  · obtain ⟨q, h1, h2⟩ := Option.map_eq_some_iff.1 h
    cases h2; exact ⟨_, _, rfl, .inl rfl, h1⟩
  · obtain ⟨q, h1, h2⟩ := Option.map_eq_some_iff.1 h
    cases h2; exact ⟨_, _, rfl, .inr rfl, h1⟩
  · cases h

theorem cFunc_inv {g af : AFunc} {fm : Func} (h : cFunc P G g fm = some af) : ∃ c rs, fm.body = some c ∧ cResL P fm.results.toList = some rs ∧ cCode P G fm.ntmps g.body c = some af.body ∧ af.results = rs := by
  unfold cFunc at h
  split at h
  · rename_i c rs h1 h2
    obtain ⟨b, h3, h4⟩ := Option.map_eq_some_iff.1 h
    rw [← h4]
    exact ⟨c, rs, h1, h2, h3, rfl⟩
  · cases h

/-- A call of a function with a body. -/
theorem body_ok {E : Env} {n : Nat} (hC : CodeOk P G E n) {f : FuncId} {fm : Func} {g af : AFunc} (hf : P.funcs[f]? = some fm) (hn : (fm.name == "runtime.NumGoroutine") = false) (hc : cFunc P G g fm = some af) {args : List AV} {vs : List Value} {r : AV}
    (hx : afin af.results (acode E n ys af.body (params 0 args) hp) = some (r, hp')) (hI : Inv U w Pr hp.bs γ) (hG : GOk G w Pr) (hP : PendOk w hs hp.pend) (hH : HdsOk P U hs ys w Pr hp.bs γ) (hA : RepA w Pr hp.bs γ (lsOf hs) args vs) :
    FCall P f vs.toArray w (RPost U hs w Pr hp.bs γ r hp') := by
  obtain ⟨c, rs, hb, hr, hcode, rfl⟩ := cFunc_inv hc
  obtain ⟨ex, T', hx1, hex, hres⟩ := afin_inv hx
  refine .inl ⟨ent_of hf hn hb _ _, J.calls_marks hf hb ?_⟩
  refine wpIn_mono (hC ys af.body (params 0 args) hp ex T' hp' hx1 g.body fm.ntmps c hcode U none w.heap.size hs w Pr γ _ (by simp; omega) (Nat.le_refl _) hI hG hP hH (J.Marks.nil _ _) (params_ok hA _)) ?_
  rintro e a' A ⟨rfl, h2, h3, Pr', γ', k1, k2, k3, k4, k5⟩
  obtain ⟨v, hv, hrun⟩ := results_rep k1 k5 hr hres
  have fin : ∀ B, J.Gr w.heap.size A B → (results fm a'.tmps).run P B = .ok v B ∧ ∃ v', Ending.returned v = .returned v' ∧ RPost U hs w Pr hp.bs γ r hp' v' B := fun B hB => by
    refine ⟨hrun B (gr_cel hB), v, rfl, Pr', γ', k1.gr hB k3 rfl hI.new, k2, k3.gr hB hI.new, ⟨k4.1, fun d h p h1 h2 => ⟨?_, (k4.2 d h p h1 h2).2⟩⟩, hv.mono (gr_stays hB) (Keeps.refl _ _) (fun _ _ h => h)⟩
    exact hB.same _ _ (k4.2 d h p h1 h2).1 (.inl (hH.lt _ (List.mem_map.2 ⟨h, List.mem_of_getElem? h1, rfl⟩)))
  rcases hex with rfl | rfl
  · exact ⟨h3, v, fin⟩
  · exact ⟨h3, v, fin⟩

theorem inv_empty (hold : ∀ b i, Pr b i → b < w.heap.size) : Inv (w.heap.size ≤ ·) w Pr [] [] :=
  ⟨rfl, fun id lk e row h => by simp at h, fun id lk g e k rows h => by simp at h, fun id blk b h => by simp at h, fun id blk b h => by simp at h, fun i j b h => by simp [memB] at h, hold, fun b hb => hb⟩

theorem acall_ok {E : Env} {n : Nat} (hE : EnvOk P G E) (hC : CodeOk P G E n) (ys : List Hd) : CROk P G ys (acall E (n + 1) ys) := by
  intro f args hp r hp' hx U hs w Pr γ vs hI hG hP hH hA
  unfold acall at hx
  split at hx
  · rename_i p hp0
    split at hx
    · cases hx
    rename_i hny
    obtain ⟨q, h1, h2⟩ := Option.map_eq_some_iff.1 hx
    cases h2
    refine (hE.prim f p hp0 args hp.bs q.1 q.2 h1 U w Pr γ vs hI hG (hA.toL (by simpa using hny))).mono ?_
    rintro v w' ⟨Pr', γ', k1, k2, k3, k4⟩
    exact ⟨Pr', γ', k1, k2, k3.more (fun _ h => by cases h), hP.evo k3, k4⟩
  · rename_i hp0
    split at hx
    · rename_i af haf
      split at hx
      · obtain ⟨fm, g, hf, hn, hc⟩ := hE.fn f af hp0 haf
        exact body_ok hC hf hn hc hx hI hG hP hH hA
      · cases hx
    · cases hx

theorem acallV_ok {E : Env} {n : Nat} (hE : EnvOk P G E) (hC : CodeOk P G E n) : CVOk P G (acallV E (n + 1)) := by
  intro f args r hx w Pr vs hold hG hA
  have hI := inv_empty hold
  have out : ∀ {hp' : Hp} {r0 : AV} {fr : Bool} {v : Value} {w' : World}, RPost (w.heap.size ≤ ·) [] w Pr [] [] r0 hp' v w' → expRes fr hp'.bs r0 = some r → VPost w Pr r v w' := by
    rintro hp' r0 fr v w' ⟨Pr', γ', k1, k2, k3, k4, k5⟩ he
    obtain ⟨Pr2, h1, h2, h3⟩ := exp_res (ls := []) k1 (fun b hb => hb) k5 he
    exact ⟨Pr2, k3.trans h1, h2, h3⟩
  unfold acallV at hx
  split at hx
  · rename_i p hp0
    split at hx
    · rename_i r0 bs h1
      refine (hE.prim f p hp0 args [] r0 bs h1 _ w Pr [] vs hI hG hA).mono ?_
      rintro v w' ⟨Pr', γ', k1, k2, k3, k4⟩
      exact out (hp' := ⟨bs, []⟩) ⟨Pr', γ', k1, k2, k3, ⟨rfl, fun d h p h1 => by simp at h1⟩, k4⟩ hx
    · cases hx
  · rename_i hp0
    split at hx
    · rename_i af haf
      split at hx
      · obtain ⟨fm, g, hf, hn, hc⟩ := hE.fn f af hp0 haf
        split at hx
        · rename_i r0 hp' h1
          refine (body_ok (hp := ⟨[], []⟩) (hs := []) (ys := []) hC hf hn hc h1 hI hG ⟨rfl, fun d h p h1 => by simp at h1⟩ (HdsOk.nil _ _ _ _ _ _) hA.toA).mono ?_
          intro v w' hk
          exact out hk hx
        · cases hx
      · cases hx
    · cases hx
end Go.Proofs.YtgajekpigkknnaaDoor.A
