/- The ground of all proofs of this seat: what a step keeps of the heap; a law for a range over a function; a function's end behind such loops. No condition. -/
import Derived.RangeFuncNested
import Derived.RangeFuncBound
import Derived.RangeFuncCalls
import Derived.RangeFuncLeaves
import Derived.RangeFuncBox
import Derived.OneCell
import Derived.Below
import Derived.Deep.Draws
set_option linter.unusedVariables false
set_option linter.unusedSimpArgs false
namespace Go.Proofs.Ytabadcnpmfafnaa.J
open Go Go.RowKit

/-- All blocks of w lie in w' as they lay. -/
def Ext (w w' : World) : Prop := Below w.heap.size w w'
theorem Ext.below {w w' : World} (h : Ext w w') : Below w.heap.size w w' := h
theorem Ext.refl (w : World) : Ext w w := Below.refl _ _
theorem Ext.size {w w' : World} (h : Ext w w') : w.heap.size ≤ w'.heap.size := Below.size h
theorem Ext.trans {a b c : World} (h : Ext a b) (k : Ext b c) : Ext a c := Below.trans h (Below.mono k h.size)
theorem Ext.alloc {a w : World} (h : Ext a w) (o : Obj) : Ext a (w.alloc o) := Below.alloc h h.size o
theorem Ext.setC {a w : World} (h : Ext a w) {p : Addr} (hp : a.heap.size ≤ p.block) (u : Value) : Ext a (w.setCell p u) := Below.setCell h hp u
theorem Ext.drew {a w : World} (h : Ext a w) : Ext a w.drew := Below.drew h
theorem Ext.drewN {a w : World} (h : Ext a w) (n : Nat) : Ext a (w.drewN n) := ⟨h.os, h.tape, h.output, Ext.size (w' := w) h, h.block⟩
theorem Ext.heap {w w' : World} (h : Ext w w') {k : Nat} {o : Obj} (hk : w.heap[k]? = some o) : w'.heap[k]? = some o :=
  (h.block k (Array.getElem?_eq_some_iff.1 hk).1).trans hk
theorem Ext.cell {w w' : World} (h : Ext w w') {a : Addr} {v : Value} (hc : w.cell? a = some v) : w'.cell? a = some v :=
  (Below.cell h (World.block_lt_of_cell? w a hc)).trans hc
theorem below_ext {n : Nat} {a b c : World} (h : Below n a b) (hn : n ≤ a.heap.size) (k : Ext b c) : Below n a c := h.trans (k.mono (Nat.le_trans hn h.size))

/-- What is no cells lies as it lay. -/
def Keep0 (w w' : World) : Prop := w.heap.size ≤ w'.heap.size ∧ ∀ (k : Nat) (o : Obj), w.heap[k]? = some o → o.isCells = false → w'.heap[k]? = some o
theorem Keep0.refl (w : World) : Keep0 w w := ⟨Nat.le_refl _, fun _ _ h _ => h⟩
theorem Keep0.trans {a b c : World} (h : Keep0 a b) (k : Keep0 b c) : Keep0 a c := ⟨Nat.le_trans h.1 k.1, fun i o hi ho => k.2 i o (h.2 i o hi ho) ho⟩
theorem Ext.keep0 {w w' : World} (h : Ext w w') : Keep0 w w' := ⟨h.size, fun _ _ hk _ => h.heap hk⟩
theorem Keep0.ext {a b c : World} (h : Keep0 a b) (k : Ext b c) : Keep0 a c := h.trans k.keep0
theorem Keep0.alloc {a b : World} (h : Keep0 a b) (o : Obj) : Keep0 a (b.alloc o) := h.ext ((Ext.refl b).alloc o)
theorem Keep0.drew {a b : World} (h : Keep0 a b) : Keep0 a b.drew := h.ext (Ext.refl b).drew
theorem Keep0.drewN {a b : World} (h : Keep0 a b) (n : Nat) : Keep0 a (b.drewN n) := h.ext ((Ext.refl b).drewN n)
theorem Keep0.setCell {a b : World} (h : Keep0 a b) (p : Addr) (v : Value) : Keep0 a (b.setCell p v) :=
  h.trans ⟨by simp, fun k o hk ho => (KeepsOthers.setCell b p v).same k o hk ho⟩
theorem Keep0.grown {a b c : World} {row : Option Nat} (h : Keep0 a b) (hg : b.grownBy c row) (hrow : ∀ j, row = some j → ∃ o, b.heap[j]? = some o ∧ o.isCells = true) : Keep0 a c :=
  h.trans ⟨hg.size, fun k o hk ho => (hg.block k (Array.getElem?_eq_some_iff.1 hk).1 (fun e => by obtain ⟨o', h1, h2⟩ := hrow k e.symm; rw [hk] at h1; cases h1; rw [ho] at h2; cases h2)).trans hk⟩

/-- A step that turns, of what lies from B on, no cells. -/
structure Gr (B : Nat) (w w' : World) : Prop where
  os : w'.os = w.os
  tape : w'.tape = w.tape
  output : w'.output = w.output
  size : w.heap.size ≤ w'.heap.size
  same : ∀ (k : Nat) (o : Obj), w.heap[k]? = some o → (k < B ∨ o.isCells = true) → w'.heap[k]? = some o
theorem Gr.refl (B : Nat) (w : World) : Gr B w w := ⟨rfl, rfl, rfl, Nat.le_refl _, fun _ _ h _ => h⟩
theorem Gr.trans {B : Nat} {a b c : World} (h : Gr B a b) (k : Gr B b c) : Gr B a c :=
  ⟨k.os.trans h.os, k.tape.trans h.tape, k.output.trans h.output, Nat.le_trans h.size k.size, fun i o hi ho => k.same i o (h.same i o hi ho) ho⟩
theorem Gr.mono {B B' : Nat} {a b : World} (h : Gr B a b) (hB : B' ≤ B) : Gr B' a b := ⟨h.os, h.tape, h.output, h.size, fun k o hk ho => h.same k o hk (ho.imp (fun e => Nat.lt_of_lt_of_le e hB) id)⟩
theorem Ext.gr {a b : World} (h : Ext a b) (B : Nat) : Gr B a b := ⟨h.os, h.tape, h.output, h.size, fun _ _ hk _ => h.heap hk⟩
theorem Gr.putObj {B : Nat} {w : World} {r : Nat} {o : Obj} (o' : Obj) (h : w.heap[r]? = some o) (ho : o.isCells = false) (hB : B ≤ r) : Gr B w (w.putObj r o') :=
  ⟨rfl, rfl, rfl, by simp, fun k o'' hk hc => by
    by_cases e : k = r
    · subst e; rw [h] at hk; cases hk
      rcases hc with hc | hc
      · omega
      · rw [ho] at hc; cases hc
    · exact (World.putObj_heap_other e).trans hk⟩
theorem Gr.alloc (B : Nat) (w : World) (o : Obj) : Gr B w (w.alloc o) := ((Ext.refl w).alloc o).gr B
theorem Gr.cell {B : Nat} {w w' : World} (h : Gr B w w') {a : Addr} {v : Value} (hc : w.cell? a = some v) : w'.cell? a = some v := by
  obtain ⟨o, ho, hoc⟩ := cells_of_cell hc
  exact (World.cell?_of_block (w := w) (by rw [h.same _ _ ho (.inr hoc), ho])).trans hc
/-- Block b is a row of cells that may be written. -/
def Blk (w : World) (b : Nat) (t : TypeId) (cs : Array Value) : Prop := w.heap[b]? = some (.cells cs t (0, 0))
theorem Gr.blk {B : Nat} {w w' : World} (h : Gr B w w') {b : Nat} {t : TypeId} {cs : Array Value} (hc : Blk w b t cs) : Blk w' b t cs := h.same _ _ hc (.inr rfl)
theorem Ext.blk {w w' : World} (h : Ext w w') {b : Nat} {t : TypeId} {cs : Array Value} (hc : Blk w b t cs) : Blk w' b t cs := h.heap hc
theorem Gr.below {n B : Nat} {w0 w w' : World} (h : Gr B w w') (hn : n ≤ w0.heap.size) (hB : n ≤ B) (hb : Below n w0 w) : Below n w0 w' :=
  hb.trans ⟨h.os, h.tape, h.output, h.size, fun k hk => by
    have hlt : k < w.heap.size := Nat.lt_of_lt_of_le hk (Nat.le_trans hn hb.size)
    have he : w.heap[k]? = some w.heap[k] := Array.getElem?_eq_getElem hlt
    rw [he]; exact h.same k _ he (.inl (Nat.lt_of_lt_of_le hk hB))⟩
theorem Gr.ext {B : Nat} {w0 w w' : World} (h : Gr B w w') (hB : w0.heap.size ≤ B) (hb : Ext w0 w) : Ext w0 w' := h.below (Nat.le_refl _) hB hb
theorem Blk.new (w : World) (cs : Array Value) (t : TypeId) : Blk (w.alloc (.cells cs t)) w.heap.size t cs := World.alloc_heap_new w _
theorem Blk.lt {w : World} {b : Nat} {t : TypeId} {cs : Array Value} (h : Blk w b t cs) : b < w.heap.size := (Array.getElem?_eq_some_iff.1 h).1
theorem Blk.alloc {w : World} {b : Nat} {t : TypeId} {cs : Array Value} (h : Blk w b t cs) (o : Obj) : Blk (w.alloc o) b t cs := ((Ext.refl w).alloc o).blk h
theorem Blk.drew {w : World} {b : Nat} {t : TypeId} {cs : Array Value} (h : Blk w b t cs) : Blk w.drew b t cs := h
theorem Blk.drewN {w : World} {b : Nat} {t : TypeId} {cs : Array Value} (h : Blk w b t cs) (n : Nat) : Blk (w.drewN n) b t cs := h
theorem Blk.cell {w : World} {b : Nat} {t : TypeId} {cs : Array Value} (h : Blk w b t cs) {i : Nat} {v : Value} (hi : cs[i]? = some v) : w.cell? ⟨b, i, none⟩ = some v := by
  unfold Blk at h; simp [World.cell?, h, hi]
theorem Blk.free {w : World} {b : Nat} {t : TypeId} {cs : Array Value} (h : Blk w b t cs) (i : Nat) : w.frozen? ⟨b, i, none⟩ = false := by
  unfold Blk at h; simp [World.frozen?, h]
theorem Blk.set {w : World} {b : Nat} {t : TypeId} {cs : Array Value} (h : Blk w b t cs) (i : Nat) (v : Value) : Blk (w.setCell ⟨b, i, none⟩ v) b t (cs.setIfInBounds i v) := by
  have hlt := h.lt
  have h' : w.heap[b] = .cells cs t (0, 0) := by unfold Blk at h; simpa [Array.getElem?_eq_getElem hlt] using h
  show (w.heap.modify b _)[b]? = _
  rw [Array.getElem?_eq_getElem (by simpa using hlt), Array.getElem_modify_self, h']
  rfl
theorem Blk.other {w : World} {b : Nat} {t : TypeId} {cs : Array Value} (h : Blk w b t cs) {a : Addr} (ha : b ≠ a.block) (v : Value) : Blk (w.setCell a v) b t cs :=
  (Below.heap_setCell w a v b ha).trans h
theorem Blk.grown {w w' : World} {b : Nat} {t : TypeId} {cs : Array Value} (h : Blk w b t cs) {row : Option Nat} (hg : w.grownBy w' row) (hr : row ≠ some b) : Blk w' b t cs :=
  (hg.block b h.lt (fun e => hr e.symm)).trans h
theorem Gr.owns {B : Nat} {w w' : World} (h : Gr B w w') {base : Nat} {e : TypeId} {size : Nat} {v : Value} {n : Nat} {xs : List Value} (ho : w.ownsRow base e size v n xs) : w'.ownsRow base e size v n xs := by
  obtain ⟨h1, h2⟩ := ho
  refine ⟨h1, ?_⟩
  rcases h2 with h2 | ⟨g, cap, cur, hv, hg, hh, r⟩
  · exact Or.inl h2
  · exact Or.inr ⟨g, cap, cur, hv, hg, h.same _ _ hh (.inr rfl), r⟩
theorem Ext.owns {w w' : World} (h : Ext w w') {base : Nat} {e : TypeId} {size : Nat} {v : Value} {n : Nat} {xs : List Value} (ho : w.ownsRow base e size v n xs) : w'.ownsRow base e size v n xs := (h.gr 0).owns ho

/-! ### The fence that lets everything in -/
theorem wide_fn (f : FuncId) : Fence.wide.fn f = True := rfl
theorem wide_depth : Fence.wide.depth = none := rfl
theorem cin {P : Program} {f : FuncId} {args : Array Value} {w : World} {R : Ending → World → Prop} {n : Nat} (h : Calls P f args w R) : CallsIn Fence.wide n P f args w R := callsIn_wide.2 h
theorem cinR {P : Program} {f : FuncId} {args : Array Value} {w : World} {R : Ending → World → Prop} {n : Nat} (l : Nat) (h : Calls P f args w R) : CallsIn (Fence.wide.inRound l) n P f args w R := CallsIn.inRound l (callsIn_wide.2 h)

/-! ### An iterator's contract -/
/-- A call of yield. -/
def YieldC (P : Program) (l : Nat) (args : Array Value) (W : World) (R : Ending → World → Prop) : Prop :=
  ∃ fn tmps assign body, (Instr.yield l args).run P W = .ok (.round l fn tmps assign body) W ∧ RoundIn Fence.wide 0 P l fn tmps assign body W R

theorem YieldC.eq {P : Program} {l : Nat} {args args' : Array Value} {W : World} {R : Ending → World → Prop} (h : YieldC P l args W R) (e : args = args') : YieldC P l args' W R := e ▸ h
/-- The walk stands at a call of yield. -/
theorem upon_yield {P : Program} {o : Oper} {a : Act} {next : Act → World → Prop} {Q : Exit → Act → World → Prop} {l : Nat} {args : Array Value} {W : World} {R : Ending → World → Prop} (h : YieldC P l args W R)
    (hn : ∀ e W', R e W' → ∃ v, e = .returned v ∧ next (a.put o.dst v) W') : o.uponIn Fence.wide 0 P a next Q ((Instr.yield l args).run P W) := by
  obtain ⟨fn, tmps, assign, body, hy, hR⟩ := h
  rw [hy, Oper.uponIn_round]
  exact ⟨fun h => (by cases h), hR.mono fun e w' hr => by obtain ⟨v, rfl, hv⟩ := hn e w' hr; exact hv⟩
theorem upon_yield_in {P : Program} {o : Oper} {a : Act} {next : Act → World → Prop} {Q : Exit → Act → World → Prop} {l m : Nat} {args : Array Value} {W : World} {R : Ending → World → Prop} (h : YieldC P l args W R)
    (hn : ∀ e W', R e W' → ∃ v, e = .returned v ∧ next (a.put o.dst v) W') : o.uponIn (Fence.wide.inRound m) 0 P a next Q ((Instr.yield l args).run P W) := by
  obtain ⟨fn, tmps, assign, body, hy, hR⟩ := h
  rw [hy, Oper.uponIn_round]
  exact ⟨fun h => (by cases h), RoundIn.mono (F := Fence.wide.inRound m) hR fun e w' hr => by obtain ⟨v, rfl, hv⟩ := hn e w' hr; exact hv⟩

/-- Behind an iterator: all has come; or a round has said 'no more'. -/
def IterEnd {α : Type} (J Jx : List α → World → Prop) (xs : List α) (e : Ending) (B : World) : Prop := (∃ v, e = .returned v) ∧ (J xs B ∨ ∃ pre x post, xs = pre ++ x :: post ∧ Jx (pre ++ [x]) B)
theorem IterEnd.all {α : Type} {J Jx : List α → World → Prop} {xs pre : List α} {v : Value} {B : World} (h : xs = pre) (hj : J pre B) : IterEnd J Jx xs (.returned v) B := ⟨⟨v, rfl⟩, .inl (h ▸ hj)⟩
theorem IterEnd.part {α : Type} {J Jx : List α → World → Prop} {xs pre post : List α} {x : α} {v : Value} {B : World} (h : xs = pre ++ x :: post) (hj : Jx (pre ++ [x]) B) : IterEnd J Jx xs (.returned v) B := ⟨⟨v, rfl⟩, .inr ⟨pre, x, post, h, hj⟩⟩

/-- Called with whatever yield, where N holds all the while, function g (capturing lb) hands over xs, one by one, till a round says 'no more'. -/
def IterOf {α : Type} (P : Program) (g : Nat) (lb : Array Value) (enc : α → Array Value) (xs : List α) (N : World → Prop) : Prop :=
  ∀ (l : Nat) (J Jx : List α → World → Prop) (W : World),
    (∀ pre A B, J pre A → Gr W.heap.size A B → J pre B) → (∀ pre A B, Jx pre A → Gr W.heap.size A B → Jx pre B) →
    (∀ pre A, J pre A → N A) → J [] W →
    (∀ pre x post A, xs = pre ++ x :: post → J pre A → YieldC P l (enc x) A fun e B =>
      (e = .returned (.bool true) ∧ J (pre ++ [x]) B) ∨ (e = .returned (.bool false) ∧ Jx (pre ++ [x]) B)) →
    Calls P g (#[.func (.yield l) #[] #[]] ++ lb) W (IterEnd J Jx xs)

theorem IterOf.mono {α : Type} {P : Program} {g : Nat} {lb : Array Value} {enc : α → Array Value} {xs : List α} {N M : World → Prop} (h : IterOf P g lb enc xs N) (k : ∀ A, M A → N A) : IterOf P g lb enc xs M :=
  fun l J Jx W s1 s2 hE h0 hY => h l J Jx W s1 s2 (fun pre A hj => k A (hE pre A hj)) h0 hY

/-! ### The statement 'for .. := range f' -/
/-- How a round's body may be left. -/
def roundEnd {α : Type} (I : List α → World → Prop) (Ix : Code → List α → World → Prop) (xs : List α) (W : World) : Exit → Act → World → Prop
  | .normal, _, W' => Keep0 W W' ∧ I xs W'
  | .ret, _, W' => Keep0 W W' ∧ Ix .ret xs W'
  | .exit id, _, W' => Keep0 W W' ∧ Ix (.exit id) xs W'
  | .goto t, _, W' => Keep0 W W' ∧ Ix (.goto t) xs W'
  | .panic _, _, _ => False
  | .outgrown, _, _ => False

def mark (D : Nat) : Deferred := { target := .collected D, args := #[] }

/-- What is known between the assignment to the loop's variables and the body. -/
def roundMid (P : Program) {α : Type} (B l : Nat) (I : List α → World → Prop) (Ix : Code → List α → World → Prop) (xs : List α) (W : World) (body : Code) (a₁ : Act) (W₁ : World) : Prop :=
  Keep0 W W₁ ∧ ∃ S : World → Prop, S W₁ ∧ (∀ X Y, S X → Gr B X Y → S Y) ∧ ∀ X, (∃ r, X.heap[l]? = some (.loop r)) → S X → body.wpIn (Fence.wide.inRound l) 0 P (roundEnd I Ix xs X) a₁ X

/-- All that is no cells, but block l, lies as it lay. -/
def KeepX (l : Nat) (w w' : World) : Prop := w.heap.size ≤ w'.heap.size ∧ ∀ (k : Nat) (o : Obj), w.heap[k]? = some o → o.isCells = false → k ≠ l → w'.heap[k]? = some o

theorem range_core {P : Program} {α : Type} {ps : Array Tmp} {assign body : Code} {a : Act} {B : Nat} {fn : FuncId} {D : Nat}
    {gf : Nat} {lb : Array Value} {enc : α → Array Value} {xs : List α} {N : World → Prop} (hit : IterOf P gf lb enc xs N) (hps : ∀ x, (enc x).size = ps.size)
    (I : List α → World → Prop) (Ix : Code → List α → World → Prop)
    (sI : ∀ pre A A', I pre A → Gr B A A' → I pre A') (sIx : ∀ c pre A A', Ix c pre A → Gr B A A' → Ix c pre A')
    {l : Nat} {W1 : World} (hBl : B ≤ l) (hBW : B ≤ W1.heap.size) (rec : LoopState → Option Code → Loop)
    (hrec : rec = fun st pe => { state := st, pending := pe, fn, tmps := a.tmps, params := ps, assign, body, defers := D })
    (hL1 : W1.heap[l]? = some (.loop (rec .ready none)))
    (hI0 : I [] W1) (hIe : ∀ pre A, I pre A → N A)
    (hround : ∀ pre x post A, xs = pre ++ x :: post → I pre A → (∃ r, A.heap[l]? = some (.loop r)) →
      assign.wpIn (Fence.wide.inRound l) 0 P (Exit.then (roundMid P B l I Ix (pre ++ [x]) A body) (fun _ _ _ => False)) { tmps := (ps.zip (enc x)).foldl (fun t (p, v) => t.setIfInBounds p v) a.tmps, defers := [] } A) :
    Calls P gf (#[.func (.yield l) #[] #[]] ++ lb) W1 fun e C => (∃ v, e = .returned v) ∧
      ((I xs C ∧ KeepX l W1 C ∧ C.heap[l]? = some (.loop (rec .ready none))) ∨
       (∃ c pre x post, xs = pre ++ x :: post ∧ Ix c (pre ++ [x]) C ∧ KeepX l W1 C ∧ C.heap[l]? = some (.loop (rec .done (some c))))) := by
  have hlW : l < W1.heap.size := (Array.getElem?_eq_some_iff.1 hL1).1
  have kgr : ∀ {A C : World}, KeepX l W1 A → Gr W1.heap.size A C → KeepX l W1 C := fun h2 hgr =>
    ⟨Nat.le_trans h2.1 hgr.size, fun k o hk ho hne => hgr.same k o (h2.2 k o hk ho hne) (.inl (Array.getElem?_eq_some_iff.1 hk).1)⟩
  refine (hit l
    (fun pre W => I pre W ∧ KeepX l W1 W ∧ W.heap[l]? = some (.loop (rec .ready none)))
    (fun pre W => ∃ c, Ix c pre W ∧ KeepX l W1 W ∧ W.heap[l]? = some (.loop (rec .done (some c))))
    W1 ?_ ?_ (fun pre A h => hIe pre A h.1) ⟨hI0, ⟨Nat.le_refl _, fun _ _ h _ _ => h⟩, hL1⟩ ?_).mono ?_
  · rintro pre A C ⟨h1, h2, h3⟩ hgr
    exact ⟨sI _ _ _ h1 (hgr.mono hBW), kgr h2 hgr, hgr.same _ _ h3 (.inl hlW)⟩
  · rintro pre A C ⟨c, h1, h2, h3⟩ hgr
    exact ⟨c, sIx _ _ _ _ h1 (hgr.mono hBW), kgr h2 hgr, hgr.same _ _ h3 (.inl hlW)⟩
  · rintro pre x post A hx ⟨hi, hk0, hl⟩
    have hy := run_yield (P := P) (args := enc x) hl (by rw [hrec]; exact hps x)
    rw [hrec] at hy
    refine ⟨fn, _, assign, body, hy, roundIn_of_wpIn trivial (wpIn_mono (hround pre x post A hx hi ⟨_, hl⟩) ?_)⟩
    rintro e a₁ W₁ hmid
    cases e with
    | normal =>
      obtain ⟨hk1, S, hS, sS, hb⟩ := hmid
      have hl1 := hk1.2 _ _ hl rfl
      obtain ⟨X, hX⟩ : ∃ X, W₁.putObj l (.loop { rec .ready none with state := .busy }) = X := ⟨_, rfl⟩
      have hl2 : X.heap[l]? = some (.loop { rec .ready none with state := .busy }) := by rw [← hX]; exact World.putObj_heap_same (Array.getElem?_eq_some_iff.1 hl1).1
      have hgX : Gr B W₁ X := by rw [← hX]; exact Gr.putObj _ hl1 rfl hBl
      have hkX : KeepX l W₁ X := by rw [← hX]; exact ⟨by simp, fun k o hk ho hne => (World.putObj_heap_other hne).trans hk⟩
      refine ⟨X, by rw [← hX]; exact run_beginRound hl1 (by rw [hrec]), ?_⟩
      refine wpIn_mono (hb X ⟨_, hl2⟩ (sS _ _ hS hgX)) ?_
      have fin : ∀ (jump : Option Code) (W3 : World), Keep0 X W3 → ∃ W4, (Instr.endRound l jump).run P W3 = .ok (.bool jump.isNone) W4 ∧
          W4.heap[l]? = some (.loop (rec (if jump.isNone then .ready else .done) jump)) ∧ Gr B W3 W4 ∧ KeepX l W1 W4 := fun jump W3 hk3 => by
        have hl3 := hk3.2 _ _ hl2 rfl
        have he := run_endRound (P := P) jump hl3
        have hrr : ({ rec .ready none with state := LoopState.busy } : Loop) = rec .busy none := by rw [hrec]
        rw [hrr] at he hl3
        have hrr2 : ({ rec .busy none with state := if jump.isNone then LoopState.ready else LoopState.done, pending := jump } : Loop) = rec (if jump.isNone then .ready else .done) jump := by rw [hrec]
        rw [hrr2] at he
        refine ⟨_, he, World.putObj_heap_same (Array.getElem?_eq_some_iff.1 hl3).1, Gr.putObj _ hl3 rfl hBl, ?_⟩
        refine ⟨?_, fun k o hk ho hne => (World.putObj_heap_other hne).trans (hk3.2 k o (hkX.2 k o (hk1.2 k o (hk0.2 k o hk ho hne) ho) ho hne) ho)⟩
        have h1 := hk0.1; have h2 := hk1.1; have h3 := hkX.1; have h4 := hk3.1
        simp; omega
      rintro e a3 W3 hp
      cases e with
      | normal =>
        obtain ⟨hk3, hi3⟩ := hp
        obtain ⟨W4, hr, hl4, hg4, hk4⟩ := fin none W3 hk3
        exact ⟨_, _, hr, .inl ⟨rfl, sI _ _ _ hi3 hg4, hk4, hl4⟩⟩
      | ret =>
        obtain ⟨hk3, hi3⟩ := hp
        obtain ⟨W4, hr, hl4, hg4, hk4⟩ := fin (some .ret) W3 hk3
        exact ⟨_, _, hr, .inr ⟨rfl, _, sIx _ _ _ _ hi3 hg4, hk4, hl4⟩⟩
      | exit id =>
        obtain ⟨hk3, hi3⟩ := hp
        obtain ⟨W4, hr, hl4, hg4, hk4⟩ := fin (some (.exit id)) W3 hk3
        exact ⟨_, _, hr, .inr ⟨rfl, _, sIx _ _ _ _ hi3 hg4, hk4, hl4⟩⟩
      | goto t =>
        obtain ⟨hk3, hi3⟩ := hp
        obtain ⟨W4, hr, hl4, hg4, hk4⟩ := fin (some (.goto t)) W3 hk3
        exact ⟨_, _, hr, .inr ⟨rfl, _, sIx _ _ _ _ hi3 hg4, hk4, hl4⟩⟩
      | panic ch => exact hp.elim
      | outgrown => exact hp.elim
    | exit id => exact hmid.elim
    | goto t => exact hmid.elim
    | ret => exact hmid.elim
    | panic ch => exact hmid.elim
    | outgrown => exact hmid.elim
  · rintro e C ⟨hv, h | ⟨pre, x, post, hx, c, h1, h2, h3⟩⟩
    · exact ⟨hv, .inl h⟩
    · exact ⟨hv, .inr ⟨c, pre, x, post, hx, h1, h2, h3⟩⟩

theorem enters_run {P : Program} {a : Act} {g : Operand} {gf : Nat} {lb : Array Value} (hg : a.eval g = .func (.func gf) #[] lb) (l : Nat) (W : World) :
    (resolve a.eval (rangeCall g l) 0).run P W = .ok { target := .fn (.func gf) lb, args := #[.func (.yield l) #[] #[]] } W := by
  simp only [resolve, hg]; simp [go_sem]

theorem endLoop_of {P : Program} {C : World} {l B : Nat} {r : Loop} {jump : Option Code} (hl : C.heap[l]? = some (.loop r)) (hs : r.state ≠ .busy) (hp : r.pending = jump) (hB : B ≤ l) :
    ∃ W, (Instr.endLoop l).run P C = .ok jump W ∧ Gr B C W := ⟨_, hp ▸ run_endLoop (P := P) hl hs, Gr.putObj _ hl rfl hB⟩

/-- A loop over an iterator within a round of loop l₀. -/
theorem wp_range_in {P : Program} {α : Type} {l₀ : Nat} {g : Operand} {ps : Array Tmp} {assign body : Code} {Q : Exit → Act → World → Prop} {a : Act} {w : World}
    (hl₀ : ∃ r, w.heap[l₀]? = some (.loop r)) {gf : Nat} {lb : Array Value} (hg : a.eval g = .func (.func gf) #[] lb) (eg : ∀ args w, (callFunc gf args).run P w = .ok (.enter gf args) w)
    {enc : α → Array Value} {xs : List α} {N : World → Prop} (hit : IterOf P gf lb enc xs N) (hps : ∀ x, (enc x).size = ps.size)
    (I : List α → World → Prop) (Ix : Code → List α → World → Prop)
    (sI : ∀ pre A B, I pre A → Gr w.heap.size A B → I pre B) (sIx : ∀ c pre A B, Ix c pre A → Gr w.heap.size A B → Ix c pre B)
    (hI0 : I [] w) (hIe : ∀ pre A, I pre A → N A)
    (hround : ∀ l pre x post A, xs = pre ++ x :: post → I pre A → (∃ r, A.heap[l]? = some (.loop r)) →
      assign.wpIn (Fence.wide.inRound l) 0 P (Exit.then (roundMid P w.heap.size l I Ix (pre ++ [x]) A body) (fun _ _ _ => False)) { tmps := (ps.zip (enc x)).foldl (fun t (p, v) => t.setIfInBounds p v) a.tmps, defers := [] } A)
    (hdone : ∀ W, Keep0 w W → I xs W → Q .normal a W)
    (hstop : ∀ c pre x post W, xs = pre ++ x :: post → Keep0 w W → Ix c (pre ++ [x]) W → c.wpIn (Fence.wide.inRound l₀) 0 P Q a W) :
    (Code.rangeFunc g ps assign body).wpIn (Fence.wide.inRound l₀) 0 P Q a w := by
  obtain ⟨r₀, hl₀⟩ := hl₀
  refine wpIn_rangeFunc ?_
  intro fn hfn
  rw [Fence.inRound_round]
  obtain ⟨rec, hrec⟩ : ∃ rec : LoopState → Option Code → Loop, rec = fun st pe => { state := st, pending := pe, fn, tmps := a.tmps, params := ps, assign, body, defers := r₀.defers } := ⟨_, rfl⟩
  obtain ⟨W1, hW1⟩ : ∃ W1, w.alloc (.loop (rec .ready none)) = W1 := ⟨_, rfl⟩
  have hL1 : W1.heap[w.heap.size]? = some (.loop (rec .ready none)) := by rw [← hW1]; exact World.alloc_heap_new w _
  have hE1 : Ext w W1 := by rw [← hW1]; exact (Ext.refl w).alloc _
  have kw : ∀ {C : World}, KeepX w.heap.size W1 C → Keep0 w C := fun h => ⟨Nat.le_trans hE1.size h.1, fun k o hk ho => h.2 k o (hE1.heap hk) ho (by have := (Array.getElem?_eq_some_iff.1 hk).1; omega)⟩
  refine ⟨w.heap.size, [], W1, { target := .fn (.func gf) lb, args := #[.func (.yield w.heap.size) #[] #[]] }, W1, gf, #[.func (.yield w.heap.size) #[] #[]] ++ lb, W1, ?_, enters_run hg _ _, fun _ _ => trivial, by simp [invoke, go_sem, eg], fun h => (by cases h), ?_⟩
  · rw [← hW1, hrec]; exact run_enterLoop_inner hl₀ _ _ _ _ _
  · refine cinR l₀ ((range_core (B := w.heap.size) hit hps I Ix sI sIx (Nat.le_refl _) hE1.size rec hrec hL1 (sI _ _ _ hI0 (hE1.gr _)) hIe (fun pre x post A hx hi hl => hround _ pre x post A hx hi hl)).mono ?_)
    rintro e C ⟨⟨v, rfl⟩, (⟨hi, hk, hl⟩ | ⟨c, pre, x, post, hx, hi, hk, hl⟩)⟩
    · obtain ⟨W4, he, hg4⟩ := endLoop_of (P := P) (B := w.heap.size) (jump := none) hl (by rw [hrec]; simp) (by rw [hrec]) (Nat.le_refl _)
      refine ⟨none, _, he, ?_⟩
      exact hdone _ ⟨Nat.le_trans (kw hk).1 hg4.size, fun k o hk' ho => hg4.same k o ((kw hk).2 k o hk' ho) (.inl (Array.getElem?_eq_some_iff.1 hk').1)⟩ (sI _ _ _ hi hg4)
    · obtain ⟨W4, he, hg4⟩ := endLoop_of (P := P) (B := w.heap.size) (jump := some c) hl (by rw [hrec]; simp) (by rw [hrec]) (Nat.le_refl _)
      refine ⟨some c, _, he, ?_⟩
      exact hstop c pre x post _ hx ⟨Nat.le_trans (kw hk).1 hg4.size, fun k o hk' ho => hg4.same k o ((kw hk).2 k o hk' ho) (.inl (Array.getElem?_eq_some_iff.1 hk').1)⟩ (sIx _ _ _ _ hi hg4)

/-- The marks that loops over iterators have left, of blocks from n on. -/
def Marks (n : Nat) (ds : List Deferred) (w : World) : Prop := ∃ Ds : List Nat, ds = Ds.map mark ∧ Ds.Nodup ∧ ∀ D ∈ Ds, n ≤ D ∧ w.heap[D]? = some (.deferred (some []))
theorem Marks.nil (n : Nat) (w : World) : Marks n [] w := ⟨[], rfl, List.nodup_nil, fun _ h => by cases h⟩
theorem Marks.keep {n : Nat} {ds : List Deferred} {w w' : World} (h : Marks n ds w) (k : Keep0 w w') : Marks n ds w' :=
  let ⟨Ds, h1, h2, h3⟩ := h
  ⟨Ds, h1, h2, fun D hD => ⟨(h3 D hD).1, k.2 _ _ (h3 D hD).2 rfl⟩⟩
theorem Marks.more {n : Nat} {ds : List Deferred} {w : World} {D : Nat} (h : Marks n ds w) (hn : n ≤ D) (hD : w.heap[D]? = some (.deferred (some []))) (hne : ∀ d ∈ ds, d ≠ mark D) : Marks n (mark D :: ds) w := by
  obtain ⟨Ds, rfl, h2, h3⟩ := h
  refine ⟨D :: Ds, rfl, List.nodup_cons.2 ⟨fun hm => hne _ (List.mem_map_of_mem hm) rfl, h2⟩, ?_⟩
  rintro E (hE | ⟨_, hE⟩)
  · exact ⟨hn, hD⟩
  · exact h3 _ (by assumption)

/-- A loop over an iterator in a function's own frame. -/
theorem wp_range {P : Program} {α : Type} {n : Nat} {g : Operand} {ps : Array Tmp} {assign body : Code} {Q : Exit → Act → World → Prop} {a : Act} {w : World}
    (hn : n ≤ w.heap.size) (hm : Marks n a.defers w) {gf : Nat} {lb : Array Value} (hg : a.eval g = .func (.func gf) #[] lb) (eg : ∀ args w, (callFunc gf args).run P w = .ok (.enter gf args) w)
    {enc : α → Array Value} {xs : List α} {N : World → Prop} (hit : IterOf P gf lb enc xs N) (hps : ∀ x, (enc x).size = ps.size)
    (I : List α → World → Prop) (Ix : Code → List α → World → Prop)
    (sI : ∀ pre A B, I pre A → Gr w.heap.size A B → I pre B) (sIx : ∀ c pre A B, Ix c pre A → Gr w.heap.size A B → Ix c pre B)
    (hI0 : I [] w) (hIe : ∀ pre A, I pre A → N A)
    (hround : ∀ l pre x post A, xs = pre ++ x :: post → I pre A → (∃ r, A.heap[l]? = some (.loop r)) →
      assign.wpIn (Fence.wide.inRound l) 0 P (Exit.then (roundMid P w.heap.size l I Ix (pre ++ [x]) A body) (fun _ _ _ => False)) { tmps := (ps.zip (enc x)).foldl (fun t (p, v) => t.setIfInBounds p v) a.tmps, defers := [] } A)
    (hdone : ∀ W ds, Keep0 w W → Marks n ds W → I xs W → Q .normal { a with defers := ds } W)
    (hstop : ∀ c pre x post W ds, xs = pre ++ x :: post → Keep0 w W → Marks n ds W → Ix c (pre ++ [x]) W → c.wpIn Fence.wide 0 P Q { a with defers := ds } W) :
    (Code.rangeFunc g ps assign body).wpIn Fence.wide 0 P Q a w := by
  refine wpIn_rangeFunc ?_
  intro fn hfn
  rw [show Fence.wide.round = none from rfl]
  obtain ⟨rec, hrec⟩ : ∃ rec : LoopState → Option Code → Loop, rec = fun st pe => { state := st, pending := pe, fn, tmps := a.tmps, params := ps, assign, body, defers := w.heap.size } := ⟨_, rfl⟩
  obtain ⟨W1, hW1⟩ : ∃ W1, (w.alloc (.deferred (some []))).alloc (.loop (rec .ready none)) = W1 := ⟨_, rfl⟩
  have hL1 : W1.heap[w.heap.size + 1]? = some (.loop (rec .ready none)) := by
    rw [← hW1]; have := World.alloc_heap_new (w.alloc (.deferred (some []))) (.loop (rec .ready none)); rwa [World.size_alloc] at this
  have hK1 : W1.heap[w.heap.size]? = some (.deferred (some [])) := by
    rw [← hW1]; exact (Below.heap_alloc _ _ _ (by simp)).trans (World.alloc_heap_new w _)
  have hE1 : Ext w W1 := by rw [← hW1]; exact ((Ext.refl w).alloc _).alloc _
  have kw : ∀ {C : World}, KeepX (w.heap.size + 1) W1 C → Keep0 w C := fun h => ⟨Nat.le_trans hE1.size h.1, fun k o hk ho => h.2 k o (hE1.heap hk) ho (by have := (Array.getElem?_eq_some_iff.1 hk).1; omega)⟩
  refine ⟨w.heap.size + 1, [mark w.heap.size], W1, { target := .fn (.func gf) lb, args := #[.func (.yield (w.heap.size + 1)) #[] #[]] }, W1, gf, #[.func (.yield (w.heap.size + 1)) #[] #[]] ++ lb, W1, ?_, enters_run hg _ _, fun _ _ => trivial, by simp [invoke, go_sem, eg], fun h => (by cases h), ?_⟩
  · rw [← hW1, hrec]; exact run_enterLoop_outer _ _ _ _ _
  · refine cin ((range_core (B := w.heap.size) hit hps I Ix sI sIx (Nat.le_succ _) hE1.size rec hrec hL1 (sI _ _ _ hI0 (hE1.gr _)) hIe (fun pre x post A hx hi hl => hround _ pre x post A hx hi hl)).mono ?_)
    have mk : ∀ {C D : World}, KeepX (w.heap.size + 1) W1 C → Gr (w.heap.size + 1) C D → Keep0 w D ∧ Marks n (mark w.heap.size :: a.defers) D := fun {C D} hk hg4 => by
      have hk' : Keep0 w D := ⟨Nat.le_trans (kw hk).1 hg4.size, fun k o hk' ho => hg4.same k o ((kw hk).2 k o hk' ho) (.inl (by have := (Array.getElem?_eq_some_iff.1 hk').1; omega))⟩
      refine ⟨hk', (hm.keep hk').more hn (hg4.same _ _ (hk.2 _ _ hK1 rfl (by omega)) (.inl (by omega))) ?_⟩
      rintro d hd rfl
      obtain ⟨Ds, h1, h2, h3⟩ := hm
      rw [h1] at hd
      obtain ⟨E, hE, hEe⟩ := List.mem_map.1 hd
      have : E = w.heap.size := by simpa [mark] using hEe
      subst this
      have := (Array.getElem?_eq_some_iff.1 (h3 _ hE).2).1
      omega
    rintro e C ⟨⟨v, rfl⟩, (⟨hi, hk, hl⟩ | ⟨c, pre, x, post, hx, hi, hk, hl⟩)⟩
    · obtain ⟨W4, he, hg4⟩ := endLoop_of (P := P) (B := w.heap.size + 1) (jump := none) hl (by rw [hrec]; simp) (by rw [hrec]) (Nat.le_refl _)
      refine ⟨none, _, he, ?_⟩
      exact hdone _ _ (mk hk hg4).1 (mk hk hg4).2 (sI _ _ _ hi (hg4.mono (Nat.le_succ _)))
    · obtain ⟨W4, he, hg4⟩ := endLoop_of (P := P) (B := w.heap.size + 1) (jump := some c) hl (by rw [hrec]; simp) (by rw [hrec]) (Nat.le_refl _)
      refine ⟨some c, _, he, ?_⟩
      exact hstop c pre x post _ _ hx (mk hk hg4).1 (mk hk hg4).2 (sIx _ _ _ _ hi (hg4.mono (Nat.le_succ _)))

/-! ### A function's end behind such loops -/
/-- Whatever marks stand, the results read v and R holds, also behind steps that turn no cells. -/
def postM (P : Program) (fn : Func) (n : Nat) (R : Ending → World → Prop) : Exit → Act → World → Prop
  | .normal, a, A | .ret, a, A => Marks n a.defers A ∧ ∃ v, ∀ B, Gr n A B → (results fn a.tmps).run P B = .ok v B ∧ R (.returned v) B
  | _, _, _ => False

theorem leaves_marks {P : Program} {fn : Func} {tmps : Array Value} {n : Nat} {v : Value} {R : Ending → World → Prop} : ∀ (Ds : List Nat) (A : World), Ds.Nodup → (∀ D ∈ Ds, n ≤ D ∧ A.heap[D]? = some (.deferred (some []))) →
    (∀ B, Gr n A B → (results fn tmps).run P B = .ok v B ∧ R (.returned v) B) → LeavesInM Fence.wide 0 P fn tmps R (Ds.map mark) .returning A
  | [], A, _, _, h => ⟨v, h A (Gr.refl _ _)⟩
  | D :: Ds, A, hnd, hD, h => by
    have h1 := hD D (by simp)
    have hg : Gr n A (A.putObj D (.deferred none)) := Gr.putObj _ h1.2 rfl h1.1
    refine ⟨by simp, .inl ⟨D, _, rfl, run_takeDeferred h1.2, leaves_marks Ds _ (List.nodup_cons.1 hnd).2 ?_ (fun B hB => h B (hg.trans hB))⟩⟩
    intro E hE
    have hne : E ≠ D := fun e => (List.nodup_cons.1 hnd).1 (e ▸ hE)
    exact ⟨(hD E (by simp [hE])).1, (World.putObj_heap_other hne).trans (hD E (by simp [hE])).2⟩

theorem calls_marks {P : Program} {f : FuncId} {fn : Func} {c : Code} {args : Array Value} {w : World} {R : Ending → World → Prop} (hf : P.funcs[f]? = some fn) (hb : fn.body = some c)
    (h : c.wpIn Fence.wide 0 P (postM P fn w.heap.size R) { tmps := args ++ Array.replicate (fn.ntmps - args.size) undef, defers := [] } w) : Calls P f args w R := by
  refine callsIn_wide.1 (callsIn_of_wp_marks (n := 0) hf hb trivial (wpIn_mono h ?_))
  rintro e a A hp
  cases e with
  | normal => obtain ⟨⟨Ds, h1, h2, h3⟩, v, hv⟩ := hp; show LeavesInM _ _ _ _ _ _ _ _ _; rw [h1]; exact leaves_marks Ds A h2 h3 hv
  | ret => obtain ⟨⟨Ds, h1, h2, h3⟩, v, hv⟩ := hp; show LeavesInM _ _ _ _ _ _ _ _ _; rw [h1]; exact leaves_marks Ds A h2 h3 hv
  | exit id => exact hp.elim
  | goto t => exact hp.elim
  | panic ch => exact hp.elim
  | outgrown => exact hp.elim
end Go.Proofs.Ytabadcnpmfafnaa.J
