/- Slices of elements of several cells: rows of a call's own; append; how they read. No condition. -/
import Derived.Test.YtabadcnpmfafnaaRd
import Derived.Test.YtabadcnpmfafnaaQx
import Derived.Laws.OwnMore
import Derived.Deep.RegionLaw
import Derived.OwnWalk
import Derived.OwnWalkIn
import Derived.Laws.Slices
set_option linter.unusedVariables false
set_option linter.unusedSimpArgs false
namespace Go.Proofs.Ytabadcnpmfafnaa.J
open Go Go.RowKit

theorem eql_slice_nil {P : Program} {t e : TypeId} (h : P.underlying t = some (.slice e)) (w : World) (a : Option Addr) (n c : Nat) : (binOp .eql t (.slice a n c) (.slice none 0 0)).run P w = .ok (.bool a.isNone) w := by
  have key : ∀ d, (Op.equalIn (d + 1) t (.slice a n c) (.slice none 0 0)).run P w = .ok a.isNone w := fun d => by
    cases a <;> simp [Op.equalIn, run_underlying h]
  simp [binOp, Op.equal, Op.maxDepth, key 9999]

structure ElemT (P : Program) (t e : TypeId) (k : Nat) (z : Value) (bytes : Nat) : Prop where
  ht : P.underlying t = some (.slice e)
  info : (P.info? e).map (fun i => (i.zero, i.size, i.bytes)) = some (some z, k, bytes)
  zs : z.cells.size = k
  pos : 0 < k

theorem flat_get {k : Nat} : ∀ {css : List (List Value)}, (∀ c ∈ css, c.length = k) → ∀ {i : Nat} {c : List Value}, css[i]? = some c → ∀ {j : Nat} {u : Value}, c[j]? = some u → css.flatten[i * k + j]? = some u
  | [], _, i, c, h, _, _, _ => by simp at h
  | d :: css, hk, i, c, h, j, u, hj => by
    have hd := hk d (by simp)
    cases i with
    | zero =>
      simp at h; subst h
      have hlt := (List.getElem?_eq_some_iff.1 hj).1
      simp only [Nat.zero_mul, Nat.zero_add, List.flatten_cons]
      rw [List.getElem?_append_left hlt]; exact hj
    | succ i =>
      have := flat_get (css := css) (fun c hc => hk c (List.mem_cons_of_mem _ hc)) (i := i) (c := c) (by simpa using h) hj
      rw [List.flatten_cons, List.getElem?_append_right (by rw [hd, Nat.succ_mul]; omega), hd, show (i + 1) * k + j - k = i * k + j from by rw [Nat.succ_mul]; omega]
      exact this
theorem flat_len {k : Nat} : ∀ {css : List (List Value)}, (∀ c ∈ css, c.length = k) → css.flatten.length = css.length * k
  | [], _ => by simp
  | d :: css, hk => by
    rw [List.flatten_cons, List.length_append, flat_len (css := css) (fun c hc => hk c (List.mem_cons_of_mem _ hc)), hk d (by simp), List.length_cons, Nat.succ_mul]; omega

/-- Value v is a slice of the call's own (from block base on), of these elements. -/
def OwnL (w : World) (base : Nat) (e : TypeId) (k : Nat) (v : Value) (css : List (List Value)) : Prop :=
  w.ownsRow base e k v css.length css.flatten ∧ ∀ c ∈ css, c.length = k
theorem OwnL.nil (w : World) (base : Nat) (e : TypeId) (k : Nat) : OwnL w base e k (.slice none 0 0) [] := ⟨World.ownsRow_nil w base e k, fun c hc => by cases hc⟩
section
variable {w w' : World} {base : Nat} {e : TypeId} {k : Nat} {v : Value} {css : List (List Value)}
theorem OwnL.ext (h : OwnL w base e k v css) (he : Ext w w') : OwnL w' base e k v css := ⟨he.owns h.1, h.2⟩
theorem OwnL.gr {B : Nat} (h : OwnL w base e k v css) (he : Gr B w w') : OwnL w' base e k v css := ⟨he.owns h.1, h.2⟩
theorem OwnL.base_le (h : OwnL w base e k v css) : ∀ g, v.ownBlock = some g → base ≤ g ∧ g < w.heap.size := h.1.lt
theorem OwnL.rebase (h : OwnL w base e k v css) {base' : Nat} (hb : base' ≤ base) : OwnL w base' e k v css := by
  obtain ⟨⟨h1, h2⟩, h3⟩ := h
  refine ⟨⟨h1, ?_⟩, h3⟩
  rcases h2 with h2 | ⟨g, cap, cur, a, b, c⟩
  · exact .inl h2
  · exact .inr ⟨g, cap, cur, a, Nat.le_trans hb b, c⟩
theorem OwnL.form (h : OwnL w base e k v css) : ∃ a c, v = .slice a css.length c ∧ css.length ≤ c ∧ c ≤ maxLen := by
  rcases h.1.2 with ⟨h1, h2⟩ | ⟨g, cap, cur, h1, h2, h3, h4, h5, _⟩
  · exact ⟨none, 0, by rw [h1, h2], by omega, Nat.zero_le _⟩
  · exact ⟨_, cap, h1, h4, h5⟩
theorem OwnL.form' (h : OwnL w base e k v css) : ∃ a n c, v = .slice a n c := by obtain ⟨a, c, h, _⟩ := h.form; exact ⟨a, _, c, h⟩
theorem OwnL.slc {a : Option Addr} {n c : Nat} (h : OwnL w base e k (.slice a n c) css) : SlC w k a css := by
  intro i cs hi
  refine ⟨h.2 cs (List.mem_of_getElem? hi), ?_⟩
  rcases h.1.2 with ⟨h1, h2⟩ | ⟨g, cap, cur, h1, h2, h3, h4, h5, h6, h7⟩
  · have : css = [] := List.eq_nil_of_length_eq_zero h2
    subst this; simp at hi
  · cases h1
    refine ⟨g, 0, rfl, fun j u hj => ?_⟩
    have := h.1.cells (g := g) rfl (i * k + j) u (flat_get h.2 hi hj)
    rw [add_eq] at this
    rw [show 0 + i * k + j = 0 + (i * k + j) from by omega]; exact this
/-- Behind an append of the call's own. -/
theorem OwnL.grown {row : Option Nat} (h : OwnL w base e k v css) (hg : w.grownBy w' row) (hne : v.ownBlock = none ∨ v.ownBlock ≠ row) : OwnL w' base e k v css := ⟨h.1.kept hg hne, h.2⟩
theorem OwnL.other (h : OwnL w base e k v css) {a : Addr} (ha : v.ownBlock ≠ some a.block) (u : Value) : OwnL (w.setCell a u) base e k v css := ⟨ownsRow_setCell_other h.1 ha u, h.2⟩
theorem OwnL.alloc (h : OwnL w base e k v css) (o : Obj) : OwnL (w.alloc o) base e k v css := h.ext ((Ext.refl w).alloc o)
theorem OwnL.isCells (h : OwnL w base e k v css) : ∀ j, v.ownBlock = some j → ∃ o, w.heap[j]? = some o ∧ o.isCells = true := by
  intro j hj
  rcases h.1.2 with ⟨h1, h2⟩ | ⟨g, cap, cur, h1, h2, h3, _⟩
  · subst h1; simp [Value.ownBlock] at hj
  · subst h1; simp [Value.ownBlock] at hj; subst hj; exact ⟨_, h3, rfl⟩
end

/-- What grows by an append of the call's own, of what was there ahead. -/
theorem below_own {n : Nat} {w0 w w' : World} {base : Nat} {e : TypeId} {k : Nat} {v : Value} {css : List (List Value)} (h : Below n w0 w) (hn : n ≤ w.heap.size) (ho : OwnL w base e k v css) (hb : n ≤ base) (hg : w.grownBy w' v.ownBlock) : Below n w0 w' :=
  h.grown hg hn (fun j hj => Nat.le_trans hb (ho.base_le j hj).1)
theorem ext_own {w0 w w' : World} {base : Nat} {e : TypeId} {k : Nat} {v : Value} {css : List (List Value)} (h : Ext w0 w) (ho : OwnL w base e k v css) (hb : w0.heap.size ≤ base) (hg : w.grownBy w' v.ownBlock) : Ext w0 w' :=
  below_own h h.size ho hb hg
theorem Keep0.own {w0 w w' : World} {base : Nat} {e : TypeId} {k : Nat} {v : Value} {css : List (List Value)} (h : Keep0 w0 w) (ho : OwnL w base e k v css) (hg : w.grownBy w' v.ownBlock) : Keep0 w0 w' := h.grown hg ho.isCells

theorem run_append_l_none {P : Program} {W : World} {t e : TypeId} {k : Nat} {z : Value} {bytes : Nat} (T : ElemT P t e k z bytes) (ty : TypeId) (base : Nat) {v : Value} {css : List (List Value)} (ho : OwnL W base e k v css) (c : Nat) :
    (Builtin.append_ #[t, t] ty #[v, .slice none 0 c]).run P W = .ok v W := by
  obtain ⟨i, hi, hz⟩ := Option.map_eq_some_iff.1 T.info
  rcases ho.1.2 with ⟨rfl, h⟩ | ⟨g, cap, cur, rfl, _, _, hnc, _⟩
  · simp [Builtin.append_, run_underlying T.ht, sizeOf, typeInfo, hi, Builtin.lenOf, Builtin.firstCells]
  · simp [Builtin.append_, run_underlying T.ht, sizeOf, typeInfo, hi, Builtin.lenOf, Builtin.firstCells, hnc, storeCells]

theorem run_append_l {P : Program} {W : World} {t e : TypeId} {k : Nat} {z : Value} {bytes : Nat} (T : ElemT P t e k z bytes) (ty : TypeId) (base : Nat) {v : Value} {css : List (List Value)} (ho : OwnL W base e k v css)
    {A : Option Addr} {c : Nat} {news : List (List Value)} (hn : SlC W k A news) (h1 : ∀ cs ∈ news, ∀ u ∈ cs, u.oneCell' = true) (hb : (css.length + news.length) * bytes ≤ 140737488355328) (hbb : 0 < bytes) (hbase : base ≤ W.heap.size) :
    ∃ v' W', (Builtin.append_ #[t, t] ty #[v, .slice A news.length c]).run P W = .ok v' W' ∧ OwnL W' base e k v' (css ++ news) ∧ W.grownBy W' v.ownBlock := by
  obtain ⟨i, hi, hz⟩ := Option.map_eq_some_iff.1 T.info
  simp only [Prod.mk.injEq] at hz
  obtain ⟨hz0, hz1, hz2⟩ := hz
  have hnl : ∀ c ∈ news, c.length = k := fun c hc => by obtain ⟨j, hj⟩ := List.mem_iff_getElem?.1 hc; exact (hn j c hj).1
  have hlen : css.length + news.length ≤ maxLen := by
    have : css.length + news.length ≤ (css.length + news.length) * bytes := Nat.le_mul_of_pos_right _ hbb
    simp only [maxLen]; omega
  cases A with
  | none =>
    have hnil : news = [] := by
      cases news with
      | nil => rfl
      | cons c r => obtain ⟨_, b, o, h2, _⟩ := hn 0 c rfl; cases h2
    subst hnil
    exact ⟨v, W, run_append_l_none T ty base ho c, by simpa using ho, ⟨rfl, rfl, rfl, Nat.le_refl _, fun _ _ _ => rfl⟩⟩
  | some a =>
    have hnews : ∀ j u, news.flatten[j]? = some u → W.cell? (a.add j) = some u := by
      intro j u hj
      have hpos := T.pos
      have hjl : j < news.length * k := by rw [← flat_len hnl]; exact (List.getElem?_eq_some_iff.1 hj).1
      have hq : j / k < news.length := (Nat.div_lt_iff_lt_mul hpos).2 hjl
      have hr : j % k < k := Nat.mod_lt _ hpos
      have hcl := hnl (news[j / k]) (List.getElem_mem hq)
      obtain ⟨_, b, o, h2, h3⟩ := hn (j / k) (news[j / k]) (List.getElem?_eq_getElem hq)
      have hu : (news[j / k])[j % k]? = some ((news[j / k])[j % k]'(by omega)) := List.getElem?_eq_getElem (by omega)
      have h4 := h3 _ _ hu
      have h5 := flat_get hnl (List.getElem?_eq_getElem hq) hu
      have hdm : j / k * k + j % k = j := by rw [Nat.mul_comm]; exact Nat.div_add_mod j k
      rw [hdm, hj] at h5
      cases h2
      rw [add_eq, show o + j = o + j / k * k + j % k from by omega, h4, ← h5]
    have hone : ∀ u ∈ news.flatten, u.oneCell' = true := by
      intro u hu
      obtain ⟨c, hc, hu⟩ := List.mem_flatten.1 hu
      exact h1 c hc u hu
    obtain ⟨v', W', r1, r2, r3, _⟩ := run_append_own (P := P) W base t ty e i z k bytes T.ht hi hz0 hz1 hz2 T.zs T.pos v css.length css.flatten ho.1 a news.length c news.flatten (flat_len hnl) hnews hone hlen hb hbase
    refine ⟨v', W', r1, ⟨by rw [List.flatten_append, List.length_append]; exact r2, fun c hc => (List.mem_append.1 hc).elim (ho.2 c) (hnl c)⟩, r3⟩

/-- The walk stands at 'append(s, x...)', s of the call's own. -/
theorem wpl_append {P : Program} {W : World} {ops : Array Oper} {rest : List Oper} {o : Oper} {a : Act} {Q : Exit → Act → World → Prop} (hg : o.guard = none) (s x : Operand) (t : TypeId)
    (hop : o.op = .call { callee := .builtin .append, args := #[s, x], argTypes := #[t, t] }) {e : TypeId} {k : Nat} {z : Value} {bytes : Nat} (T : ElemT P t e k z bytes) (base : Nat) {v : Value} {css : List (List Value)}
    (hs : a.eval s = v) (ho : OwnL W base e k v css) {A : Option Addr} {n c : Nat} {news : List (List Value)} (hx : a.eval x = .slice A n c) (hnl : n = news.length) (hn : SlC W k A news) (h1 : ∀ cs ∈ news, ∀ u ∈ cs, u.oneCell' = true)
    (hb : (css.length + news.length) * bytes ≤ 140737488355328) (hbb : 0 < bytes) (hbase : base ≤ W.heap.size)
    (h : ∀ v' W', OwnL W' base e k v' (css ++ news) → W.grownBy W' v.ownBlock → wpList P ops Q rest (a.put o.dst v') W') : wpList P ops Q (o :: rest) a W := by
  subst hnl
  refine wpList_plain hg fun K hK => ?_
  obtain ⟨v', W', r1, r2, r3⟩ := run_append_l T o.type base ho (c := c) hn h1 hb hbb hbase
  unfold Oper.wp
  simp [execOp, hop, resolve, invoke, builtin, hs, hx, r1, Result.andThen]
  exact hK _ _ (h v' W' r2 r3)
theorem wplIn_append {F : Fence} {m : Nat} {P : Program} {W : World} {ops : Array Oper} {rest : List Oper} {o : Oper} {a : Act} {Q : Exit → Act → World → Prop} (hg : o.guard = none) (s x : Operand) (t : TypeId)
    (hop : o.op = .call { callee := .builtin .append, args := #[s, x], argTypes := #[t, t] }) {e : TypeId} {k : Nat} {z : Value} {bytes : Nat} (T : ElemT P t e k z bytes) (base : Nat) {v : Value} {css : List (List Value)}
    (hs : a.eval s = v) (ho : OwnL W base e k v css) {A : Option Addr} {n c : Nat} {news : List (List Value)} (hx : a.eval x = .slice A n c) (hnl : n = news.length) (hn : SlC W k A news) (h1 : ∀ cs ∈ news, ∀ u ∈ cs, u.oneCell' = true)
    (hb : (css.length + news.length) * bytes ≤ 140737488355328) (hbb : 0 < bytes) (hbase : base ≤ W.heap.size)
    (h : ∀ v' W', OwnL W' base e k v' (css ++ news) → W.grownBy W' v.ownBlock → wpListIn F m P ops Q rest (a.put o.dst v') W') : wpListIn F m P ops Q (o :: rest) a W := by
  subst hnl
  refine wpListIn_plain hg fun K hK => ?_
  obtain ⟨v', W', r1, r2, r3⟩ := run_append_l T o.type base ho (c := c) hn h1 hb hbb hbase
  unfold Oper.wpIn
  refine ⟨?_, ?_⟩
  · simp [Oper.about, hop, resolve, Target.leads, Sem.run_pure]
  · rw [Oper.semAt_plain F _ _ (by rw [hop]; intro c hc'; cases hc')]
    simp [execOp, hop, resolve, invoke, builtin, hs, hx, r1, Result.andThen]
    exact hK _ _ (h v' W' r2 r3)
/-- One element that a literal has just laid. -/
theorem slc_new {W : World} {g : Nat} {t : TypeId} {cs : List Value} (h : Blk W g t cs.toArray) : SlC W cs.length (some ⟨g, 0, none⟩) [cs] := by
  intro i c hi
  cases i with
  | zero => simp at hi; subst hi; exact ⟨rfl, g, 0, rfl, fun j u hj => by rw [show 0 + 0 * cs.length + j = j from by omega]; exact h.cell (by simpa using hj)⟩
  | succ i => simp at hi
end Go.Proofs.Ytabadcnpmfafnaa.J
