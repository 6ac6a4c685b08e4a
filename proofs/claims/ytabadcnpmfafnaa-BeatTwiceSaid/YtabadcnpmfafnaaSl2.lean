/- Writing a cell of a row of the call's own. No condition. -/
import Derived.Test.YtabadcnpmfafnaaSl
set_option linter.unusedVariables false
set_option linter.unusedSimpArgs false
namespace Go.Proofs.Ytabadcnpmfafnaa.J
open Go Go.RowKit

theorem flat_set {k : Nat} : ∀ {css : List (List Value)}, (∀ c ∈ css, c.length = k) → ∀ {i : Nat} {c : List Value}, css[i]? = some c → ∀ {j : Nat}, j < k → ∀ u, css.flatten.set (i * k + j) u = (css.set i (c.set j u)).flatten
  | [], _, i, c, h, _, _, _ => by simp at h
  | d :: css, hk, i, c, h, j, hj, u => by
    have hd := hk d (by simp)
    cases i with
    | zero =>
      simp at h; subst h
      simp only [Nat.zero_mul, Nat.zero_add, List.flatten_cons, List.set_cons_zero]
      rw [List.set_append_left _ _ (by omega)]
    | succ i =>
      have := flat_set (css := css) (fun c hc => hk c (List.mem_cons_of_mem _ hc)) (i := i) (c := c) (by simpa using h) hj u
      rw [List.flatten_cons, List.set_append_right _ _ (by rw [hd, Nat.succ_mul]; omega), hd, show (i + 1) * k + j - k = i * k + j from by rw [Nat.succ_mul]; omega, this]
      simp

theorem OwnL.put {w : World} {base : Nat} {e : TypeId} {k n c g o : Nat} {css : List (List Value)} (h : OwnL w base e k (.slice (some ⟨g, o, none⟩) n c) css) {i : Nat} {cs : List Value} (hi : css[i]? = some cs) {j : Nat} (hj : j < k) (u : Value) {p : Nat} (hp : p = o + i * k + j) :
    OwnL (w.setCell ⟨g, p, none⟩ u) base e k (.slice (some ⟨g, o, none⟩) n c) (css.set i (cs.set j u)) := by
  obtain ⟨⟨h1, h2⟩, h3⟩ := h
  have hcs := h3 cs (List.mem_of_getElem? hi)
  have hlt := (List.getElem?_eq_some_iff.1 hi).1
  rcases h2 with ⟨h2, _⟩ | ⟨g', cap, cur, a, hb, hh, h4, h5, h6, h7⟩
  · cases h2
  · cases a
    have hp' : p = i * k + j := by omega
    subst hp'
    have hbound : i * k + j < css.length * k := by
      have : (i + 1) * k ≤ css.length * k := Nat.mul_le_mul_right _ hlt
      rw [Nat.succ_mul] at this; omega
    refine ⟨⟨?_, .inr ⟨_, _, cur.setIfInBounds (i * k + j) u, by rw [List.length_set], hb, Blk.set hh _ _, by simpa using h4, h5, by simpa using h6, ?_⟩⟩, ?_⟩
    · rw [← flat_set h3 hi hj, List.length_set, h1, List.length_set]
    · rw [← flat_set h3 hi hj, ← h7, List.length_set]
      simp [List.take_set]
    · intro c' hc'
      rcases List.mem_or_eq_of_mem_set hc' with hc' | rfl
      · exact h3 c' hc'
      · simpa using hcs
theorem OwnL.spot {w : World} {base : Nat} {e : TypeId} {k n c : Nat} {a : Option Addr} {css : List (List Value)} (h : OwnL w base e k (.slice a n c) css) {i : Nat} {cs : List Value} (hi : css[i]? = some cs) : ∃ g, a = some ⟨g, 0, none⟩ ∧ base ≤ g ∧ g < w.heap.size ∧ n = css.length ∧ ∀ o, w.frozen? ⟨g, o, none⟩ = false := by
  have hlt := (List.getElem?_eq_some_iff.1 hi).1
  have hb := h.base_le
  obtain ⟨⟨h1, h2⟩, h3⟩ := h
  rcases h2 with ⟨h2, h4⟩ | ⟨g', cap, cur, a, hb', hh, h4, h5, h6, h7⟩
  · omega
  · cases a
    exact ⟨g', rfl, hb', (hb g' rfl).2, rfl, fun o => Blk.free hh o⟩
/-- Rows of more cells than a block has do not lie in it. -/
theorem SlC.far {w : World} {k : Nat} {a : Option Addr} {css : List (List Value)} (h : SlC w k a css) {B : Nat} {t : TypeId} {cs : Array Value} (hB : Blk w B t cs) (hk : cs.size < k) (o : Nat) (u : Value) : SlC (w.setCell ⟨B, o, none⟩ u) k a css := by
  intro i c hi
  obtain ⟨h1, b, o', h2, h3⟩ := h i c hi
  refine ⟨h1, b, o', h2, fun j v hj => ?_⟩
  have hne : b ≠ B := by
    rintro rfl
    have h4 := h3 (k - 1) (c[k - 1]'(by omega)) (by rw [List.getElem?_eq_getElem])
    unfold Blk at hB
    simp only [World.cell?, hB] at h4
    rw [Array.getElem?_eq_none (by omega)] at h4
    cases h4
  exact (World.cell?_of_block (Below.heap_setCell w ⟨B, o, none⟩ u _ hne)).trans (h3 j v hj)
/-- append in a region that draws its order. -/
theorem step_append_l {P : Program} {W : World} {ops : Array Oper} {o : Oper} {a : Act} {K : Act → World → Prop} {Q : Exit → Act → World → Prop} {E : Prop} (hg : o.guard = none) (s x : Operand) (t : TypeId)
    (hop : o.op = .call { callee := .builtin .append, args := #[s, x], argTypes := #[t, t] }) {e : TypeId} {k : Nat} {z : Value} {bytes : Nat} (T : ElemT P t e k z bytes) (base : Nat) {v : Value} {css : List (List Value)}
    (hs : a.eval s = v) (ho : OwnL W base e k v css) {A : Option Addr} {n c : Nat} {news : List (List Value)} (hx : a.eval x = .slice A n c) (hnl : n = news.length) (hn : SlC W k A news) (h1 : ∀ cs ∈ news, ∀ u ∈ cs, u.oneCell' = true)
    (hb : (css.length + news.length) * bytes ≤ 140737488355328) (hbb : 0 < bytes) (hbase : base ≤ W.heap.size)
    (h : ∀ v' W', OwnL W' base e k v' (css ++ news) → W.grownBy W' v.ownBlock → K (a.put o.dst v') W') : if Region.wanted o (yielded ops a.tmps) = true then Oper.wp P o a W K Q else E := by
  subst hnl
  rw [if_pos (by simp [Region.wanted, hg])]
  obtain ⟨v', W', r1, r2, r3⟩ := run_append_l T o.type base ho (c := c) hn h1 hb hbb hbase
  unfold Oper.wp
  simp [execOp, hop, resolve, invoke, builtin, hs, hx, r1, Result.andThen]
  exact h v' W' r2 r3
end Go.Proofs.Ytabadcnpmfafnaa.J
