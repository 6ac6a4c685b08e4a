/- How arguments of whole numbers, bools, and structs, arrays and slices of these read: the cells that a reading meets. No condition. -/
import Derived.Test.YtabadcnpmfafnaaCore
import Derived.ProofKit
import Derived.OpenShut
set_option linter.unusedVariables false
set_option linter.unusedSimpArgs false
namespace Go.Proofs.Ytabadcnpmfafnaa.J
open Go Go.RowKit

/-- The kind of a cell. -/
inductive CK where
  | i (k : IntKind)
  | b
def CK.fits : CK → Value → Prop
  | .i k, v => ∃ n, v = .int k n ∧ (Lit.int k n).wf = true
  | .b, v => ∃ x, v = .bool x
def Fits : List CK → List Value → Prop
  | [], [] => True
  | k :: ks, c :: cs => k.fits c ∧ Fits ks cs
  | _, _ => False
theorem Fits.append : ∀ {k1 k2 : List CK} {c1 c2 : List Value}, Fits k1 c1 → Fits k2 c2 → Fits (k1 ++ k2) (c1 ++ c2)
  | [], _, [], _, _, h => h
  | _ :: _, _, _ :: _, _, h1, h => ⟨h1.1, Fits.append h1.2 h⟩
theorem Fits.length : ∀ {ks : List CK} {cs : List Value}, Fits ks cs → ks.length = cs.length
  | [], [], _ => rfl
  | _ :: _, _ :: _, h => by simp [Fits.length h.2]

def flatFs (P : Program) (fl : TypeId → Option (List CK)) : List Field → Nat → Option (List CK)
  | [], _ => some []
  | f :: r, o =>
    if f.offset = o then
      match fl f.type with
      | some l => if l.length = P.cellsOf f.type then (flatFs P fl r (o + l.length)).map (l ++ ·) else none
      | none => none
    else none
/-- The kinds of a type's cells, where these are whole numbers and bools alone. -/
def flat (P : Program) : Nat → TypeId → Option (List CK)
  | 0, _ => none
  | n + 1, t =>
    match P.underlying t with
    | some .bool => some [.b]
    | some (.int k) => some [.i k]
    | some (.struct fs) => (flatFs P (flat P n) fs.toList 0).bind fun l => if l.length = P.cellsOf t then some l else none
    | some (.array m e) => (flat P n e).bind fun l => if l.length = P.cellsOf e ∧ m * P.cellsOf e = P.cellsOf t then some (List.replicate m l).flatten else none
    | _ => none

theorem mapM_cons_some {α β : Type} {f : α → Option β} {a : α} {l : List α} {ys : List β} (h : (a :: l).mapM f = some ys) : ∃ y r, f a = some y ∧ l.mapM f = some r ∧ ys = y :: r := by
  simp only [List.mapM_cons, Option.bind_eq_bind, Option.pure_def, Option.bind_eq_some_iff, Option.some.injEq] at h
  obtain ⟨y, h1, r, h2, h3⟩ := h
  exact ⟨y, r, h1, h2, h3.symm⟩
theorem mapM_mem {α β : Type} {f : α → Option β} : ∀ {l : List α} {ys : List β}, l.mapM f = some ys → ∀ a ∈ l, ∃ y, f a = some y
  | [], _, _, _, ha => by cases ha
  | b :: l, _, h, a, ha => by
    obtain ⟨y, r, h1, h2, rfl⟩ := mapM_cons_some h
    rcases List.mem_cons.1 ha with rfl | ha
    · exact ⟨y, h1⟩
    · exact mapM_mem h2 a ha

section
variable {H : Type} {enc : TypeId × Value → H} {P : Program} {w : World} {base : Nat} {spare : Nat → Bool} {held : Bool}
theorem trod_flatFs {n fuel : Nat} {cs : List Value} (ih : ∀ t cs x ks, flat P n t = some ks → DataW.trod enc P w base spare held fuel t cs = some x → Fits ks cs) :
    ∀ (fs : List Field) (o : Nat) (l : List CK) ys, flatFs P (flat P n) fs o = some l →
      fs.mapM (fun f => DataW.trod enc P w base spare held fuel f.type ((cs.drop f.offset).take (P.cellsOf f.type))) = some ys → Fits l ((cs.drop o).take l.length)
  | [], o, l, ys, h, _ => by simp only [flatFs, Option.some.injEq] at h; subst h; simp [Fits]
  | f :: r, o, l, ys, h, hm => by
    obtain ⟨y, r', h1, h2, rfl⟩ := mapM_cons_some hm
    simp only [flatFs] at h
    split at h
    · rename_i ho
      cases hf : flat P n f.type with
      | none => rw [hf] at h; cases h
      | some lf =>
        rw [hf] at h; dsimp only at h
        split at h
        · rename_i hl
          obtain ⟨l2, h3, rfl⟩ := Option.map_eq_some_iff.1 h
          have k1 := ih _ _ _ _ hf h1
          have k2 := trod_flatFs ih r _ _ _ h3 h2
          rw [ho, ← hl] at k1
          have e : (cs.drop o).take (lf ++ l2).length = (cs.drop o).take lf.length ++ (cs.drop (o + lf.length)).take l2.length := by
            rw [List.length_append, List.take_add, List.drop_drop]
          rw [e]; exact k1.append k2
        · cases h
    · cases h

theorem chunks_fit {l : List CK} {s : Nat} {cs : List Value} : ∀ (m : Nat), (∀ i, i < m → Fits l ((cs.drop (i * s)).take s)) → Fits (List.replicate m l).flatten (cs.take (m * s))
  | 0, _ => by simp [Fits]
  | m + 1, h => by
    have e : cs.take ((m + 1) * s) = cs.take (m * s) ++ (cs.drop (m * s)).take s := by rw [Nat.succ_mul, List.take_add]
    rw [e, List.replicate_succ', List.flatten_append]
    exact (chunks_fit m (fun i hi => h i (by omega))).append (by simpa using h m (by omega))

theorem trod_flat : ∀ (n fuel : Nat) (t : TypeId) (cs : List Value) x ks, flat P n t = some ks → DataW.trod enc P w base spare held fuel t cs = some x → Fits ks cs
  | 0, _, _, _, _, _, h, _ => by cases h
  | _ + 1, 0, _, _, _, _, _, h => by simp [DataW.trod] at h
  | n + 1, fuel + 1, t, cs, x, ks, h, ht => by
    have ih := fun t cs x ks => trod_flat n fuel t cs x ks
    simp only [flat] at h
    split at h
    · rename_i hu
      cases h
      simp only [DataW.trod, hu] at ht
      split at ht <;> first | (cases ht; done) | skip
      all_goals simp_all [Fits, CK.fits]
    · rename_i k hu
      cases h
      obtain ⟨n', rfl, _, hw⟩ := DataW.trod_int hu ht
      exact ⟨⟨n', rfl, hw⟩, trivial⟩
    · rename_i fs hu
      obtain ⟨l, hl, h2⟩ := Option.bind_eq_some_iff.1 h
      split at h2
      · rename_i hlen
        cases h2
        have ht' : (if cs.length = P.cellsOf t then (fs.toList.mapM fun f => DataW.trod enc P w base spare held fuel f.type ((cs.drop f.offset).take (P.cellsOf f.type))).map fun xs => ((.agg (xs.map (·.1)) : DataW H), xs.flatMap (·.2)) else none) = some x := by
          rw [← ht]; simp only [DataW.trod, hu]
        split at ht'
        · rename_i hc
          obtain ⟨ys, hys, _⟩ := Option.map_eq_some_iff.1 ht'
          have := trod_flatFs ih _ _ _ _ hl hys
          rw [hlen, ← hc] at this
          simpa using this
        · cases ht'
      · cases h2
    · rename_i m e hu
      obtain ⟨l, hl, h2⟩ := Option.bind_eq_some_iff.1 h
      split at h2
      · rename_i hlen
        cases h2
        have ht' : (if cs.length = P.cellsOf t then ((List.range m).mapM fun i => DataW.trod enc P w base spare held fuel e ((cs.drop (i * P.cellsOf e)).take (P.cellsOf e))).map fun xs => ((.agg (xs.map (·.1)) : DataW H), xs.flatMap (·.2)) else none) = some x := by
          rw [← ht]; simp only [DataW.trod, hu]
        split at ht'
        · rename_i hc
          obtain ⟨ys, hys, _⟩ := Option.map_eq_some_iff.1 ht'
          have := chunks_fit (l := l) (s := P.cellsOf e) (cs := cs) m (fun i hi => by
            obtain ⟨y, hy⟩ := mapM_mem hys i (List.mem_range.2 hi)
            exact ih _ _ _ _ hl hy)
          rw [hlen.2, ← hc] at this
          simpa using this
        · cases ht'
      · cases h2
    · cases h

/-- A slice's elements' cells. -/
def SlC (w : World) (k : Nat) (a : Option Addr) (css : List (List Value)) : Prop :=
  ∀ i cs, css[i]? = some cs → cs.length = k ∧ ∃ b o, a = some ⟨b, o, none⟩ ∧ ∀ j u, cs[j]? = some u → w.cell? ⟨b, o + i * k + j, none⟩ = some u
theorem SlC.nil (w : World) (k : Nat) (a : Option Addr) : SlC w k a [] := fun i cs h => by simp at h
theorem SlC.ext {w w' : World} {k : Nat} {a : Option Addr} {css : List (List Value)} (h : SlC w k a css) (he : Ext w w') : SlC w' k a css := fun i cs hi =>
  let ⟨h1, b, o, h2, h3⟩ := h i cs hi
  ⟨h1, b, o, h2, fun j u hj => he.cell (h3 j u hj)⟩
theorem SlC.gr {B : Nat} {w w' : World} {k : Nat} {a : Option Addr} {css : List (List Value)} (h : SlC w k a css) (he : Gr B w w') : SlC w' k a css := fun i cs hi =>
  let ⟨h1, b, o, h2, h3⟩ := h i cs hi
  ⟨h1, b, o, h2, fun j u hj => he.cell (h3 j u hj)⟩

theorem cells?_get {w : World} {a : Addr} {n : Nat} {cs : List Value} (h : w.cells? 0 a n = some cs) : cs.length = n ∧ ∀ j, j < n → w.cell? (a.add j) = cs[j]? := by
  simp only [World.cells?, Nat.zero_le, if_true] at h
  have key : ∀ (l : List Nat) (cs : List Value), l.mapM (fun i => w.cell? (a.add i)) = some cs → cs.length = l.length ∧ ∀ j (hj : j < l.length), w.cell? (a.add l[j]) = cs[j]? := by
    intro l
    induction l with
    | nil => intro cs h; simp at h; subst h; exact ⟨rfl, fun j hj => by simp at hj⟩
    | cons b l ih =>
      intro cs h
      obtain ⟨y, r, h1, h2, rfl⟩ := mapM_cons_some h
      obtain ⟨k1, k2⟩ := ih r h2
      refine ⟨by simp [k1], fun j hj => ?_⟩
      cases j with
      | zero => simpa using h1
      | succ j => simpa using k2 j (by simpa using hj)
  obtain ⟨h1, h2⟩ := key _ _ h
  refine ⟨by simpa using h1, fun j hj => ?_⟩
  have := h2 j (by simpa using hj)
  simpa using this

theorem spot_none {w : World} {a : Addr} {v : Value} (h : w.cell? a = some v) : a.spot = none := by
  unfold World.cell? at h
  split at h
  · split at h
    · cases h
    · rename_i hs; simpa using hs
  · cases h
theorem add_eq (b o n : Nat) : (⟨b, o, none⟩ : Addr).add n = ⟨b, o + n, none⟩ := by unfold Addr.add; split <;> simp_all

theorem exists_list {α : Type} {Q : Nat → α → Prop} : ∀ n, (∀ i, i < n → ∃ c, Q i c) → ∃ l : List α, l.length = n ∧ ∀ i c, l[i]? = some c → Q i c
  | 0, _ => ⟨[], rfl, fun i c h => by simp at h⟩
  | n + 1, h => by
    obtain ⟨l, h1, h2⟩ := exists_list n (fun i hi => h i (by omega))
    obtain ⟨c, hc⟩ := h n (by omega)
    refine ⟨l ++ [c], by simp [h1], fun i d hd => ?_⟩
    by_cases hi : i < l.length
    · rw [List.getElem?_append_left hi] at hd; exact h2 i d hd
    · have hi' : i = l.length := by
        have := (List.getElem?_eq_some_iff.1 hd).1; simp at this; omega
      subst hi'
      simp at hd; subst hd; rw [h1]; exact hc

/-- A slice of such elements, as it reads. -/
theorem trod_slice {fuel k : Nat} {t e : TypeId} {cs : List Value} {x : DataW H × List MemPlace} (ht : P.underlying t = some (.slice e)) (hk : k = P.cellsOf e) (hpos : 0 < k)
    (h : DataW.trod enc P w 0 spare held fuel t cs = some x) : ∃ a len cap css, cs = [.slice a len cap] ∧ len = css.length ∧ len ≤ cap ∧ cap ≤ maxLen ∧ SlC w k a css ∧ ∀ c ∈ css, ∃ fuel y, DataW.trod enc P w 0 spare held fuel e c = some y := by
  cases fuel with
  | zero => simp [DataW.trod] at h
  | succ fuel =>
    simp only [DataW.trod, ht] at h
    split at h
    all_goals try (cases h; done)
    all_goals first | (rename_i h1; cases h1; done) | skip
    · exact ⟨none, 0, 0, [], rfl, rfl, Nat.le_refl _, Nat.zero_le _, SlC.nil _ _ _, fun c hc => by cases hc⟩
    · rename_i e' a len cap hu
      cases hu
      split at h
      · rename_i hb
        obtain ⟨elems, he, _⟩ := Option.bind_eq_some_iff.1 h
        have hel : ∀ i, i < len → ∃ c, w.cells? 0 (a.add (i * P.cellsOf e)) (P.cellsOf e) = some c ∧ ∃ fuel y, DataW.trod enc P w 0 spare held fuel e c = some y := fun i hi => by
          obtain ⟨y, hy⟩ := mapM_mem he i (List.mem_range.2 hi)
          obtain ⟨c, hc1, hc2⟩ := Option.bind_eq_some_iff.1 hy
          exact ⟨c, hc1, fuel, y, hc2⟩
        obtain ⟨css, hcl, hcs⟩ := exists_list len hel
        refine ⟨some a, len, cap, css, rfl, hcl.symm, hb.2.1, hb.2.2, ?_, ?_⟩
        · intro i c hi
          have hs := hcs i c hi
          have hlt' : i < len := by have := (List.getElem?_eq_some_iff.1 hi).1; omega
          obtain ⟨hl, hg⟩ := cells?_get hs.1
          refine ⟨by rw [hl, hk], ?_⟩
          have h0 : w.cell? ((a.add (i * P.cellsOf e)).add 0) = c[0]? := hg 0 (by omega)
          have hc0 : ∃ u, c[0]? = some u := ⟨c[0]'(by omega), by simp⟩
          obtain ⟨u, hu⟩ := hc0
          rw [hu] at h0
          have hsp := spot_none h0
          have hspa : a.add (i * P.cellsOf e) = ⟨a.block, a.off + i * P.cellsOf e, none⟩ := by
            obtain ⟨ab, ao, as⟩ := a
            by_cases h0i : i * P.cellsOf e = 0
            · simp only [Addr.add, h0i, if_true] at hsp ⊢
              subst hsp; simp
            · simp [Addr.add, h0i]
          refine ⟨a.block, a.off, ?_, ?_⟩
          · have h00 : 0 < len := by omega
            obtain ⟨c', hc'1, _⟩ := hel 0 h00
            obtain ⟨hl', hg'⟩ := cells?_get hc'1
            have h1 := hg' 0 (by omega)
            have : ∃ u, c'[0]? = some u := ⟨c'[0]'(by omega), by simp⟩
            obtain ⟨u', hu'⟩ := this
            rw [hu'] at h1
            have hs0 := spot_none h1
            obtain ⟨ab, ao, as⟩ := a
            simp [Addr.add] at hs0 ⊢
            exact hs0
          · intro j v hj
            have hjl : j < c.length := (List.getElem?_eq_some_iff.1 hj).1
            have := hg j (by omega)
            rw [hspa, add_eq, hj] at this
            rw [hk]; exact this
        · intro c hc
          obtain ⟨i, hi⟩ := List.mem_iff_getElem?.1 hc
          exact (hcs i c hi).2
      · cases h
end

/-! ### Readings, without their data -/
/-- These cells read as a value of type t. -/
def RdC (P : Program) (w : World) (t : TypeId) (cs : List Value) : Prop :=
  ∃ (H : Type) (enc : TypeId × Value → H) (held : Bool) (fuel : Nat) (x : DataW H × List MemPlace), DataW.trod enc P w 0 (fun _ => true) held fuel t cs = some x
/-- An argument. -/
def Reads (P : Program) (w : World) (t : TypeId) (v : Value) : Prop := (∃ base, Value.okWide P w .any base t v) ∧ RdC P w t v.cells.toList
section
variable {P : Program} {w : World} {t : TypeId} {cs : List Value} {v : Value}
theorem RdC.int {k : IntKind} (h : RdC P w t cs) (ht : P.underlying t = some (.int k)) : ∃ n, cs = [.int k n] ∧ (Lit.int k n).wf = true := by
  obtain ⟨H, enc, held, fuel, x, h⟩ := h
  cases fuel with
  | zero => simp [DataW.trod] at h
  | succ fuel => obtain ⟨n, h1, _, h2⟩ := DataW.trod_int ht h; exact ⟨n, h1, h2⟩
theorem RdC.flat {n : Nat} {ks : List CK} (h : RdC P w t cs) (hf : flat P n t = some ks) : Fits ks cs := by
  obtain ⟨H, enc, held, fuel, x, h⟩ := h
  exact trod_flat n fuel t cs x ks hf h
theorem RdC.bool (h : RdC P w t cs) (ht : P.underlying t = some .bool) : ∃ b, cs = [.bool b] := by
  have h1 := h.flat (n := 1) (ks := [.b]) (by simp [J.flat, ht])
  match cs, h1 with
  | [c], ⟨⟨b, hb⟩, _⟩ => exact ⟨b, by rw [hb]⟩
theorem RdC.slice {e : TypeId} {k : Nat} (h : RdC P w t cs) (ht : P.underlying t = some (.slice e)) (hk : k = P.cellsOf e) (hpos : 0 < k) :
    ∃ a cap css, cs = [.slice a css.length cap] ∧ css.length ≤ cap ∧ cap ≤ maxLen ∧ SlC w k a css ∧ ∀ c ∈ css, RdC P w e c := by
  obtain ⟨H, enc, held, fuel, x, h⟩ := h
  obtain ⟨a, len, cap, css, h1, rfl, h3, h4, h5, h6⟩ := trod_slice ht hk hpos h
  exact ⟨a, cap, css, h1, h3, h4, h5, fun c hc => let ⟨f, y, hy⟩ := h6 c hc; ⟨H, enc, held, f, y, hy⟩⟩
theorem RdC.struct {fs : Array Field} (h : RdC P w t cs) (ht : P.underlying t = some (.struct fs)) :
    cs.length = P.cellsOf t ∧ ∀ f ∈ fs.toList, RdC P w f.type ((cs.drop f.offset).take (P.cellsOf f.type)) := by
  obtain ⟨H, enc, held, fuel, x, h⟩ := h
  cases fuel with
  | zero => simp [DataW.trod] at h
  | succ fuel =>
    have h' : (if cs.length = P.cellsOf t then (fs.toList.mapM fun f => DataW.trod enc P w 0 (fun _ => true) held fuel f.type ((cs.drop f.offset).take (P.cellsOf f.type))).map fun xs => ((.agg (xs.map (·.1)) : DataW H), xs.flatMap (·.2)) else none) = some x := by
      rw [← h]; simp only [DataW.trod, ht]
    split at h'
    · rename_i hc
      obtain ⟨ys, hys, _⟩ := Option.map_eq_some_iff.1 h'
      exact ⟨hc, fun f hf => let ⟨y, hy⟩ := mapM_mem hys f hf; ⟨H, enc, held, fuel, y, hy⟩⟩
    · cases h'
theorem Reads.int {k : IntKind} (h : Reads P w t v) (ht : P.underlying t = some (.int k)) : ∃ n, v = .int k n ∧ (Lit.int k n).wf = true := by
  obtain ⟨⟨base, hb⟩, h⟩ := h
  obtain ⟨n, rfl⟩ := Go.WideShapes.okWide_int ht hb
  obtain ⟨m, h1, h2⟩ := h.int ht
  simp [Value.cells] at h1
  exact ⟨n, rfl, by rw [h1]; exact h2⟩
theorem Reads.bool (h : Reads P w t v) (ht : P.underlying t = some .bool) : ∃ b, v = .bool b := by
  obtain ⟨⟨base, hb⟩, h⟩ := h
  exact Go.WideShapes.okWide_bool ht hb
theorem Reads.agg {fs : Array Field} (h : Reads P w t v) (ht : P.underlying t = some (.struct fs)) : ∃ cs : List Value, v = .agg cs.toArray ∧ RdC P w t cs := by
  obtain ⟨⟨base, hb⟩, h⟩ := h
  obtain ⟨cs, rfl, _⟩ := Go.WideShapes.okWide_struct ht hb
  exact ⟨cs.toList, by simp, h⟩
theorem Reads.slice {e : TypeId} {k : Nat} (h : Reads P w t v) (ht : P.underlying t = some (.slice e)) (hk : k = P.cellsOf e) (hpos : 0 < k) :
    ∃ a cap css, v = .slice a css.length cap ∧ css.length ≤ cap ∧ cap ≤ maxLen ∧ SlC w k a css ∧ ∀ c ∈ css, RdC P w e c := by
  obtain ⟨⟨base, hb⟩, h⟩ := h
  obtain ⟨a, len, cap, rfl⟩ := Go.WideShapes.okWide_slice ht hb
  obtain ⟨a', cap', css, h1, h2, h3, h4, h5⟩ := h.slice ht hk hpos
  simp [Value.cells] at h1
  obtain ⟨rfl, rfl, rfl⟩ := h1
  exact ⟨_, _, css, rfl, h2, h3, h4, h5⟩
theorem wf_i64 {n : Int} (h : (Lit.int .i64 n).wf = true) : -9223372036854775808 ≤ n ∧ n ≤ 9223372036854775807 := by simp [Lit.wf] at h; exact h
end
end Go.Proofs.Ytabadcnpmfafnaa.J
