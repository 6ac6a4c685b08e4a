/- Time that goes on: two spans are one; ahead of Next nothing changes: the plain side. No condition. -/
import Derived.Test.YtabadcnpmfafnaaT2
set_option linter.unusedVariables false
set_option linter.unusedSimpArgs false
namespace Go.Proofs.Ytabadcnpmfafnaa
open Go Go.RowKit J

theorem later_h (m : Int) (p : Pu) : (later m p).h = p.h ∧ (later m p).n = p.n := by
  unfold later; split
  · exact ⟨rfl, rfl⟩
  · split <;> exact ⟨rfl, rfl⟩
theorem later_later {n m : Int} (h : n ≤ m) (p : Pu) : later m (later n p) = later m p := by
  obtain ⟨a, b, c, d⟩ := p
  by_cases h1 : 9 < n - b
  · have e1 : later n ⟨a, b, c, d⟩ = ⟨a, b, 0, 3⟩ := by simp [later, h1]
    rw [e1]
    have h2 : 9 < m - b := by omega
    simp [later, h2]
  · by_cases h3 : 4 < n - b
    · by_cases hd : d = 1
      · subst hd
        have e1 : later n ⟨a, b, c, 1⟩ = ⟨a, b, 0, 2⟩ := by simp [later, h1, h3]
        rw [e1]
        by_cases h2 : 9 < m - b
        · simp [later, h2]
        · have h4 : 4 < m - b := by omega
          simp [later, h2, h4]
      · have e1 : later n ⟨a, b, c, d⟩ = ⟨a, b, 0, d⟩ := by simp [later, h1, h3, hd]
        rw [e1]
        by_cases h2 : 9 < m - b
        · simp [later, h2]
        · have h4 : 4 < m - b := by omega
          simp [later, h2, h4, hd]
    · have e1 : later n ⟨a, b, c, d⟩ = ⟨a, b, c, d⟩ := by simp [later, h1, h3]
      rw [e1]
theorem right_later {now n : Int} (h : now ≤ n) {p : Pu} (hp : RightP now p) : RightP n (later n p) := by
  obtain ⟨a, b, c, d⟩ := p
  unfold RightP at hp ⊢
  dsimp only at hp
  by_cases h1 : 9 < n - b
  · have e1 : later n ⟨a, b, c, d⟩ = ⟨a, b, 0, 3⟩ := by simp [later, h1]
    rw [e1]
    dsimp only
    omega
  · by_cases h3 : 4 < n - b
    · by_cases hd : d = 1
      · subst hd
        have e1 : later n ⟨a, b, c, 1⟩ = ⟨a, b, 0, 2⟩ := by simp [later, h1, h3]
        rw [e1]
        dsimp only
        omega
      · have e1 : later n ⟨a, b, c, d⟩ = ⟨a, b, 0, d⟩ := by simp [later, h1, h3, hd]
        rw [e1]
        dsimp only
        omega
    · have e1 : later n ⟨a, b, c, d⟩ = ⟨a, b, c, d⟩ := by simp [later, h1, h3]
      rw [e1]
      dsimp only
      omega
theorem getD_map {f : Pu → Pu} {l : List Pu} {i : Nat} (h : i < l.length) : (l.map f).getD i default = f (l.getD i default) := by
  rw [List.getD_eq_getElem?_getD, List.getD_eq_getElem?_getD, List.getElem?_map, List.getElem?_eq_getElem h]; rfl
theorem check_later {now n : Int} {l : List Pu} (hc : CheckP now l) (h : now ≤ n) (hn : n ≤ 1099511627776) : CheckP n (l.map (later n)) := by
  refine ⟨by have := hc.1; omega, hn, fun i hi => ?_⟩
  rw [List.length_map] at hi
  have hg := hc.2.2 i hi
  refine ⟨by rw [getD_map hi]; exact right_later h hg.1, fun h0 => ?_⟩
  rw [getD_map hi, getD_map (by omega), (later_h n _).2, (later_h n _).2]
  exact hg.2 h0
theorem down_sum {n m : Int} (h : n ≤ m) (l : List Pu) : (downOf n l).length + (downOf m (l.map (later n))).length = (downOf m l).length := by
  induction l with
  | nil => rfl
  | cons p l ih =>
    have e : ∀ k (q : Pu) r, (downOf k (q :: r)).length = (if goesDown k q = true then 1 else 0) + (downOf k r).length := fun k q r => by
      unfold downOf; rw [List.filter_cons]; split <;> simp <;> omega
    rw [List.map_cons, e, e, e, ← ih]
    have key : (if goesDown n p = true then 1 else 0) + (if goesDown m (later n p) = true then 1 else 0) = (if goesDown m p = true then 1 else (0 : Nat)) := by
      obtain ⟨a, b, c, d⟩ := p
      by_cases h1 : 9 < n - b
      · have h2 : 9 < m - b := by omega
        have e1 : later n ⟨a, b, c, d⟩ = ⟨a, b, 0, 3⟩ := by simp [later, h1]
        rw [e1]
        by_cases hd : d = 3 <;> simp [goesDown, h1, h2, hd]
      · have e1 : (later n ⟨a, b, c, d⟩).s = 3 ↔ d = 3 := by
          unfold later; rw [if_neg h1]; split
          · dsimp only; split
            · rename_i hd; subst hd; decide
            · exact Iff.rfl
          · exact Iff.rfl
        have e2 : (later n ⟨a, b, c, d⟩).h = b := (later_h n _).1
        simp [goesDown, h1, e1, e2]
    omega

/-! ### Next -/
def nextAt (now : Int) (p : Pu) : Int := if 4 < now - p.h then p.h + 10 else p.h + 5
def nextF (now : Int) (s : Int × Bool) (p : Pu) : Int × Bool := if 9 < now - p.h then s else if s.2 = false ∨ nextAt now p < s.1 then (nextAt now p, true) else s
def nextL (now : Int) (l : List Pu) : Int × Bool := l.foldl (nextF now) (0, false)
def nextP (now : Int) (l : List Pu) : Int × Bool := if CheckP now l then nextL now l else (0, false)
theorem nextL_snoc (now : Int) (l : List Pu) (p : Pu) : nextL now (l ++ [p]) = nextF now (nextL now l) p := by unfold nextL; rw [List.foldl_append]; rfl
theorem nextL_all (now : Int) (l : List Pu) : ∀ p ∈ l, 9 < now - p.h ∨ ((nextL now l).2 = true ∧ (nextL now l).1 ≤ nextAt now p) := by
  rw [← List.reverse_reverse l]
  generalize l.reverse = r
  induction r with
  | nil => intro p hp; simp at hp
  | cons q r ih =>
    intro p hp
    rw [List.reverse_cons] at hp ⊢
    rw [nextL_snoc]
    unfold nextF
    by_cases hq : 9 < now - q.h
    · rw [if_pos hq]
      rcases List.mem_append.1 hp with hp | hp
      · exact ih p hp
      · rw [List.mem_singleton] at hp; subst hp; exact .inl hq
    · rw [if_neg hq]
      by_cases hc : (nextL now r.reverse).2 = false ∨ nextAt now q < (nextL now r.reverse).1
      · rw [if_pos hc]
        rcases List.mem_append.1 hp with hp | hp
        · rcases ih p hp with h | ⟨h1, h2⟩
          · exact .inl h
          · refine .inr ⟨rfl, ?_⟩
            rcases hc with hc | hc
            · rw [h1] at hc; cases hc
            · dsimp only; omega
        · rw [List.mem_singleton] at hp; subst hp; exact .inr ⟨rfl, Int.le_refl _⟩
      · rw [if_neg hc]
        rcases List.mem_append.1 hp with hp | hp
        · exact ih p hp
        · rw [List.mem_singleton] at hp; subst hp
          refine .inr ⟨?_, by omega⟩
          cases h : (nextL now r.reverse).2
          · exact absurd (.inl h) hc
          · rfl
/-- Ahead of Next nothing changes. -/
theorem still_later {now n : Int} {l : List Pu} (hc : CheckP now l) (hn : now ≤ n) (h : (nextL now l).2 = true → n < (nextL now l).1) : l.map (later n) = l := by
  have key : ∀ p ∈ l, later n p = p := by
    intro p hp
    obtain ⟨i, hi⟩ := List.mem_iff_getElem?.1 hp
    have hlt := (List.getElem?_eq_some_iff.1 hi).1
    have hr := (hc.2.2 i hlt).1
    rw [getD_of hi] at hr
    have ha := nextL_all now l p hp
    obtain ⟨a, b, c, d⟩ := p
    unfold RightP at hr
    unfold nextAt at ha
    dsimp only at hr ha
    by_cases h1 : 9 < n - b
    · have e1 : later n ⟨a, b, c, d⟩ = ⟨a, b, 0, 3⟩ := by simp [later, h1]
      rw [e1]
      have h9 : 9 < now - b := by
        rcases ha with ha | ⟨h2, h3⟩
        · exact ha
        · have := h h2
          split at h3 <;> omega
      have hd : d = 3 ∧ c = 0 := by omega
      rw [hd.1, hd.2]
    · by_cases h3 : 4 < n - b
      · have h4 : 4 < now - b := by
          rcases ha with ha | ⟨h2, h5⟩
          · omega
          · have := h h2
            split at h5 <;> omega
        have hd : d ≠ 1 ∧ c = 0 := by omega
        have e1 : later n ⟨a, b, c, d⟩ = ⟨a, b, 0, d⟩ := by simp [later, h1, h3, hd.1]
        rw [e1, hd.2]
      · simp [later, h1, h3]
  have h2 := List.map_congr_left (l := l) (f := later n) (g := fun p => p) key
  rw [h2]
  simp
end Go.Proofs.Ytabadcnpmfafnaa
