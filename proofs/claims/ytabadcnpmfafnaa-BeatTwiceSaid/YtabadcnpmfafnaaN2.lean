/- Pass, where it goes through and where it does not: what BeatTwice asks. No condition. -/
import Derived.Test.YtabadcnpmfafnaaN1
set_option linter.unusedVariables false
set_option linter.unusedSimpArgs false
namespace Go.Proofs.Ytabadcnpmfafnaa
open Go Go.RowKit J

theorem ok_later {l : List Pu} (n : Int) (h : ∀ p ∈ l, p.ok) : ∀ p ∈ l.map (later n), p.ok := by
  intro p hp
  obtain ⟨q, hq, rfl⟩ := List.mem_map.1 hp
  obtain ⟨h1, h2, h3, h4⟩ := h q hq
  have i0 : I64 0 := ⟨by decide, by decide⟩
  have i2 : I64 2 := ⟨by decide, by decide⟩
  have i3 : I64 3 := ⟨by decide, by decide⟩
  unfold later
  split
  · exact ⟨h1, h2, i0, i3⟩
  · split
    · refine ⟨h1, h2, i0, ?_⟩
      dsimp only
      split
      · exact i2
      · exact h4
    · exact ⟨h1, h2, h3, h4⟩
theorem pass_ok {now t n' : Int} (h : now + t = n') {l : List Pu} (hP : CheckP now l) (h0 : 0 ≤ t) (h1 : n' ≤ 1099511627776) (a : Option Addr) (c : Nat) (w : World) (hl : ∀ p ∈ l, p.ok) (hs : SlC w 4 a (l.map Pu.enc)) (hlen : l.length ≤ 100) :
    Calls Try.prog 10 #[.agg #[.int .i64 now, .slice a l.length c], .int .i64 t] w fun e w' => ∃ a' c' a2 c2 d, d = (downOf n' l).length ∧ e = .returned (.tuple #[.agg #[.int .i64 n', .slice a' l.length c'], .slice a2 d c2, .int .i64 0]) ∧ SlC w' 4 a' ((l.map (later n')).map Pu.enc) ∧ Ext w w' := by
  subst h
  have hc := hP.1
  have hc2 := hP.2.1
  refine (pass_any now t a c l w ⟨by omega, by omega⟩ ⟨by omega, by omega⟩ hl hs hlen).mono ?_
  intro e w' hpost
  obtain ⟨now', a', c', l', ds, a2, c2, code, hpp, rfl, s3, -, hE⟩ := wtv_pass hpost
  unfold passP at hpp
  rw [if_neg (not_not_intro hP), if_neg (by omega)] at hpp
  injection hpp with e1 hpp
  injection hpp with e2 hpp
  injection hpp with e3 e4
  subst e1 e2 e3 e4
  rw [List.length_map] at *
  exact ⟨a', c', a2, c2, _, rfl, rfl, s3, hE⟩
theorem pass_bad {now t : Int} {l : List Pu} (hP : CheckP now l) (h0 : 0 ≤ t) (h9 : t ≤ 100) (h1 : 1099511627776 - now < t) (a : Option Addr) (c : Nat) (w : World) (hl : ∀ p ∈ l, p.ok) (hs : SlC w 4 a (l.map Pu.enc)) (hlen : l.length ≤ 100) :
    Calls Try.prog 10 #[.agg #[.int .i64 now, .slice a l.length c], .int .i64 t] w fun e w' => ∃ a' c' a2 c2, e = .returned (.tuple #[.agg #[.int .i64 0, .slice a' 0 c'], .slice a2 0 c2, .int .i64 2]) ∧ Ext w w' := by
  have hc := hP.1
  have hc2 := hP.2.1
  refine (pass_any now t a c l w ⟨by omega, by omega⟩ ⟨by omega, by omega⟩ hl hs hlen).mono ?_
  intro e w' hpost
  obtain ⟨now', a', c', l', ds, a2, c2, code, hpp, rfl, s3, -, hE⟩ := wtv_pass hpost
  unfold passP at hpp
  rw [if_neg (not_not_intro hP), if_pos (.inr h1)] at hpp
  injection hpp with e1 hpp
  injection hpp with e2 hpp
  injection hpp with e3 e4
  subst e1 e2 e3 e4
  exact ⟨a', c', a2, c2, rfl, hE⟩
theorem check_nil : CheckP 0 [] := ⟨by decide, by decide, fun i hi => absurd hi (by simp)⟩
theorem pass_nil (t : Int) (h0 : 0 ≤ t) (h1 : t ≤ 1099511627776) (a : Option Addr) (c : Nat) (w : World) :
    Calls Try.prog 10 #[.agg #[.int .i64 0, .slice a 0 c], .int .i64 t] w fun e w' => ∃ a' c' a2 c2, e = .returned (.tuple #[.agg #[.int .i64 t, .slice a' 0 c'], .slice a2 0 c2, .int .i64 0]) ∧ Ext w w' :=
  (pass_ok (now := 0) (t := t) (n' := t) (by omega) check_nil h0 h1 a c w (by simp) (SlC.nil _ _ _) (by simp)).mono fun e w' ⟨a', c', a2, c2, d, hd, he, _, hE⟩ => by
    subst hd; exact ⟨a', c', a2, c2, he, hE⟩
end Go.Proofs.Ytabadcnpmfafnaa
