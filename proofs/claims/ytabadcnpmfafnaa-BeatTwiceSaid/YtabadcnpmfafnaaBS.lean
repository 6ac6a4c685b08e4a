/- What peers and watches are, and when they are right: the plain side. No condition. -/
import Derived.Test.YtabadcnpmfafnaaRd
set_option linter.unusedVariables false
set_option linter.unusedSimpArgs false
namespace Go.Proofs.Ytabadcnpmfafnaa
open Go Go.RowKit J

structure Pu where
  n : Int
  h : Int
  g : Int
  s : Int
def Pu.enc (p : Pu) : List Value := [.int .i64 p.n, .int .i64 p.h, .int .i64 p.g, .int .i64 p.s]
def I64 (x : Int) : Prop := -9223372036854775808 ≤ x ∧ x ≤ 9223372036854775807
def Pu.ok (p : Pu) : Prop := I64 p.n ∧ I64 p.h ∧ I64 p.g ∧ I64 p.s
def RightP (now : Int) (p : Pu) : Prop :=
  1 ≤ p.n ∧ p.n ≤ 8 ∧ 0 ≤ p.h ∧ p.h ≤ now ∧ 0 ≤ p.g ∧ p.g ≤ 3 ∧
  ((p.s = 1 ∧ now - p.h ≤ 4) ∨ (p.s = 2 ∧ 4 < now - p.h ∧ now - p.h ≤ 9 ∧ p.g = 0) ∨
   (p.s = 0 ∧ now - p.h ≤ 9 ∧ p.g < 3 ∧ (now - p.h ≤ 4 ∨ p.g = 0)) ∨ (p.s = 3 ∧ p.g < 3 ∧ (now - p.h ≤ 4 ∨ p.g = 0)))
instance (now : Int) (p : Pu) : Decidable (RightP now p) := by unfold RightP; infer_instance
def rightB (now : Int) (p : Pu) : Bool := decide (RightP now p)
theorem rightB_iff {now : Int} {p : Pu} : rightB now p = true ↔ RightP now p := decide_eq_true_iff
theorem rightB_true {now : Int} {p : Pu} (h : RightP now p) : rightB now p = true := decide_eq_true h
theorem rightB_false {now : Int} {p : Pu} (h : ¬ RightP now p) : rightB now p = false := decide_eq_false h
instance : Inhabited Pu := ⟨⟨0, 0, 0, 0⟩⟩
/-- Row i is right, and behind the one ahead. -/
def GoodAt (now : Int) (l : List Pu) (i : Nat) : Prop := RightP now (l.getD i default) ∧ (0 < i → (l.getD (i - 1) default).n < (l.getD i default).n)
instance (now : Int) (l : List Pu) (i : Nat) : Decidable (GoodAt now l i) := by unfold GoodAt; infer_instance
def CheckP (now : Int) (l : List Pu) : Prop := 0 ≤ now ∧ now ≤ 1099511627776 ∧ ∀ i, i < l.length → GoodAt now l i
instance (now : Int) (l : List Pu) : Decidable (CheckP now l) := by unfold CheckP; infer_instance
def checkE (now : Int) (l : List Pu) : Int := if CheckP now l then 0 else 390
theorem getD_of {l : List Pu} {k : Nat} {p : Pu} (h : l[k]? = some p) : l.getD k default = p := by simp [List.getD_eq_getElem?_getD, h]
/-- The cells of row k. -/
theorem slc_pu {w : World} {a : Option Addr} {l : List Pu} (hs : SlC w 4 a (l.map Pu.enc)) {k : Nat} {p : Pu} (hk : l[k]? = some p) :
    ∃ b o, a = some ⟨b, o, none⟩ ∧ w.cell? ⟨b, o + k * 4, none⟩ = some (.int .i64 p.n) ∧ w.cell? ⟨b, o + k * 4 + 1, none⟩ = some (.int .i64 p.h) ∧ w.cell? ⟨b, o + k * 4 + 2, none⟩ = some (.int .i64 p.g) ∧ w.cell? ⟨b, o + k * 4 + 3, none⟩ = some (.int .i64 p.s) := by
  obtain ⟨_, b, o, h1, h2⟩ := hs k p.enc (by simp [hk])
  exact ⟨b, o, h1, h2 0 _ rfl, h2 1 _ rfl, h2 2 _ rfl, h2 3 _ rfl⟩
end Go.Proofs.Ytabadcnpmfafnaa
