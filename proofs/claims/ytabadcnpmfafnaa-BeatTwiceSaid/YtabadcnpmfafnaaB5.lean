/- Part B5 of the proofs of these statements. No condition. -/
import Derived.Test.YtabadcnpmfafnaaB4
import Derived.Shelf.Abstract
set_option linter.unusedVariables false
set_option linter.unusedSimpArgs false
namespace Go.Proofs.Ytabadcnpmfafnaa
open Go Go.RowKit J

def cmpI (x y : Int) : Int := if x < y then -1 else if y < x then 1 else 0
/-- cmp.Compare at ints. -/
theorem compare_any (x y : Int) (w : World) : Calls Try.prog 52 #[.int .i64 x, .int .i64 y] w fun e w' => e = .returned (.int .i64 (cmpI x y)) ∧ Ext w w' := by
  unfold cmpI
  by_cases h1 : x < y
  · rw [if_pos h1]
    go_enter Try.func52, Try.ntmps52
    go_wp2
    go_ret
    exact ⟨rfl, by repeat (first | exact Ext.refl _ | assumption | apply Ext.alloc | apply Ext.drewN | apply Ext.drew)⟩
  · rw [if_neg h1]
    by_cases h2 : y < x
    · rw [if_pos h2]
      go_enter Try.func52, Try.ntmps52
      go_wp2
      go_ret
      exact ⟨rfl, by repeat (first | exact Ext.refl _ | assumption | apply Ext.alloc | apply Ext.drewN | apply Ext.drew)⟩
    · rw [if_neg h2]
      go_enter Try.func52, Try.ntmps52
      go_wp2
      go_ret
      exact ⟨rfl, by repeat (first | exact Ext.refl _ | assumption | apply Ext.alloc | apply Ext.drewN | apply Ext.drew)⟩

theorem number_any (p : Pu) (w : World) : Calls Try.prog 47 #[.agg p.enc.toArray] w fun e w' => e = .returned (.int .i64 p.n) ∧ Ext w w' := by
  simp only [Pu.enc]
  go_enter Try.func47, Try.ntmps47
  go_wp2
  go_ret
  exact ⟨rfl, by repeat (first | exact Ext.refl _ | assumption | apply Ext.alloc | apply Ext.drewN | apply Ext.drew)⟩
/-- The closure that row hands on: it compares a row's number. -/
theorem row1_any (p : Pu) (x : Int) (B : Nat) (w : World) (hB : w.cell? ⟨B, 0, none⟩ = some (.func (.func 47) #[] #[])) :
    Calls Try.prog 51 #[.agg p.enc.toArray, .int .i64 x, .pointer (some ⟨B, 0, none⟩)] w fun e w' => e = .returned (.int .i64 (cmpI p.n x)) ∧ Ext w w' := by
  simp only [Pu.enc]
  have hB1 := World.block_lt_of_cell? w _ hB
  have hB2 : ∀ o, (w.alloc o).cell? ⟨B, 0, none⟩ = some (.func (.func 47) #[] #[]) := fun o => ((Ext.refl w).alloc o).cell hB
  go_enter Try.func51, Try.ntmps51
  go_wp2_with fail
  refine (number_any p _).mono ?_
  rintro _ w1 ⟨rfl, hE1⟩
  go_wp2_with fail
  refine (compare_any p.n x _).mono ?_
  rintro _ w2 ⟨rfl, hE2⟩
  go_wp2_with fail
  go_ret
  exact ⟨rfl, (Ext.trans (by repeat (first | exact Ext.refl _ | assumption | apply Ext.alloc | apply Ext.drewN | apply Ext.drew)) hE1).trans hE2⟩

/-- How many numbers are below x. -/
def posN (l : List Pu) (x : Int) : Nat := (l.takeWhile fun p => decide (p.n < x)).length
def foundN (l : List Pu) (x : Int) : Bool := decide (posN l x < l.length) && cmpI (l.getD (posN l x) default).n x == 0
/-- Rising numbers. -/
def Rising (l : List Pu) : Prop := ∀ (i j : Nat) (p q : Pu), i < j → l[i]? = some p → l[j]? = some q → p.n < q.n
theorem posN_le (l : List Pu) (x : Int) : posN l x ≤ l.length := (List.takeWhile_prefix _).length_le
theorem posN_lo (l : List Pu) (x : Int) {i : Nat} {p : Pu} (hi : i < posN l x) (hp : l[i]? = some p) : p.n < x := by
  induction l generalizing i with
  | nil => simp at hp
  | cons a l ih =>
    unfold posN at hi
    rw [List.takeWhile_cons] at hi
    split at hi
    · rename_i ha
      cases i with
      | zero => simp at hp; subst hp; simpa using ha
      | succ i => exact ih (by simpa [posN] using hi) (by simpa using hp)
    · simp at hi
theorem posN_at (l : List Pu) (x : Int) {p : Pu} (hp : l[posN l x]? = some p) : x ≤ p.n := by
  induction l with
  | nil => simp at hp
  | cons a l ih =>
    unfold posN at hp
    rw [List.takeWhile_cons] at hp
    split at hp
    · exact ih (by simpa [posN] using hp)
    · rename_i ha; simp at hp ha; subst hp; exact ha
theorem posN_hi (l : List Pu) (hr : Rising l) (x : Int) {i : Nat} {p : Pu} (hi : posN l x ≤ i) (hp : l[i]? = some p) : x ≤ p.n := by
  have hlt : posN l x < l.length := by have := (List.getElem?_eq_some_iff.1 hp).1; omega
  have h1 := posN_at l x (List.getElem?_eq_getElem hlt)
  rcases Nat.lt_or_ge (posN l x) i with h | h
  · have := hr _ _ _ _ h (List.getElem?_eq_getElem hlt) hp; omega
  · obtain rfl : i = posN l x := by omega
    rw [List.getElem?_eq_getElem hlt] at hp; cases hp; exact h1
theorem CheckP.rising {now : Int} {l : List Pu} (h : CheckP now l) : Rising l := by
  intro i j p q hij hp hq
  induction j generalizing q with
  | zero => omega
  | succ j ih =>
    have hj : j + 1 < l.length := (List.getElem?_eq_some_iff.1 hq).1
    have hs := (h.2.2 (j + 1) hj).2 (by omega)
    rw [getD_of hq, Nat.add_sub_cancel, getD_of (List.getElem?_eq_getElem (by omega))] at hs
    rcases Nat.lt_or_ge i j with h' | h'
    · have := ih (l[j]) h' (List.getElem?_eq_getElem (by omega)); omega
    · obtain rfl : i = j := by omega
      rw [List.getElem?_eq_getElem (by omega)] at hp; cases hp; exact hs

set_option maxHeartbeats 1000000 in
theorem place_any (now : Int) (a : Option Addr) (c : Nat) (l : List Pu) (x : Int) (w : World) (hr : Rising l) (hs : SlC w 4 a (l.map Pu.enc)) (hlen : l.length ≤ 4611686018427387904) :
    Calls Try.prog 37 #[.agg #[.int .i64 now, .slice a l.length c], .int .i64 x] w fun e w' => e = .returned (.tuple #[.int .i64 (posN l x), .bool (foundN l x)]) ∧ Ext w w' := by
  have key : ∀ W, Ext w W → Calls Try.prog 46 #[.slice a l.length c, .int .i64 x, .func (.func 47) #[] #[]] W fun e W' => e = .returned (.tuple #[.int .i64 (posN l x), .bool (foundN l x)]) ∧ Ext W W' := by
    intro W hE
    have hbs := bsearch_50 a c (l.map Pu.enc) (.int .i64 x) 51 #[.pointer (some ⟨W.heap.size, 0, none⟩)] (enters_of Try.func51 (by kernel_rfl) rfl)
      (fun i => cmpI (l.getD i default).n x) (posN l x) (W.alloc (.cells #[.func (.func 47) #[] #[]] 77)) (hs.ext (hE.alloc _)) (by simpa using hlen) (by simpa using posN_le l x)
      (fun i hi => by
        have hlt : i < l.length := Nat.lt_of_lt_of_le hi (posN_le l x)
        rw [getD_of (List.getElem?_eq_getElem hlt)]
        have := posN_lo l x hi (List.getElem?_eq_getElem hlt)
        simp [cmpI, this])
      (fun i hi hlt => by
        have hlt' : i < l.length := by simpa using hlt
        rw [getD_of (List.getElem?_eq_getElem hlt')]
        have := posN_hi l hr x hi (List.getElem?_eq_getElem hlt')
        unfold cmpI; split <;> omega)
      (fun i cs V hcs hV => by
        rw [List.getElem?_map] at hcs
        obtain ⟨p, hp, rfl⟩ := Option.map_eq_some_iff.1 hcs
        rw [getD_of hp]
        exact row1_any p x _ V (hV.cell (Blk.cell (Blk.new W _ _) (i := 0) rfl)))
    simp only [List.length_map] at hbs
    go_enter Try.func46, Try.ntmps46
    go_wp2_with (go_at_call 50; refine hbs.mono ?_; rintro _ w1 ⟨rfl, hE1⟩)
    go_ret2
    exact ⟨rfl, Ext.trans (by repeat (first | exact Ext.refl _ | assumption | apply Ext.alloc | apply Ext.drewN | apply Ext.drew)) hE1⟩
  go_enter Try.func37, Try.ntmps37
  go_wp2_with (go_at_call 46; refine (key _ ((Ext.refl w).alloc _)).mono ?_; rintro _ w1 ⟨rfl, hE1⟩)
  go_ret2
  exact ⟨rfl, Ext.trans (by repeat (first | exact Ext.refl _ | assumption | apply Ext.alloc | apply Ext.drewN | apply Ext.drew)) hE1⟩
end Go.Proofs.Ytabadcnpmfafnaa
