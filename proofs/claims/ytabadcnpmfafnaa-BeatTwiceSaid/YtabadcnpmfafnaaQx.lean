/- A region that draws its order, whose operations only read and whose callees lay new blocks at most: walked once. Small words for walks. No condition. -/
import Derived.Test.YtabadcnpmfafnaaCore
import Derived.Deep.QuietTactic
import Derived.BigQuiet
set_option linter.unusedVariables false
set_option linter.unusedSimpArgs false
namespace Go.Proofs.Ytabadcnpmfafnaa.J
open Go Go.RowKit

/-- What has come to a world: blocks behind it; a count of draws. -/
structure Gw where
  os : Array Obj
  d : Nat
instance : Inhabited Gw := ⟨⟨#[], 0⟩⟩
def gw (w : World) (p : Gw) : World := { w with heap := w.heap ++ p.os, drawn := p.d }
theorem ext_gw (w : World) (p : Gw) : Ext w (gw w p) := ⟨rfl, rfl, rfl, by simp [gw], fun k hk => by simp [gw, Array.getElem?_append, hk]⟩
theorem ext_of_gw {w w' : World} (h : ∃ p : Gw, w' = gw w p) : Ext w w' := by obtain ⟨p, rfl⟩ := h; exact ext_gw w p
theorem gw_of_ext {w w' : World} (h : Ext w w') : ∃ p, w' = gw w p := by
  refine ⟨⟨w'.heap.extract w.heap.size w'.heap.size, w'.drawn⟩, ?_⟩
  have hh : w'.heap = w.heap ++ w'.heap.extract w.heap.size w'.heap.size := by
    apply Array.ext_getElem?
    intro i
    rw [Array.getElem?_append]
    by_cases hi : i < w.heap.size
    · rw [if_pos hi]; exact h.block i hi
    · rw [if_neg hi, Array.getElem?_extract]
      by_cases hi2 : i - w.heap.size < w'.heap.size - w.heap.size
      · rw [if_pos (by omega), show w.heap.size + (i - w.heap.size) = i from by omega]
      · rw [if_neg (by omega), Array.getElem?_eq_none (by omega)]
  obtain ⟨h1, h2, h3⟩ := And.intro h.os (And.intro h.tape h.output)
  cases w; cases w'
  simp only at h1 h2 h3 hh
  simp only [gw, World.mk.injEq]
  exact ⟨hh, h2, trivial, h1, h3⟩
theorem wp_region_gw {P : Program} {id : Nat} {Q : Exit → Act → World → Prop} {a : Act} {w : World} {l : List Oper} (hm : P.follows .mixedOrders = true) (hB : Region.lexB .any l.toArray = true)
    (h : wpQuiet P l.toArray (fun w' => ∃ p : Gw, w' = gw w p) (fun a' => ∀ w', (∃ p : Gw, w' = gw w p) → Q .normal a' w') l a) : (Code.region id l.toArray true).wp P Q a w :=
  wp_region_quiet (C := fun w' => ∃ p : Gw, w' = gw w p) hm hB (gw_of_ext (Ext.refl w).drew) (by simpa using h)
theorem cgw {P : Program} {f : FuncId} {args : Array Value} {w : World} {p : Gw} {v : Value}
    (h : Calls P f args (gw w p) fun e w' => e = .returned v ∧ Ext (gw w p) w') : Calls P f args (gw w p) fun e w'' => e = .returned v ∧ ∃ q : Gw, w'' = gw w q :=
  h.mono fun _ _ ⟨he, hx⟩ => ⟨he, gw_of_ext ((ext_gw w p).trans hx)⟩
theorem cell_gw {w : World} {a : Addr} {v : Value} (h : w.cell? a = some v) : ∀ p, (gw w p).cell? a = some v := fun p => (ext_gw w p).cell h
theorem ret_bool {a b : Bool} (h : a = b) : Ending.returned (.bool a) = .returned (.bool b) := by rw [h]
theorem ret_int {k : IntKind} {a b : Int} (h : a = b) : Ending.returned (.int k a) = .returned (.int k b) := by rw [h]
end Go.Proofs.Ytabadcnpmfafnaa.J
