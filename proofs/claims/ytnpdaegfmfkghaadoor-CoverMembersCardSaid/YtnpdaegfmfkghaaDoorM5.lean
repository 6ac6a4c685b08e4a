/- Part 5 of the proofs of these statements. No condition. -/
import Derived.Test.YtnpdaegfmfkghaaDoorM4
set_option linter.unusedVariables false
set_option linter.unusedSimpArgs false
/- A function of the library that is taken as told: slices.Clone. No condition. -/
namespace Go.Proofs.YtnpdaegfmfkghaaDoor.A
open Go
variable {U : Nat → Prop} {w w' : World} {Pr Pr' : Nat → Nat → Prop} {σ σ' : List Blk} {γ γ' : List Ghost} {ls : List Nat} {P : Program} {G : Nat → Option (List AV)}

def pClone (e : TypeId) (k bytes : Nat) : List AV → List Blk → Option (AV × List Blk)
  | [a], [] => match rowsOf [] a with
    | some rows => if (rows.all fun r => r.length == k) = true ∧ rows.length * bytes ≤ 140737488355328 ∧ 0 < k then some (.lis 0 0 0 rows.length, [.lst 0 0 e k rows]) else none
    | none => none
  | _, _ => none

theorem chunks_flatten {k : Nat} : ∀ (n : Nat) (vs : List Value), vs.length = n * k → ((List.range n).map fun i => (vs.drop (i * k)).take k).flatten = vs
  | 0, vs, h => by
    have : vs = [] := List.eq_nil_of_length_eq_zero (by simpa using h)
    subst this; rfl
  | n + 1, vs, h => by
    rw [List.range_succ_eq_map, List.map_cons, List.map_map, List.flatten_cons]
    have hd : (vs.drop k).length = n * k := by rw [List.length_drop, h, Nat.succ_mul]; omega
    have ih := chunks_flatten n (vs.drop k) hd
    have e : ((fun i => (vs.drop (i * k)).take k) ∘ Nat.succ) = fun i => ((vs.drop k).drop (i * k)).take k := by
      funext i; simp only [Function.comp, List.drop_drop, Nat.succ_mul]; rw [Nat.add_comm k]
    rw [e, ih]
    simp
theorem ext_evo (h : J.Ext w w') (hd : w.drawn ≤ w'.drawn) (hu : ∀ b, w.heap.size ≤ b → U b) : Evo U [] w Pr w' Pr :=
  ⟨h.os, h.tape, h.output, h.size, fun b hb => by
      have hlt : b < w.heap.size := Nat.lt_of_not_le fun hx => hb (hu b hx)
      exact h.block b hlt, fun b o h1 _ _ => h.heap h1, fun b i hp => ⟨hp, fun v hv => h.cell hv⟩, fun _ _ _ h => h, hd⟩
theorem pClone_ok {f : FuncId} {e : TypeId} {k bytes : Nat} (hent : Ent P f)
    (hcall : ∀ a c css w, J.SlC w k a css → (∀ cs ∈ css, ∀ u ∈ cs, u.oneCell' = true) → css.length * bytes ≤ 140737488355328 → Calls P f #[.slice a css.length c] w fun e' w' => ∃ v, e' = .returned v ∧ J.OwnL w' w.heap.size e k v css ∧ J.Ext w w' ∧ w.drawn ≤ w'.drawn) :
    PrimOk P G f (pClone e k bytes) := by
  intro args bs r bs' h U w Pr γ vs hI hG hA
  unfold pClone at h
  split at h
  · rename_i a
    split at h
    · rename_i rows hr
      split at h
      · rename_i hcond
        obtain ⟨hlen, hby, hk⟩ := hcond
        cases h
        have hγ : γ = [] := List.eq_nil_of_length_eq_zero hI.len
        subst hγ
        obtain ⟨v, vs1, rfl, h3, h4⟩ := hA.cons_inv
        rw [h4.nil_inv]
        have hrk : ∀ r ∈ rows, r.length = k := fun r hr => by simpa using List.all_eq_true.1 hlen r hr
        obtain ⟨base, c, rfl, hrows⟩ := rowsOf_rep hI h3 hr
        -- the cells, row by row
        have hcells : ∃ us : List Value, us.length = rows.length * k ∧ RepL w Pr [] [] rows.flatten us ∧ dataL rows.flatten = true ∧ (rows ≠ [] → ∃ b off, base = some ⟨b, off, none⟩ ∧ w.rangeAt b off us) := by
          rcases hrows with rfl | ⟨b, off, k', us, rfl, hk', hrk', hd, hrg, hR⟩
          · exact ⟨[], by simp, by simpa using RepL.nil, rfl, fun h => absurd rfl h⟩
          · refine ⟨us, by rw [hR.1, flatten_length _ hrk], hR, hd, fun _ => ⟨b, off, rfl, hrg⟩⟩
        obtain ⟨us, hul, hR, hd, hrg⟩ := hcells
        obtain ⟨css, hcss⟩ : ∃ css, css = (List.range rows.length).map fun i => (us.drop (i * k)).take k := ⟨_, rfl⟩
        have hflat : css.flatten = us := by rw [hcss]; exact chunks_flatten _ _ hul
        have hcl : css.length = rows.length := by rw [hcss]; simp
        have hone : ∀ u ∈ us, u.oneCell' = true := hR.dataOne hd
        have hSl : J.SlC w k base css := by
          intro i cs hi
          rw [hcss, List.getElem?_map] at hi
          obtain ⟨j, hj, rfl⟩ := Option.map_eq_some_iff.1 hi
          have hij : i < rows.length ∧ j = i := by
            obtain ⟨q1, q2⟩ := List.getElem?_eq_some_iff.1 hj
            simp at q1 q2
            exact ⟨q1, q2.symm⟩
          obtain ⟨hij, rfl⟩ := hij
          have hle : j * k + k ≤ rows.length * k := by rw [← Nat.succ_mul]; exact Nat.mul_le_mul_right _ hij
          refine ⟨by simp; omega, ?_⟩
          obtain ⟨b, off, hb, hra⟩ := hrg (fun h => by rw [h] at hij; simp at hij)
          refine ⟨b, off, hb, fun q u hq => ?_⟩
          have := range_piece hra (j * k) k q u hq
          exact this
        have hcall' := hcall base c css w hSl (fun cs hcs u hu => hone u (by rw [← hflat]; exact List.mem_flatten.2 ⟨cs, hcs, hu⟩)) (by rw [hcl]; exact hby)
        rw [hcl] at hcall'
        refine .inl ⟨hent _ _, hcall'.mono ?_⟩
        rintro e' w1 ⟨v, rfl, ⟨⟨ho1, ho2⟩, _⟩, hext, hdr⟩
        refine ⟨v, rfl, Pr, ?_⟩
        have hE : Evo U [] w Pr w1 Pr := ext_evo hext hdr hI.new
        have hI1 : Inv U w1 Pr [] [] := hI.world hE (fun j b hb => by unfold memB at hb; simp at hb) (fun _ _ _ _ h => h) (fun b i hp => Nat.lt_of_lt_of_le (hI.old b i hp) hE.size)
        obtain ⟨hI2, hK2⟩ := hI1.slots 1
        have hv : LstV w1 e k v rows.length us := by
          refine ⟨hul, ?_⟩
          rcases ho2 with ⟨h5, h6⟩ | ⟨g, cap, cur, h5, h6, h7, h8, h9, h10, h11⟩
          · exact .inl ⟨by rw [← hcl]; exact h6, none, h5⟩
          · rw [hcl] at h5 h8 h11
            cases cap with
            | zero => exact .inl ⟨by omega, some ⟨g, 0, none⟩, by rw [h5]; congr 1; omega⟩
            | succ cap => exact .inr ⟨g, cap, cur, h5, h7, h8, h9, h10, by rw [h11, hflat]⟩
        have hbl : ∀ b, blkOf v = some b → w.heap.size ≤ b := fun b hb => by
          rcases ho2 with ⟨h5, h6⟩ | ⟨g, cap, cur, h5, h6, h7, h8, h9, h10, h11⟩
          · rw [h5] at hb; cases hb
          · rw [h5] at hb; cases cap <;> cases hb; exact h6
        obtain ⟨h5, h6⟩ := hI2.adopt (s := 0) rfl e k rows v us hk hrk hd hv ((hR.mono hE.stays (Keeps.refl _ _)).data hd) hone (fun b hb => ⟨hI.new b (hbl b hb), fun i hp => by have := hI.old b i hp; have := hbl b hb; omega, fun j hj => by
          unfold memB at hj
          cases j <;> simp at hj⟩)
        refine ⟨_, h5, hK2.trans h6, hE, .lis 0 0 rows.length 0 0 e k rows ⟨0, v⟩ v rfl rfl (by omega) ?_⟩
        obtain ⟨_, ⟨hn0, a', hx⟩ | ⟨g, c', cur, hx, _, hc, _⟩⟩ := hv
        · rw [hx, hn0]; exact ⟨a', 0, 0, rfl, .inl ⟨rfl, rfl, Nat.le_refl _, fun h => absurd rfl h⟩⟩
        · rw [hx]; exact ⟨_, _, _, rfl, .inl ⟨rfl, rfl, hc, fun _ => ⟨g, rfl⟩⟩⟩
      · cases h
    · cases h
  · cases h
end Go.Proofs.YtnpdaegfmfkghaaDoor.A
