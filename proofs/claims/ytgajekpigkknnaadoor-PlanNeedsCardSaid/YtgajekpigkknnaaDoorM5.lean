/- Part 5 of the proofs of these statements. No condition. -/
import Derived.Test.YtgajekpigkknnaaDoorM4
import Derived.Deep.QuietTactic
import Derived.BigQuiet
import Derived.Laws.OwnMore
import Derived.Deep.RegionLaw
import Derived.OwnWalk
import Derived.OwnWalkIn
import Derived.Laws.Slices
import Derived.Laws.Externs
import GoSem.Extern.BytealgCompare
set_option linter.unusedVariables false
set_option linter.unusedSimpArgs false
/- The evaluator is right. No condition. -/
namespace Go.Proofs.YtgajekpigkknnaaDoor.A
open Go
variable {U : Nat → Prop} {w w' : World} {Pr Pr' : Nat → Nat → Prop} {σ σ' : List Blk} {γ γ' : List Ghost} {P : Program} {G : Nat → Option (List AV)}

theorem code_step {E : Env} (hE : EnvOk P G E) {n : Nat} (hC : ∀ j, j ≤ n → CodeOk P G E j) (hR : ∀ ys, CROk P G ys (acall E n ys)) (hV : CVOk P G (acallV E n)) : CodeOk P G E (n + 1) := by
  have hEnt : ∀ f af, E.prim f = none → E.fn f = some af → Ent P f := fun f af h1 h2 => by
    obtain ⟨fm, g, hf, hn, hc⟩ := hE.fn f af h1 h2
    obtain ⟨c, rs, hb, _⟩ := cFunc_inv hc
    exact ent_of hf hn hb
  have hCn := hC n (Nat.le_refl _)
  intro ys c' T hp ex T' hp' hx g nt c hc U ro m hs w Pr γ a hnt hm hI hG hP hH hF hT
  have self : ∀ {T' : Tm} {ex : AExit}, CPost U ro m hs w Pr hp.bs γ a ex T hp (exitOf ex) a w := ⟨rfl, rfl, hF, Pr, γ, hI, Keeps.refl _ _, Evo.refl _ _ _ _, hP, hT⟩
  cases c' with
  | region slots l draw pairs => exact region_ok hV hR hx hc hnt hI hG hP hH hF hT
  | skip =>
    unfold acode at hx; cases hx
    unfold cCode at hc
    split at hc <;> first | (cases hc; done) | skip
    · exact wpIn_skip (self (T' := T))
    all_goals first
      | (obtain ⟨x, _, h⟩ := Option.map_eq_some_iff.1 hc; cases h; done)
      | (repeat' split at hc) <;> cases hc
  | ret =>
    unfold acode at hx; cases hx
    unfold cCode at hc
    split at hc <;> first | (cases hc; done) | skip
    · exact wpIn_ret (self (T' := T))
    all_goals first
      | (obtain ⟨x, _, h⟩ := Option.map_eq_some_iff.1 hc; cases h; done)
      | (repeat' split at hc) <;> cases hc
  | exit i =>
    unfold acode at hx; cases hx
    unfold cCode at hc
    split at hc <;> first | (cases hc; done) | skip
    · cases hc; exact wpIn_exit (self (T' := T))
    all_goals first
      | (obtain ⟨x, _, h⟩ := Option.map_eq_some_iff.1 hc; cases h; done)
      | (repeat' split at hc) <;> cases hc
  | bad => unfold acode at hx; cases hx
  | seq x y =>
    unfold cCode at hc
    split at hc <;> first | (cases hc; done) | skip
    · rename_i gx gy cx cy
      split at hc
      · rename_i x' y' h1 h2
        cases hc
        unfold acode at hx
        dsimp only at hx
        refine wpIn_seq ?_
        split at hx
        · rename_i T1 hp1 h3
          refine wpIn_mono (hCn ys x T hp .normal T1 hp1 h3 gx nt cx h1 U ro m hs w Pr γ a hnt hm hI hG hP hH hF hT) ?_
          rintro e a1 w1 ⟨rfl, h4, h5, Pr1, γ1, k1, k2, k3, k4, k5⟩
          refine wpIn_mono (hCn ys y T1 hp1 ex T' hp' hx gy nt cy h2 U ro m hs w1 Pr1 γ1 a1 (by rw [h4]; exact hnt) (Nat.le_trans hm k3.size) k1 (hG.mono k3.stays) k4 (hH.mono k3.size k3.stays k2) h5 k5) ?_
          intro e a2 w2 hp2
          exact CPost.trans h4 k2 k3 hp2
        · rename_i hne
          refine wpIn_mono (hCn ys x T hp ex T' hp' hx gx nt cx h1 U ro m hs w Pr γ a hnt hm hI hG hP hH hF hT) ?_
          intro e a1 w1 hp1
          have : ex ≠ .normal := fun h => by subst h; exact hne _ _ hx
          cases ex with
          | normal => exact absurd rfl this
          | exit i => obtain ⟨rfl, h⟩ := hp1; exact ⟨rfl, h⟩
          | ret => obtain ⟨rfl, h⟩ := hp1; exact ⟨rfl, h⟩
      · cases hc
    all_goals first
      | (obtain ⟨x, _, h⟩ := Option.map_eq_some_iff.1 hc; cases h; done)
      | (repeat' split at hc) <;> cases hc
  | cond o x y =>
    unfold cCode at hc
    split at hc <;> first | (cases hc; done) | skip
    case h_5 =>
      rename_i gc gx gy co cx cy
      split at hc
      · rename_i o' x' y' h0 h1 h2
        cases hc
        have hv := cOpd_rep hG hT h0
        unfold acode at hx
        dsimp only at hx
        split at hx
        · rename_i he
          rw [he] at hv
          exact wpIn_cond_true (bool_inv hv) (hCn ys x T hp ex T' hp' hx gx nt cx h1 U ro m hs w Pr γ a hnt hm hI hG hP hH hF hT)
        · rename_i he
          rw [he] at hv
          exact wpIn_cond_false (bool_inv hv) (hCn ys y T hp ex T' hp' hx gy nt cy h2 U ro m hs w Pr γ a hnt hm hI hG hP hH hF hT)
        · cases hx
      · cases hc
    all_goals first
      | (obtain ⟨x, _, h⟩ := Option.map_eq_some_iff.1 hc; cases h; done)
      | (repeat' split at hc) <;> cases hc
  | block id x =>
    unfold cCode at hc
    split at hc <;> first | (cases hc; done) | skip
    case h_6 =>
      rename_i _ gx i cx
      obtain ⟨x', h1, h⟩ := Option.map_eq_some_iff.1 hc
      cases h
      unfold acode at hx
      dsimp only at hx
      refine wpIn_block ?_
      split at hx
      · rename_i i T1 hp1 h3
        refine wpIn_mono (hCn ys x T hp (.exit i) T1 hp1 h3 gx nt cx h1 U ro m hs w Pr γ a hnt hm hI hG hP hH hF hT) ?_
        rintro e a1 w1 ⟨rfl, h4⟩
        show (if i = id then _ else _)
        split at hx
        · rename_i hi; cases hx; rw [if_pos hi]; exact ⟨rfl, h4⟩
        · rename_i hi; cases hx; rw [if_neg hi]; exact ⟨rfl, h4⟩
      · rename_i hne
        refine wpIn_mono (hCn ys x T hp ex T' hp' hx gx nt cx h1 U ro m hs w Pr γ a hnt hm hI hG hP hH hF hT) ?_
        intro e a1 w1 hp1
        cases ex with
        | normal => obtain ⟨rfl, h⟩ := hp1; exact ⟨rfl, h⟩
        | exit i => exact (hne _ _ _ hx).elim
        | ret => obtain ⟨rfl, h⟩ := hp1; exact ⟨rfl, h⟩
    all_goals first
      | (obtain ⟨x, _, h⟩ := Option.map_eq_some_iff.1 hc; cases h; done)
      | (repeat' split at hc) <;> cases hc
  | loop keep x =>
    unfold cCode at hc
    split at hc <;> first | (cases hc; done) | skip
    case h_7 =>
      rename_i _ gx cx
      obtain ⟨x', h1, h⟩ := Option.map_eq_some_iff.1 hc
      cases h
      unfold acode at hx
      dsimp only at hx
      exact wpIn_loop_rounds n (loop_ok h1 hH hG hm hnt rfl n (fun j hj => hC j (Nat.le_of_lt hj)) hx rfl hF hI (Keeps.refl _ _) (Evo.refl _ _ _ _) hP hT)
    all_goals first
      | (obtain ⟨x, _, h⟩ := Option.map_eq_some_iff.1 hc; cases h; done)
      | (repeat' split at hc) <;> cases hc
  | range f ps x y =>
    unfold cCode at hc
    split at hc <;> first | (cases hc; done) | skip
    case h_8 =>
      rename_i _ _ gx gy fo ps' cx cy
      split at hc
      · rename_i f' x' y' h0 h1 h2
        split at hc
        · rename_i hps
          cases hc
          exact range_ok hCn hR hEnt h1 h2 h0 (fun p hp => by simpa using List.all_eq_true.1 hps p hp) hx hnt hm hI hG hP hH hF hT
        · cases hc
      · cases hc
    all_goals first
      | (obtain ⟨x, _, h⟩ := Option.map_eq_some_iff.1 hc; cases h; done)
      | (repeat' split at hc) <;> cases hc

/-- The evaluator is right. -/
theorem sound {E : Env} (hE : EnvOk P G E) : ∀ n, (∀ j, j ≤ n → CodeOk P G E j) ∧ (∀ ys, CROk P G ys (acall E n ys)) ∧ CVOk P G (acallV E n)
  | 0 => by
    refine ⟨fun j hj => ?_, fun ys f args hp r hp' hx => ?_, fun f args r hx => ?_⟩
    · have : j = 0 := by omega
      subst this
      intro ys c' T hp ex T' hp' hx
      unfold acode at hx; cases hx
    · unfold acall at hx; cases hx
    · unfold acallV at hx; cases hx
  | n + 1 => by
    obtain ⟨h1, h2, h3⟩ := sound hE n
    have hn := h1 n (Nat.le_refl _)
    refine ⟨fun j hj => ?_, acall_ok hE hn, acallV_ok hE hn⟩
    by_cases hjn : j ≤ n
    · exact h1 j hjn
    · have : j = n + 1 := by omega
      subst this
      exact code_step hE h1 h2 h3
/-- A call by value. -/
theorem sound_call {E : Env} (hE : EnvOk P G E) {n : Nat} {f : FuncId} {args : List AV} {r : AV} (hx : acallV E n f args = some r) {vs : List Value} (hold : ∀ b i, Pr b i → b < w.heap.size) (hG : GOk G w Pr) (hA : RepL w Pr [] [] args vs) :
    FCall P f vs.toArray w (VPost w Pr r) := (sound hE n).2.2 f args r hx w Pr vs hold hG hA
end Go.Proofs.YtgajekpigkknnaaDoor.A

/- From the evaluator's answer to a statement's walk; arguments that are read. No condition. -/
namespace Go.Proofs.YtgajekpigkknnaaDoor.A
open Go Go.RowKit
variable {w w' : World} {Pr : Nat → Nat → Prop} {P : Program} {G : Nat → Option (List AV)} {E : Env}

/-- All that lies there is read for ever. -/
def Old (w : World) : Nat → Nat → Prop := fun b _ => b < w.heap.size
theorem Evo.below {Pr' : Nat → Nat → Prop} (h : Evo (w.heap.size ≤ ·) [] w Pr w' Pr') : Below w.heap.size w w' :=
  ⟨h.os, h.tape, h.output, h.size, fun k hk => h.same k (by omega)⟩
/-- A law that the evaluator finds true. -/
theorem law_walk (hE : EnvOk P G E) {f : FuncId} {args : List AV} (h : LV E f args = some (.bool true)) (hent : ∃ af, E.prim f = none ∧ E.fn f = some af) {vs : List Value} (hG : GOk G w (Old w)) (hA : RepL w (Old w) [] [] args vs) :
    Calls P f vs.toArray w fun e w' => e = .returned (.bool true) ∧ Below w.heap.size w w' := by
  obtain ⟨n, hn⟩ := LV_iff.1 h
  obtain ⟨af, h1, h2⟩ := hent
  have hent' : Ent P f := by
    obtain ⟨fm, g, hf, hname, hc⟩ := hE.fn f af h1 h2
    obtain ⟨c, rs, hb, _⟩ := cFunc_inv hc
    exact ent_of hf hname hb
  refine ((sound_call hE hn (Pr := Old w) (fun b i hp => hp) hG hA).calls hent').mono ?_
  rintro e w' ⟨v, rfl, Pr', k1, k2, k3⟩
  cases k3
  exact ⟨rfl, k1.below⟩

/-! ### What is read -/
/-- A plain value. -/
def avOf : Value → AV
  | .bool b => .bool b
  | .int k n => .int k n
  | .string s => .str s
  | _ => .undef
def plainV : Value → Bool
  | .bool _ | .int _ _ | .string _ => true
  | _ => false
theorem avOf_rep {Pr : Nat → Nat → Prop} {σ : List Blk} {γ : List Ghost} {ls : List Nat} (v : Value) (h : plainV v = true) : Rep w Pr σ γ ls (avOf v) v := by
  cases v <;> first | (cases h; done) | constructor
theorem avOf_data {v : Value} (h : plainV v = true) : (avOf v).isData = true := by cases v <;> first | rfl | cases h
theorem avOf_repL {Pr : Nat → Nat → Prop} {σ : List Blk} {γ : List Ghost} {vs : List Value} (h : ∀ v ∈ vs, plainV v = true) : RepL w Pr σ γ (vs.map avOf) vs :=
  ⟨by simp, fun i a v h1 h2 => by
    rw [List.getElem?_map, h2] at h1
    cases h1
    exact avOf_rep v (h v (List.mem_of_getElem? h2))⟩
theorem fits_plain : ∀ {ks : List J.CK} {cs : List Value}, J.Fits ks cs → ∀ u ∈ cs, plainV u = true
  | [], [], _, u, h => by cases h
  | [], _ :: _, h, _, _ => h.elim
  | _ :: _, [], h, _, _ => h.elim
  | k :: ks, c :: cs, h, u, hu => by
    rcases List.mem_cons.1 hu with rfl | hu
    · have := h.1
      cases k <;> simp only [J.CK.fits] at this
      all_goals first
        | (obtain ⟨_, rfl⟩ := this; rfl)
        | (obtain ⟨_, rfl, _⟩ := this; rfl)
    · exact fits_plain h.2 u hu
/-- A slice of structs of plain cells. -/
theorem slice_rep {k : Nat} (hk : 0 < k) {a : Option Addr} {css : List (List Value)} {cap : Nat} (hs : J.SlC w k a css) (hc : css.length ≤ cap) (hp : ∀ c ∈ css, ∀ u ∈ c, plainV u = true) : Rep w (Old w) [] [] [] (.ro (css.map (·.map avOf))) (.slice a css.length cap) := by
  cases css with
  | nil => exact .ro0 a cap
  | cons c0 css =>
    obtain ⟨h0, b, o, rfl, _⟩ := hs 0 c0 rfl
    have hlen : ∀ c ∈ c0 :: css, c.length = k := fun c hc => by
      obtain ⟨i, hi, rfl⟩ := List.mem_iff_getElem.1 hc
      exact (hs i _ (List.getElem?_eq_getElem hi)).1
    have hflat : ((c0 :: css).map (·.map avOf)).flatten = (c0 :: css).flatten.map avOf := by rw [List.map_flatten]
    have hplain : ∀ u ∈ (c0 :: css).flatten, plainV u = true := fun u hu => by
      obtain ⟨c, hc', hu'⟩ := List.mem_flatten.1 hu
      exact hp c hc' u hu'
    have h9 := Rep.ro (w := w) (Pr := Old w) (σ := []) (γ := []) (ls := []) ((c0 :: css).map (·.map avOf)) b o k cap (c0 :: css).flatten hk (fun r hr => by
        obtain ⟨c, hc', rfl⟩ := List.mem_map.1 hr
        simp [hlen c hc']) (by simpa using hc) (by rw [flatten_length _ hlen]; simp) (fun i v hv => ?_) (by
        rw [hflat]
        refine List.all_eq_true.2 fun x hx => ?_
        obtain ⟨u, hu, rfl⟩ := List.mem_map.1 hx
        exact avOf_data (hplain u hu)) (by rw [hflat]; exact (avOf_repL hplain).2)
    · simpa using h9
    · have hi : i < (c0 :: css).length * k := by rw [← flatten_length _ hlen]; exact (List.getElem?_eq_some_iff.1 hv).1
      have hq : i / k < (c0 :: css).length := (Nat.div_lt_iff_lt_mul hk).2 hi
      have hrow := flatten_row hlen (List.getElem?_eq_getElem hq)
      obtain ⟨_, b', o', e, hcell⟩ := hs (i / k) _ (List.getElem?_eq_getElem hq)
      cases e
      have hu : ((c0 :: css)[i / k])[i % k]? = some v := by
        have := congrArg (fun l => l[i % k]?) hrow
        simp only [List.getElem?_take, List.getElem?_drop] at this
        rw [if_pos (Nat.mod_lt _ hk)] at this
        rw [← this, Nat.mul_comm, Nat.div_add_mod]; exact hv
      have := hcell (i % k) v hu
      rw [Nat.add_assoc, Nat.mul_comm (i / k) k, Nat.div_add_mod] at this
      exact ⟨World.block_lt_of_cell? w _ this, this⟩
end Go.Proofs.YtgajekpigkknnaaDoor.A

/- A region that draws its order, whose operations only read and whose callees lay new blocks at most: walked once. Small words for walks. No condition. -/
set_option linter.unusedVariables false
set_option linter.unusedSimpArgs false
namespace Go.Proofs.YtgajekpigkknnaaDoor.J
open Go Go.RowKit

/-- What has come to a world: blocks behind it; a count of draws. -/
structure Gw where
  os : Array Obj
  d : Nat
instance : Inhabited Gw := ⟨⟨#[], 0⟩⟩
end Go.Proofs.YtgajekpigkknnaaDoor.J

/- Slices of elements of several cells: rows of a call's own; append; how they read. No condition. -/
set_option linter.unusedVariables false
set_option linter.unusedSimpArgs false
namespace Go.Proofs.YtgajekpigkknnaaDoor.J
open Go Go.RowKit

theorem eql_slice_nil {P : Program} {t e : TypeId} (h : P.underlying t = some (.slice e)) (w : World) (a : Option Addr) (n c : Nat) : (binOp .eql t (.slice a n c) (.slice none 0 0)).run P w = .ok (.bool a.isNone) w := by
  have key : ∀ d, (Op.equalIn (d + 1) t (.slice a n c) (.slice none 0 0)).run P w = .ok a.isNone w := fun d => by
    cases a <;> simp [Op.equalIn, run_underlying h]
  simp [binOp, Op.equal, Op.maxDepth, key 9999]

structure ElemT (P : Program) (t e : TypeId) (k : Nat) (z : Value) (bytes : Nat) : Prop where
  ht : P.underlying t = some (.slice e)
  info : (P.info? e).map (fun i => (i.zero, i.size, i.bytes)) = some (some z, k, bytes)
  zs : z.cells.size = k
  pos : 0 < k

theorem flat_get {k : Nat} : ∀ {css : List (List Value)}, (∀ c ∈ css, c.length = k) → ∀ {i : Nat} {c : List Value}, css[i]? = some c → ∀ {j : Nat} {u : Value}, c[j]? = some u → css.flatten[i * k + j]? = some u
  | [], _, i, c, h, _, _, _ => by simp at h
  | d :: css, hk, i, c, h, j, u, hj => by
    have hd := hk d (by simp)
    cases i with
    | zero =>
      simp at h; subst h
      have hlt := (List.getElem?_eq_some_iff.1 hj).1
      simp only [Nat.zero_mul, Nat.zero_add, List.flatten_cons]
      rw [List.getElem?_append_left hlt]; exact hj
    | succ i =>
      have := flat_get (css := css) (fun c hc => hk c (List.mem_cons_of_mem _ hc)) (i := i) (c := c) (by simpa using h) hj
      rw [List.flatten_cons, List.getElem?_append_right (by rw [hd, Nat.succ_mul]; omega), hd, show (i + 1) * k + j - k = i * k + j from by rw [Nat.succ_mul]; omega]
      exact this
theorem flat_len {k : Nat} : ∀ {css : List (List Value)}, (∀ c ∈ css, c.length = k) → css.flatten.length = css.length * k
  | [], _ => by simp
  | d :: css, hk => by
    rw [List.flatten_cons, List.length_append, flat_len (css := css) (fun c hc => hk c (List.mem_cons_of_mem _ hc)), hk d (by simp), List.length_cons, Nat.succ_mul]; omega

/-- Value v is a slice of the call's own (from block base on), of these elements. -/
def OwnL (w : World) (base : Nat) (e : TypeId) (k : Nat) (v : Value) (css : List (List Value)) : Prop :=
  w.ownsRow base e k v css.length css.flatten ∧ ∀ c ∈ css, c.length = k
theorem OwnL.nil (w : World) (base : Nat) (e : TypeId) (k : Nat) : OwnL w base e k (.slice none 0 0) [] := ⟨World.ownsRow_nil w base e k, fun c hc => by cases hc⟩
section
variable {w w' : World} {base : Nat} {e : TypeId} {k : Nat} {v : Value} {css : List (List Value)}
theorem OwnL.ext (h : OwnL w base e k v css) (he : Ext w w') : OwnL w' base e k v css := ⟨he.owns h.1, h.2⟩
theorem OwnL.gr {B : Nat} (h : OwnL w base e k v css) (he : Gr B w w') : OwnL w' base e k v css := ⟨he.owns h.1, h.2⟩
theorem OwnL.base_le (h : OwnL w base e k v css) : ∀ g, v.ownBlock = some g → base ≤ g ∧ g < w.heap.size := h.1.lt
theorem OwnL.form (h : OwnL w base e k v css) : ∃ a c, v = .slice a css.length c ∧ css.length ≤ c ∧ c ≤ maxLen := by
  rcases h.1.2 with ⟨h1, h2⟩ | ⟨g, cap, cur, h1, h2, h3, h4, h5, _⟩
  · exact ⟨none, 0, by rw [h1, h2], by omega, Nat.zero_le _⟩
  · exact ⟨_, cap, h1, h4, h5⟩
/-- Behind an append of the call's own. -/
theorem OwnL.grown {row : Option Nat} (h : OwnL w base e k v css) (hg : w.grownBy w' row) (hne : v.ownBlock = none ∨ v.ownBlock ≠ row) : OwnL w' base e k v css := ⟨h.1.kept hg hne, h.2⟩
theorem OwnL.other (h : OwnL w base e k v css) {a : Addr} (ha : v.ownBlock ≠ some a.block) (u : Value) : OwnL (w.setCell a u) base e k v css := ⟨ownsRow_setCell_other h.1 ha u, h.2⟩
theorem OwnL.alloc (h : OwnL w base e k v css) (o : Obj) : OwnL (w.alloc o) base e k v css := h.ext ((Ext.refl w).alloc o)
theorem OwnL.isCells (h : OwnL w base e k v css) : ∀ j, v.ownBlock = some j → ∃ o, w.heap[j]? = some o ∧ o.isCells = true := by
  intro j hj
  rcases h.1.2 with ⟨h1, h2⟩ | ⟨g, cap, cur, h1, h2, h3, _⟩
  · subst h1; simp [Value.ownBlock] at hj
  · subst h1; simp [Value.ownBlock] at hj; subst hj; exact ⟨_, h3, rfl⟩
end

/-- What grows by an append of the call's own, of what was there ahead. -/
theorem below_own {n : Nat} {w0 w w' : World} {base : Nat} {e : TypeId} {k : Nat} {v : Value} {css : List (List Value)} (h : Below n w0 w) (hn : n ≤ w.heap.size) (ho : OwnL w base e k v css) (hb : n ≤ base) (hg : w.grownBy w' v.ownBlock) : Below n w0 w' :=
  h.grown hg hn (fun j hj => Nat.le_trans hb (ho.base_le j hj).1)
theorem ext_own {w0 w w' : World} {base : Nat} {e : TypeId} {k : Nat} {v : Value} {css : List (List Value)} (h : Ext w0 w) (ho : OwnL w base e k v css) (hb : w0.heap.size ≤ base) (hg : w.grownBy w' v.ownBlock) : Ext w0 w' :=
  below_own h h.size ho hb hg
theorem Keep0.own {w0 w w' : World} {base : Nat} {e : TypeId} {k : Nat} {v : Value} {css : List (List Value)} (h : Keep0 w0 w) (ho : OwnL w base e k v css) (hg : w.grownBy w' v.ownBlock) : Keep0 w0 w' := h.grown hg ho.isCells

theorem run_append_l_none {P : Program} {W : World} {t e : TypeId} {k : Nat} {z : Value} {bytes : Nat} (T : ElemT P t e k z bytes) (ty : TypeId) (base : Nat) {v : Value} {css : List (List Value)} (ho : OwnL W base e k v css) (c : Nat) :
    (Builtin.append_ #[t, t] ty #[v, .slice none 0 c]).run P W = .ok v W := by
  obtain ⟨i, hi, hz⟩ := Option.map_eq_some_iff.1 T.info
  rcases ho.1.2 with ⟨rfl, h⟩ | ⟨g, cap, cur, rfl, _, _, hnc, _⟩
  · simp [Builtin.append_, run_underlying T.ht, sizeOf, typeInfo, hi, Builtin.lenOf, Builtin.firstCells]
  · simp [Builtin.append_, run_underlying T.ht, sizeOf, typeInfo, hi, Builtin.lenOf, Builtin.firstCells, hnc, storeCells]

theorem run_append_l {P : Program} {W : World} {t e : TypeId} {k : Nat} {z : Value} {bytes : Nat} (T : ElemT P t e k z bytes) (ty : TypeId) (base : Nat) {v : Value} {css : List (List Value)} (ho : OwnL W base e k v css)
    {A : Option Addr} {c : Nat} {news : List (List Value)} (hn : SlC W k A news) (h1 : ∀ cs ∈ news, ∀ u ∈ cs, u.oneCell' = true) (hb : (css.length + news.length) * bytes ≤ 140737488355328) (hbb : 0 < bytes) (hbase : base ≤ W.heap.size) :
    ∃ v' W', (Builtin.append_ #[t, t] ty #[v, .slice A news.length c]).run P W = .ok v' W' ∧ OwnL W' base e k v' (css ++ news) ∧ W.grownBy W' v.ownBlock := by
  obtain ⟨i, hi, hz⟩ := Option.map_eq_some_iff.1 T.info
  simp only [Prod.mk.injEq] at hz
  obtain ⟨hz0, hz1, hz2⟩ := hz
  have hnl : ∀ c ∈ news, c.length = k := fun c hc => by obtain ⟨j, hj⟩ := List.mem_iff_getElem?.1 hc; exact (hn j c hj).1
  have hlen : css.length + news.length ≤ maxLen := by
    have : css.length + news.length ≤ (css.length + news.length) * bytes := Nat.le_mul_of_pos_right _ hbb
    simp only [maxLen]; omega
  cases A with
  | none =>
    have hnil : news = [] := by
      cases news with
      | nil => rfl
      | cons c r => obtain ⟨_, b, o, h2, _⟩ := hn 0 c rfl; cases h2
    subst hnil
    exact ⟨v, W, run_append_l_none T ty base ho c, by simpa using ho, ⟨rfl, rfl, rfl, Nat.le_refl _, fun _ _ _ => rfl⟩⟩
  | some a =>
    have hnews : ∀ j u, news.flatten[j]? = some u → W.cell? (a.add j) = some u := by
      intro j u hj
      have hpos := T.pos
      have hjl : j < news.length * k := by rw [← flat_len hnl]; exact (List.getElem?_eq_some_iff.1 hj).1
      have hq : j / k < news.length := (Nat.div_lt_iff_lt_mul hpos).2 hjl
      have hr : j % k < k := Nat.mod_lt _ hpos
      have hcl := hnl (news[j / k]) (List.getElem_mem hq)
      obtain ⟨_, b, o, h2, h3⟩ := hn (j / k) (news[j / k]) (List.getElem?_eq_getElem hq)
      have hu : (news[j / k])[j % k]? = some ((news[j / k])[j % k]'(by omega)) := List.getElem?_eq_getElem (by omega)
      have h4 := h3 _ _ hu
      have h5 := flat_get hnl (List.getElem?_eq_getElem hq) hu
      have hdm : j / k * k + j % k = j := by rw [Nat.mul_comm]; exact Nat.div_add_mod j k
      rw [hdm, hj] at h5
      cases h2
      rw [add_eq, show o + j = o + j / k * k + j % k from by omega, h4, ← h5]
    have hone : ∀ u ∈ news.flatten, u.oneCell' = true := by
      intro u hu
      obtain ⟨c, hc, hu⟩ := List.mem_flatten.1 hu
      exact h1 c hc u hu
    obtain ⟨v', W', r1, r2, r3, _⟩ := run_append_own (P := P) W base t ty e i z k bytes T.ht hi hz0 hz1 hz2 T.zs T.pos v css.length css.flatten ho.1 a news.length c news.flatten (flat_len hnl) hnews hone hlen hb hbase
    refine ⟨v', W', r1, ⟨by rw [List.flatten_append, List.length_append]; exact r2, fun c hc => (List.mem_append.1 hc).elim (ho.2 c) (hnl c)⟩, r3⟩

/-- The walk stands at 'append(s, x...)', s of the call's own. -/
theorem wpl_append {P : Program} {W : World} {ops : Array Oper} {rest : List Oper} {o : Oper} {a : Act} {Q : Exit → Act → World → Prop} (hg : o.guard = none) (s x : Operand) (t : TypeId)
    (hop : o.op = .call { callee := .builtin .append, args := #[s, x], argTypes := #[t, t] }) {e : TypeId} {k : Nat} {z : Value} {bytes : Nat} (T : ElemT P t e k z bytes) (base : Nat) {v : Value} {css : List (List Value)}
    (hs : a.eval s = v) (ho : OwnL W base e k v css) {A : Option Addr} {n c : Nat} {news : List (List Value)} (hx : a.eval x = .slice A n c) (hnl : n = news.length) (hn : SlC W k A news) (h1 : ∀ cs ∈ news, ∀ u ∈ cs, u.oneCell' = true)
    (hb : (css.length + news.length) * bytes ≤ 140737488355328) (hbb : 0 < bytes) (hbase : base ≤ W.heap.size)
    (h : ∀ v' W', OwnL W' base e k v' (css ++ news) → W.grownBy W' v.ownBlock → wpList P ops Q rest (a.put o.dst v') W') : wpList P ops Q (o :: rest) a W := by
  subst hnl
  refine wpList_plain hg fun K hK => ?_
  obtain ⟨v', W', r1, r2, r3⟩ := run_append_l T o.type base ho (c := c) hn h1 hb hbb hbase
  unfold Oper.wp
  simp [execOp, hop, resolve, invoke, builtin, hs, hx, r1, Result.andThen]
  exact hK _ _ (h v' W' r2 r3)
/-- As wpl_append, with the count of draws: the walk stands at 'append(s, x...)', s of the call's own. -/
theorem wpl_append_d {P : Program} {W : World} {ops : Array Oper} {rest : List Oper} {o : Oper} {a : Act} {Q : Exit → Act → World → Prop} (hg : o.guard = none) (s x : Operand) (t : TypeId)
    (hop : o.op = .call { callee := .builtin .append, args := #[s, x], argTypes := #[t, t] }) {e : TypeId} {k : Nat} {z : Value} {bytes : Nat} (T : ElemT P t e k z bytes) (base : Nat) {v : Value} {css : List (List Value)}
    (hs : a.eval s = v) (ho : OwnL W base e k v css) {A : Option Addr} {n c : Nat} {news : List (List Value)} (hx : a.eval x = .slice A n c) (hnl : n = news.length) (hn : SlC W k A news) (h1 : ∀ cs ∈ news, ∀ u ∈ cs, u.oneCell' = true)
    (hb : (css.length + news.length) * bytes ≤ 140737488355328) (hbb : 0 < bytes) (hbase : base ≤ W.heap.size)
    (h : ∀ v' W', OwnL W' base e k v' (css ++ news) → W.grownBy W' v.ownBlock → W.drawn ≤ W'.drawn → wpList P ops Q rest (a.put o.dst v') W') : wpList P ops Q (o :: rest) a W := by
  subst hnl
  refine wpList_plain hg fun K hK => ?_
  obtain ⟨v', W', r1, r2, r3⟩ := run_append_l T o.type base ho (c := c) hn h1 hb hbb hbase
  unfold Oper.wp
  simp [execOp, hop, resolve, invoke, builtin, hs, hx, r1, Result.andThen]
  exact hK _ _ (h v' W' r2 r3 (Go.Proofs.YtgajekpigkknnaaDoor.A.run_drawn _ _ r1))
end Go.Proofs.YtgajekpigkknnaaDoor.J

/- A function of the library that is taken as told: bytes compared. No condition. -/
namespace Go.Proofs.YtgajekpigkknnaaDoor.A
open Go
variable {U : Nat → Prop} {w w' : World} {Pr Pr' : Nat → Nat → Prop} {σ σ' : List Blk} {γ γ' : List Ghost} {ls : List Nat} {P : Program} {G : Nat → Option (List AV)}

def byteOf : List AV → Option UInt8
  | [.int .u8 n] => some n.toNat.toUInt8
  | _ => none
def pCmp : List AV → List Blk → Option (AV × List Blk)
  | [a, b], bs => match rowsOf bs a, rowsOf bs b with
    | some r, some s => match r.mapM byteOf, s.mapM byteOf with
      | some x, some y => some (.int .i64 (Extern.BytealgCompare.cmp ⟨x.toArray⟩ ⟨y.toArray⟩), bs)
      | _, _ => none
    | _, _ => none
  | _, _ => none

theorem byteOf_inv {r : List AV} {x : UInt8} (h : byteOf r = some x) : ∃ n, r = [.int .u8 n] ∧ x = n.toNat.toUInt8 := by
  unfold byteOf at h
  split at h
  · cases h; exact ⟨_, rfl, rfl⟩
  · cases h
theorem loadBytes_run {b : Nat} : ∀ {rows : List (List AV)} {vs : List Value} {x : List UInt8} {acc : ByteArray} {off : Nat}, w.rangeAt b off vs → RepL w Pr [] [] rows.flatten vs → rows.mapM byteOf = some x →
    (Extern.Bytes.loadBytes ⟨b, off, none⟩ rows.length acc).run P w = .ok ⟨acc.data ++ x.toArray⟩ w
  | [], vs, x, acc, off, hr, hR, hm => by
    have := mapM_nil_inv hm; subst this
    simp [Extern.Bytes.loadBytes]
  | r :: rows, vs, x, acc, off, hr, hR, hm => by
    obtain ⟨y, x', h1, h2, rfl⟩ := mapM_cons_inv hm
    obtain ⟨n, rfl, rfl⟩ := byteOf_inv h1
    simp only [List.flatten_cons, List.singleton_append] at hR
    obtain ⟨v, vs', rfl, h3, h4⟩ := hR.cons_inv
    have hv := int_inv h3
    subst hv
    have hc : w.cell? ⟨b, off, none⟩ = some (.int .u8 n) := by have := hr 0 _ rfl; simpa using this
    have hr' : w.rangeAt b (off + 1) vs' := fun j u hj => by
      have := hr (j + 1) u (by simpa using hj)
      rw [show off + 1 + j = off + (j + 1) from by omega]; exact this
    have ih := loadBytes_run (acc := acc.push n.toNat.toUInt8) hr' h4 h2
    simp only [List.length_cons, Extern.Bytes.loadBytes, Sem.run_bind, run_load, hc, Result.andThen_ok, Addr.add_mid]
    rw [ih]
    congr 2
    simp [ByteArray.push]
theorem bytesOf_run (h : Inv U w Pr σ γ) {a : AV} {v : Value} (ha : Rep w Pr σ γ ls a v) {rows : List (List AV)} (hr : rowsOf σ a = some rows) {x : List UInt8} (hm : rows.mapM byteOf = some x) : (Extern.Bytes.bytesOf v).run P w = .ok ⟨x.toArray⟩ w := by
  obtain ⟨base, c, rfl, hrows⟩ := rowsOf_rep h ha hr
  rcases hrows with rfl | ⟨b, off, k, vs, rfl, hk, hrk, hd, hrg, hR⟩
  · have := mapM_nil_inv hm; subst this
    cases base with
    | none => simp [Extern.Bytes.bytesOf]; rfl
    | some ad => simp [Extern.Bytes.bytesOf, Extern.Bytes.loadBytes]; rfl
  · have := loadBytes_run (P := P) (acc := .empty) hrg hR hm
    simp only [Extern.Bytes.bytesOf]
    rw [this]
    congr 2
    simp
theorem pCmp_ok {f : FuncId} {fm : Func} (hf : P.funcs[f]? = some fm) (hn : (fm.name == "runtime.NumGoroutine") = false) (hb : fm.body.isNone = true) (h1 : Extern.findNext fm = none) (h2 : Extern.find fm = some Extern.BytealgCompare.compare) : PrimOk P G f pCmp := by
  intro args bs r bs' h U w Pr γ vs hI hG hA
  unfold pCmp at h
  split at h
  · rename_i a b
    split at h
    · rename_i ra rb ha hb'
      split at h
      · rename_i x y hx hy
        cases h
        obtain ⟨v1, vs1, rfl, h3, h4⟩ := hA.cons_inv
        obtain ⟨v2, vs2, rfl, h5, h6⟩ := h4.cons_inv
        rw [h6.nil_inv]
        refine .inr ⟨_, w, ?_, Pr, γ, hI, Keeps.refl _ _, Evo.refl _ _ _ _, .int _ _⟩
        rw [run_callFunc_extern hf hn hb h1 h2]
        have e1 := bytesOf_run (P := P) hI h3 ha hx
        have e2 := bytesOf_run (P := P) hI h5 hb' hy
        show (((do pure (goInt (Extern.BytealgCompare.cmp (← Extern.Bytes.bytesOf v1) (← Extern.Bytes.bytesOf v2)))) : Sem Value).run P w).andThen _ = _
        simp only [Sem.run_bind, e1, e2, Result.andThen_ok, Sem.run_pure, goInt]
      · cases h
    · cases h
  · cases h
end Go.Proofs.YtgajekpigkknnaaDoor.A

/- A function of the library that is taken as told: slices.Clone. No condition. -/
namespace Go.Proofs.YtgajekpigkknnaaDoor.A
open Go
variable {U : Nat → Prop} {w w' : World} {Pr Pr' : Nat → Nat → Prop} {σ σ' : List Blk} {γ γ' : List Ghost} {ls : List Nat} {P : Program} {G : Nat → Option (List AV)}

def pClone (e : TypeId) (k bytes : Nat) : List AV → List Blk → Option (AV × List Blk)
  | [a], [] => match rowsOf [] a with
    | some rows => if (rows.all fun r => r.length == k) = true ∧ rows.length * bytes ≤ 140737488355328 ∧ 0 < k then some (.lis 0 0 0 rows.length, [.lst 0 0 e k rows]) else none
    | none => none
  | _, _ => none

theorem chunks_flatten {k : Nat} : ∀ (n : Nat) (vs : List Value), vs.length = n * k → ((List.range n).map fun i => (vs.drop (i * k)).take k).flatten = vs
  | 0, vs, h => by
    have : vs = [] := List.eq_nil_of_length_eq_zero (by simpa using h)
    subst this; rfl
  | n + 1, vs, h => by
    rw [List.range_succ_eq_map, List.map_cons, List.map_map, List.flatten_cons]
    have hd : (vs.drop k).length = n * k := by rw [List.length_drop, h, Nat.succ_mul]; omega
    have ih := chunks_flatten n (vs.drop k) hd
    have e : ((fun i => (vs.drop (i * k)).take k) ∘ Nat.succ) = fun i => ((vs.drop k).drop (i * k)).take k := by
      funext i; simp only [Function.comp, List.drop_drop, Nat.succ_mul]; rw [Nat.add_comm k]
    rw [e, ih]
    simp
theorem ext_evo (h : J.Ext w w') (hd : w.drawn ≤ w'.drawn) (hu : ∀ b, w.heap.size ≤ b → U b) : Evo U [] w Pr w' Pr :=
  ⟨h.os, h.tape, h.output, h.size, fun b hb => by
      have hlt : b < w.heap.size := Nat.lt_of_not_le fun hx => hb (hu b hx)
      exact h.block b hlt, fun b o h1 _ _ => h.heap h1, fun b i hp => ⟨hp, fun v hv => h.cell hv⟩, fun _ _ _ h => h, hd⟩
theorem pClone_ok {f : FuncId} {e : TypeId} {k bytes : Nat} (hent : Ent P f)
    (hcall : ∀ a c css w, J.SlC w k a css → (∀ cs ∈ css, ∀ u ∈ cs, u.oneCell' = true) → css.length * bytes ≤ 140737488355328 → Calls P f #[.slice a css.length c] w fun e' w' => ∃ v, e' = .returned v ∧ J.OwnL w' w.heap.size e k v css ∧ J.Ext w w' ∧ w.drawn ≤ w'.drawn) :
    PrimOk P G f (pClone e k bytes) := by
  intro args bs r bs' h U w Pr γ vs hI hG hA
  unfold pClone at h
  split at h
  · rename_i a
    split at h
    · rename_i rows hr
      split at h
      · rename_i hcond
        obtain ⟨hlen, hby, hk⟩ := hcond
        cases h
        have hγ : γ = [] := List.eq_nil_of_length_eq_zero hI.len
        subst hγ
        obtain ⟨v, vs1, rfl, h3, h4⟩ := hA.cons_inv
        rw [h4.nil_inv]
        have hrk : ∀ r ∈ rows, r.length = k := fun r hr => by simpa using List.all_eq_true.1 hlen r hr
        obtain ⟨base, c, rfl, hrows⟩ := rowsOf_rep hI h3 hr
        -- the cells, row by row
        have hcells : ∃ us : List Value, us.length = rows.length * k ∧ RepL w Pr [] [] rows.flatten us ∧ dataL rows.flatten = true ∧ (rows ≠ [] → ∃ b off, base = some ⟨b, off, none⟩ ∧ w.rangeAt b off us) := by
          rcases hrows with rfl | ⟨b, off, k', us, rfl, hk', hrk', hd, hrg, hR⟩
          · exact ⟨[], by simp, by simpa using RepL.nil, rfl, fun h => absurd rfl h⟩
          · refine ⟨us, by rw [hR.1, flatten_length _ hrk], hR, hd, fun _ => ⟨b, off, rfl, hrg⟩⟩
        obtain ⟨us, hul, hR, hd, hrg⟩ := hcells
        obtain ⟨css, hcss⟩ : ∃ css, css = (List.range rows.length).map fun i => (us.drop (i * k)).take k := ⟨_, rfl⟩
        have hflat : css.flatten = us := by rw [hcss]; exact chunks_flatten _ _ hul
        have hcl : css.length = rows.length := by rw [hcss]; simp
        have hone : ∀ u ∈ us, u.oneCell' = true := hR.dataOne hd
        have hSl : J.SlC w k base css := by
          intro i cs hi
          rw [hcss, List.getElem?_map] at hi
          obtain ⟨j, hj, rfl⟩ := Option.map_eq_some_iff.1 hi
          have hij : i < rows.length ∧ j = i := by
            obtain ⟨q1, q2⟩ := List.getElem?_eq_some_iff.1 hj
            simp at q1 q2
            exact ⟨q1, q2.symm⟩
          obtain ⟨hij, rfl⟩ := hij
          have hle : j * k + k ≤ rows.length * k := by rw [← Nat.succ_mul]; exact Nat.mul_le_mul_right _ hij
          refine ⟨by simp; omega, ?_⟩
          obtain ⟨b, off, hb, hra⟩ := hrg (fun h => by rw [h] at hij; simp at hij)
          refine ⟨b, off, hb, fun q u hq => ?_⟩
          have := range_piece hra (j * k) k q u hq
          exact this
        have hcall' := hcall base c css w hSl (fun cs hcs u hu => hone u (by rw [← hflat]; exact List.mem_flatten.2 ⟨cs, hcs, hu⟩)) (by rw [hcl]; exact hby)
        rw [hcl] at hcall'
        refine .inl ⟨hent _ _, hcall'.mono ?_⟩
        rintro e' w1 ⟨v, rfl, ⟨⟨ho1, ho2⟩, _⟩, hext, hdr⟩
        refine ⟨v, rfl, Pr, ?_⟩
        have hE : Evo U [] w Pr w1 Pr := ext_evo hext hdr hI.new
        have hI1 : Inv U w1 Pr [] [] := hI.world hE (fun j b hb => by unfold memB at hb; simp at hb) (fun _ _ _ _ h => h) (fun b i hp => Nat.lt_of_lt_of_le (hI.old b i hp) hE.size)
        obtain ⟨hI2, hK2⟩ := hI1.slots 1
        have hv : LstV w1 e k v rows.length us := by
          refine ⟨hul, ?_⟩
          rcases ho2 with ⟨h5, h6⟩ | ⟨g, cap, cur, h5, h6, h7, h8, h9, h10, h11⟩
          · exact .inl ⟨by rw [← hcl]; exact h6, none, h5⟩
          · rw [hcl] at h5 h8 h11
            cases cap with
            | zero => exact .inl ⟨by omega, some ⟨g, 0, none⟩, by rw [h5]; congr 1; omega⟩
            | succ cap => exact .inr ⟨g, cap, cur, h5, h7, h8, h9, h10, by rw [h11, hflat]⟩
        have hbl : ∀ b, blkOf v = some b → w.heap.size ≤ b := fun b hb => by
          rcases ho2 with ⟨h5, h6⟩ | ⟨g, cap, cur, h5, h6, h7, h8, h9, h10, h11⟩
          · rw [h5] at hb; cases hb
          · rw [h5] at hb; cases cap <;> cases hb; exact h6
        obtain ⟨h5, h6⟩ := hI2.adopt (s := 0) rfl e k rows v us hk hrk hd hv ((hR.mono hE.stays (Keeps.refl _ _)).data hd) hone (fun b hb => ⟨hI.new b (hbl b hb), fun i hp => by have := hI.old b i hp; have := hbl b hb; omega, fun j hj => by
          unfold memB at hj
          cases j <;> simp at hj⟩)
        refine ⟨_, h5, hK2.trans h6, hE, .lis 0 0 rows.length 0 0 e k rows ⟨0, v⟩ v rfl rfl (by omega) ?_⟩
        obtain ⟨_, ⟨hn0, a', hx⟩ | ⟨g, c', cur, hx, _, hc, _⟩⟩ := hv
        · rw [hx, hn0]; exact ⟨a', 0, 0, rfl, .inl ⟨rfl, rfl, Nat.le_refl _, fun h => absurd rfl h⟩⟩
        · rw [hx]; exact ⟨_, _, _, rfl, .inl ⟨rfl, rfl, hc, fun _ => ⟨g, rfl⟩⟩⟩
      · cases h
    · cases h
  · cases h
end Go.Proofs.YtgajekpigkknnaaDoor.A
