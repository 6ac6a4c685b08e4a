/- Part 7 of the proofs of these statements. No condition. -/
import Derived.Test.YtnpdaegfmfkghaaDoorM6
import Derived.Shelf.Spec.SlicesGrow
import Derived.Shelf.SlSortCmp.NoneTotal
import Derived.Test.YtnpdaegfmfkghaaDoorProg
import Derived.KernelRfl
set_option linter.unusedVariables false
set_option linter.unusedSimpArgs false
/- A function of the library that is taken as told: slices.Grow. No condition. -/
set_option linter.unusedVariables false
set_option linter.unusedSimpArgs false
namespace Go.Proofs.YtnpdaegfmfkghaaDoor.A
open Go Go.Shelf
variable {U : Nat → Prop} {w w' : World} {Pr Pr' : Nat → Nat → Prop} {σ σ' : List Blk} {γ γ' : List Ghost} {ls : List Nat} {P : Program} {G : Nat → Option (List AV)}
def pGrow (e : TypeId) (k bytes : Nat) : List AV → List Blk → Option (AV × List Blk)
  | [.lis id g 0 len, .int .i64 n], bs =>
    match bs[id]? with
    | some (.lst 0 g' e' k' rows) =>
      if (g' = g ∧ e' = e ∧ k' = k ∧ rows.length = len) ∧ 0 ≤ n ∧ (len + n.toNat) * bytes ≤ 140737488355328 ∧ len + n.toNat ≤ 4611686018427387904 then some (.lis id (g + 1) 0 len, bs.set id (.lst 0 (g + 1) e k rows)) else none
    | _ => none
  | [.clip [], .int .i64 n], bs =>
    if 0 ≤ n ∧ n.toNat * bytes ≤ 140737488355328 ∧ n.toNat ≤ 4611686018427387904 then some (.lis bs.length 0 0 0, bs ++ [.lst 0 0 e k []]) else none
  | _, _ => none
theorem grow_call {ρ : Ren} (L : Lays8.n4 P ρ) {i0 : TypeInfo} {z : Value} (hi0 : P.info? (ρ.t 25) = some i0) (hz0 : i0.zero = some z) (hzs : z.cells.size = i0.size) (hs0 : 0 < i0.size)
    (base : Option Addr) (l c n : Nat) (us : List Value) (w : World) (hlc : l ≤ c) (hcm : c ≤ maxLen) (hbig : (l + n) * i0.bytes ≤ 140737488355328) (h63 : l + n ≤ 4611686018427387904)
    (hul : us.length = l * i0.size) (hnil : base = none → c = 0) (hcs : ∀ a, base = some a → c ≠ 0 → ∃ b cur e, a = ⟨b, 0, none⟩ ∧ w.heap[b]? = some (.cells cur e (0, 0)) ∧ cur.size = c * i0.size ∧ cur.toList.take (l * i0.size) = us) :
    Calls P (ρ.f 4) #[.slice base l c, .int .i64 n] w fun e w' => (e = .returned (.slice base l c) ∧ w' = w) ∨
      ∃ c' cur', e = .returned (.slice (some ⟨w.heap.size, 0, none⟩) l (c' + 1)) ∧ l ≤ c' + 1 ∧ c' + 1 ≤ maxLen ∧ w' = w.drew.alloc (.cells cur' (ρ.t 25)) ∧ cur'.size = (c' + 1) * i0.size ∧ cur'.toList.take (l * i0.size) = us := by
  unfold maxLen at hcm
  rcases Nat.lt_or_ge c (l + n) with hroom | hroom
  · obtain ⟨cs, hcl, htk, hcs'⟩ : ∃ cs : List Value, cs.length = c * i0.size ∧ cs.take (l * i0.size) = us ∧ ∀ a, base = some a → ∀ j v, cs[j]? = some v → w.cell? (a.add j) = some v := by
      by_cases h0 : c = 0
      · subst h0
        obtain rfl : l = 0 := by omega
        refine ⟨[], by simp, ?_, fun a _ j v h => by simp at h⟩
        have : us = [] := List.eq_nil_of_length_eq_zero (by simpa using hul)
        rw [this]; simp
      · cases base with
        | none => exact absurd (hnil rfl) h0
        | some a =>
          obtain ⟨b, cur, e, rfl, h1, h2, h3⟩ := hcs a rfl h0
          refine ⟨cur.toList, by simpa using h2, h3, fun a' ha j v hj => ?_⟩
          cases ha
          have ea : Addr.add ⟨b, 0, none⟩ j = ⟨b, j, none⟩ := by cases j <;> simp [Addr.add]
          rw [ea]
          simp only [World.cell?, h1]
          rw [← Array.getElem?_toList]; exact hj
    refine (Any8.slices_Grow_grow L i0 z hi0 hz0 hs0 base l c n cs w hlc hroom hbig h63 hcl hnil hcs').mono ?_
    rintro e w' ⟨rfl, rfl⟩
    have hG := grownCap_ge w (l + n) c (ρ.t 25)
    have hG2 := grownCap_le_maxLen w (l + n) c (ρ.t 25) (by unfold maxLen; omega)
    generalize grownCap w (l + n) c (ρ.t 25) = G at *
    obtain ⟨G, rfl⟩ : ∃ G', G = G' + 1 := ⟨G - 1, by omega⟩
    refine .inr ⟨G, _, rfl, by omega, hG2, rfl, ?_, ?_⟩
    · simp only [Array.size_append, size_zeroCells, List.size_toArray, hcl, hzs, ← Nat.add_mul]
      congr 1; omega
    · rw [Array.toList_append, Array.toList_append, List.append_assoc, List.take_append_of_le_length (by rw [hcl]; exact Nat.mul_le_mul_right _ hlc)]
      exact htk
  · refine (Any8.slices_Grow_room L base l c n w hlc hcm (by omega) hroom).mono ?_
    rintro e w' ⟨rfl, rfl⟩
    exact .inl ⟨rfl, rfl⟩
theorem alloc_evo (o : Obj) (hu : ∀ b, w.heap.size ≤ b → U b) : Evo U [] w Pr (w.drew.alloc o) Pr := ext_evo (J.Ext.alloc (J.Ext.drew (J.Ext.refl w)) o) (Nat.le_succ _) hu
theorem pGrow_ok {ρ : Ren} (L : Lays8.n4 P ρ) {i0 : TypeInfo} {z : Value} (hi0 : P.info? (ρ.t 25) = some i0) (hz0 : i0.zero = some z) (hzs : z.cells.size = i0.size) (hs0 : 0 < i0.size) (hent : Ent P (ρ.f 4)) :
    PrimOk P G (ρ.f 4) (pGrow (ρ.t 25) i0.size i0.bytes) := by
  intro args bs r bs' h U w Pr γ vs hI hG hA
  unfold pGrow at h
  split at h
  · rename_i id g len n
    split at h
    case h_2 => cases h
    rename_i g' e' k' rows hid
    split at h
    case isFalse => cases h
    rename_i hc
    obtain ⟨⟨rfl, rfl, rfl, hlen⟩, h0, h1, h2⟩ := hc
    cases h
    obtain ⟨v0, vs1, rfl, r0, hA⟩ := hA.cons_inv
    obtain ⟨v1, vs2, rfl, r1, hA⟩ := hA.cons_inv
    rw [hA.nil_inv]
    obtain ⟨m, rfl⟩ : ∃ m : Nat, n = (m : Int) := ⟨n.toNat, by omega⟩
    simp only [Int.toNat_natCast] at h1 h2
    have hq := int_inv r1
    subst hq
    subst hlen
    obtain ⟨gh, us, hg, hk, hrk, hd, hV, hR, hone⟩ := hI.lst id 0 g' _ _ rows hid
    have hidl := (List.getElem?_eq_some_iff.1 hid).1
    have hγl : id < γ.length := (List.getElem?_eq_some_iff.1 hg).1
    have hM : MutIs gh.v i0.size 0 rows.length v0 := by
      cases r0 with
      | lisOld id gen off len lk g2 e k rows u h3 h4 ho => rw [hid] at h3; cases h3; omega
      | lis id off len lk g2 e k rows gh2 u h3 h4 h5 h6 => rw [hid] at h3; cases h3; rw [hg] at h4; cases h4; exact h6
    obtain ⟨base, n0, cap, hgv, ⟨_, rfl, hlc, hbs⟩ | ⟨h0, _⟩⟩ := hM
    case inr => exact absurd h0 (Nat.lt_irrefl 0)
    have hul := hV.1
    have hcall := grow_call (P := P) L hi0 hz0 hzs hs0 base rows.length cap m us w hlc
      (by
        obtain ⟨_, ⟨_, a, hx⟩ | ⟨g, c, cur, hx, _, _, hcm, _⟩⟩ := hV
        · rw [hgv] at hx; cases hx; exact Nat.zero_le _
        · rw [hgv] at hx; cases hx; exact hcm) h1 h2 hul
      (fun hb => by
        obtain ⟨_, ⟨_, a, hx⟩ | ⟨g, c, cur, hx, _, _, hcm, _⟩⟩ := hV
        · rw [hgv] at hx; cases hx; rfl
        · rw [hgv] at hx; cases hx; cases hb)
      (fun a ha hc => by
        obtain ⟨_, ⟨_, a', hx⟩ | ⟨g, c, cur, hx, h3, _, hcm, h4, h5⟩⟩ := hV
        · rw [hgv] at hx; cases hx; exact absurd rfl hc
        · rw [hgv] at hx; cases hx; cases ha
          exact ⟨g, cur, _, rfl, h3, h4, h5⟩)
    refine .inl ⟨hent _ _, hcall.mono ?_⟩
    rintro e1 w1 (⟨rfl, rfl⟩ | ⟨c', cur', rfl, hlc', hcm', rfl, hsz, htk⟩)
    · obtain ⟨h3, h4⟩ := hI.growLst hid hg rows gh.v us (Evo.refl U [] w1 Pr) (fun _ _ _ => rfl) (fun b hb => .inl hb) hrk hd hV hR hone
      exact ⟨_, rfl, Pr, _, h3, h4, Evo.refl _ _ _ _, .lis id 0 _ 0 (g' + 1) _ _ rows ⟨0, gh.v⟩ _ (List.getElem?_set_self hidl) (List.getElem?_set_self hγl) (by omega) ⟨base, n0, cap, hgv, .inl ⟨rfl, rfl, hlc, hbs⟩⟩⟩
    · have hE := alloc_evo (w := w) (Pr := Pr) (U := U) (.cells cur' (ρ.t 25)) hI.new
      have hh : (w.drew.alloc (.cells cur' (ρ.t 25))).heap[w.heap.size]? = some (.cells cur' (ρ.t 25) (0, 0)) := by show (w.heap.push _)[w.heap.size]? = _; simp
      obtain ⟨h3, h4⟩ := hI.growLst hid hg rows (.slice (some ⟨w.heap.size, 0, none⟩) rows.length (c' + 1)) us hE (fun b hb _ => by show (w.heap.push _)[b]? = _; rw [Array.getElem?_push_lt hb, Array.getElem?_eq_getElem hb]) (fun b hb => by cases hb; exact .inr (Nat.le_refl _)) hrk hd
        ⟨hul, .inr ⟨_, c', cur', rfl, hh, hlc', hcm', hsz, htk⟩⟩ hR hone
      exact ⟨_, rfl, Pr, _, h3, h4, hE, .lis id 0 _ 0 (g' + 1) _ _ rows ⟨0, _⟩ _ (List.getElem?_set_self hidl) (List.getElem?_set_self hγl) (by omega) ⟨_, _, _, rfl, .inl ⟨rfl, rfl, hlc', fun _ => ⟨_, rfl⟩⟩⟩⟩
  · rename_i n
    split at h
    case isFalse => cases h
    rename_i hc
    obtain ⟨h0, h1, h2⟩ := hc
    cases h
    obtain ⟨v0, vs1, rfl, r0, hA⟩ := hA.cons_inv
    obtain ⟨v1, vs2, rfl, r1, hA⟩ := hA.cons_inv
    rw [hA.nil_inv]
    obtain ⟨m, rfl⟩ : ∃ m : Nat, n = (m : Int) := ⟨n.toNat, by omega⟩
    simp only [Int.toNat_natCast] at h1 h2
    have hq := int_inv r1
    subst hq
    obtain ⟨base, rfl⟩ : ∃ a, v0 = .slice a 0 0 := by cases r0 with | clip rows a h => exact ⟨a, rfl⟩
    have hcall := grow_call (P := P) L hi0 hz0 hzs hs0 base 0 0 m [] w (Nat.le_refl _) (Nat.zero_le _) (by simpa using h1) (by simpa using h2) (by simp) (fun _ => rfl) (fun a ha hc => absurd rfl hc)
    have hset : (bs ++ [Blk.dead]).set bs.length (Blk.lst 0 0 (ρ.t 25) i0.size []) = bs ++ [Blk.lst 0 0 (ρ.t 25) i0.size []] := by rw [List.set_append_right _ _ (Nat.le_refl _), Nat.sub_self]; rfl
    obtain ⟨s1, s2⟩ := hI.slots 1
    simp only [List.replicate_one] at s1 s2
    have hdd : (bs ++ [Blk.dead])[bs.length]? = some .dead := by simp
    have hg1 : bs.length < (γ ++ [default]).length := by simp [hI.len]
    refine .inl ⟨hent _ _, hcall.mono ?_⟩
    rintro e1 w1 (⟨rfl, rfl⟩ | ⟨c', cur', rfl, hlc', hcm', rfl, hsz, htk⟩)
    · obtain ⟨h3, h4⟩ := s1.adopt hdd (ρ.t 25) i0.size [] (.slice base 0 0) [] hs0 (by simp) rfl ⟨by simp, .inl ⟨rfl, base, rfl⟩⟩ (by simpa using RepL.nil) (by simp) (fun b hb => by cases base <;> cases hb)
      rw [hset] at h3 h4
      refine ⟨_, rfl, Pr, _, h3, s2.trans h4, Evo.refl _ _ _ _, .lis bs.length 0 0 0 0 (ρ.t 25) i0.size [] ⟨0, .slice base 0 0⟩ _ (by simp) (List.getElem?_set_self hg1) (by simp) ⟨base, 0, 0, rfl, .inl ⟨rfl, rfl, Nat.le_refl _, fun h => absurd rfl h⟩⟩⟩
    · have hE := alloc_evo (w := w) (Pr := Pr) (U := U) (.cells cur' (ρ.t 25)) hI.new
      have hh : (w.drew.alloc (.cells cur' (ρ.t 25))).heap[w.heap.size]? = some (.cells cur' (ρ.t 25) (0, 0)) := by show (w.heap.push _)[w.heap.size]? = _; simp
      have s3 : Inv U (w.drew.alloc (.cells cur' (ρ.t 25))) Pr (bs ++ [Blk.dead]) (γ ++ [default]) := s1.world hE (fun j b hb => by
        have hlt := s1.memB_lt hb
        show (w.heap.push _)[b]? = _
        rw [Array.getElem?_push_lt hlt, Array.getElem?_eq_getElem hlt]) (fun _ _ _ _ h => h) (fun b i hp => Nat.lt_of_lt_of_le (hI.old b i hp) hE.size)
      obtain ⟨h3, h4⟩ := s3.adopt hdd (ρ.t 25) i0.size [] (.slice (some ⟨w.heap.size, 0, none⟩) 0 (c' + 1)) [] hs0 (by simp) rfl ⟨by simp, .inr ⟨_, c', cur', rfl, hh, hlc', hcm', hsz, htk⟩⟩ (by simpa using RepL.nil) (by simp)
        (fun b hb => by
          cases hb
          exact ⟨hI.new _ (Nat.le_refl _), fun i hp => absurd (hI.old _ i hp) (Nat.lt_irrefl _), fun j hj => absurd (s1.memB_lt hj) (Nat.lt_irrefl _)⟩)
      rw [hset] at h3 h4
      refine ⟨_, rfl, Pr, _, h3, s2.trans h4, hE, .lis bs.length 0 0 0 0 (ρ.t 25) i0.size [] ⟨0, _⟩ _ (by simp) (List.getElem?_set_self hg1) (by simp) ⟨_, _, _, rfl, .inl ⟨rfl, rfl, hlc', fun h => absurd rfl h⟩⟩⟩
  · cases h
theorem pGrow_ok' {ρ : Ren} (L : Lays8.n4 P ρ) {t : TypeId} {k bytes : Nat} {z : Value} (T : J.ElemT P t (ρ.t 25) k z bytes) (hent : Ent P (ρ.f 4)) : PrimOk P G (ρ.f 4) (pGrow (ρ.t 25) k bytes) := by
  have h := T.info
  cases hq : P.info? (ρ.t 25) with
  | none => rw [hq] at h; cases h
  | some i =>
    rw [hq] at h
    simp only [Option.map_some, Option.some.injEq, Prod.mk.injEq] at h
    obtain ⟨hz, rfl, rfl⟩ := h
    exact pGrow_ok L hq hz T.zs T.pos hent
end Go.Proofs.YtnpdaegfmfkghaaDoor.A

/- A function of the library that is taken as told: slices.SortFunc, whose order tells any two apart. No condition. -/
set_option linter.unusedVariables false
set_option linter.unusedSimpArgs false
namespace Go.Proofs.YtnpdaegfmfkghaaDoor.A
open Go Go.RowKit Go.Shelf
variable {U : Nat → Prop} {w w' : World} {Pr Pr' : Nat → Nat → Prop} {σ σ' : List Blk} {γ γ' : List Ghost} {ls : List Nat} {P : Program} {G : Nat → Option (List AV)}

/-- Plain values. -/
def plainA : AV → Bool
  | .bool _ | .int _ _ | .str _ => true
  | _ => false
def toV : AV → Value
  | .bool b => .bool b
  | .int k n => .int k n
  | .str s => .string s
  | _ => undef
theorem toV_rep {a : AV} (h : plainA a = true) : Rep w Pr σ γ ls a (toV a) := by
  cases a <;> first | (cases h; done) | constructor
theorem toV_inv {a : AV} {v : Value} (hr : Rep w Pr σ γ ls a v) (h : plainA a = true) : v = toV a := by
  cases hr <;> first | (cases h; done) | rfl
theorem toV_one {a : AV} (h : plainA a = true) : (toV a).oneCell' = true := by
  cases a <;> first | (cases h; done) | rfl
theorem plainA_data {a : AV} (h : plainA a = true) : a.isData = true := by
  cases a <;> first | (cases h; done) | rfl
theorem toV_repL {l : List AV} (h : ∀ a ∈ l, plainA a = true) : RepL w Pr σ γ l (l.map toV) :=
  ⟨by simp, fun i a v h1 h2 => by
    rw [List.getElem?_map, h1] at h2
    cases h2
    exact toV_rep (h a (List.mem_of_getElem? h1))⟩
theorem toV_invL {l : List AV} {vs : List Value} (hr : RepL w Pr σ γ l vs) (h : ∀ a ∈ l, plainA a = true) : vs = l.map toV := by
  refine List.ext_getElem? fun i => ?_
  rw [List.getElem?_map]
  cases ha : l[i]? with
  | none => rw [List.getElem?_eq_none (by rw [hr.1]; exact List.getElem?_eq_none_iff.1 ha)]; rfl
  | some a =>
    have hi : i < vs.length := by rw [hr.1]; exact (List.getElem?_eq_some_iff.1 ha).1
    rw [List.getElem?_eq_getElem hi]
    rw [toV_inv (hr.2 i a _ ha (List.getElem?_eq_getElem hi)) (h a (List.mem_of_getElem? ha))]; rfl

def sortL {α : Type} (cf : α → α → Int) (xs : List α) : List α := xs.mergeSort fun x y => !(ltOf cf) y x
def pSort {α : Type} (enc : α → List AV) (dec : List AV → Option α) (cf : α → α → Int) (e : TypeId) (k : Nat) (g : FuncId) : List AV → List Blk → Option (AV × List Blk)
  | [.lis id gn off len, .clo g' []], bs => match bs[id]? with
    | some (.lst 0 gn' e' k' rows) => if (gn' = gn ∧ off = 0 ∧ rows.length = len ∧ e' = e ∧ k' = k ∧ g' = g) ∧ len < 4611686018427387904 then
        match rows.mapM dec with
        | some xs => some (.tup [], bs.set id (.lst 0 gn e k ((sortL cf xs).map enc)))
        | none => none
      else none
    | _ => none
  | _, _ => none

theorem pos_of_lt {t n k : Nat} (h : t < n * k) : 0 < k := by
  rcases Nat.eq_zero_or_pos k with h0 | h0
  · subst h0; simp at h
  · exact h0
theorem flatten_get {β : Type} {k : Nat} {rows : List (List β)} (h : ∀ r ∈ rows, r.length = k) {t : Nat} (ht : t < rows.length * k) : rows.flatten[t]? = (rows[t / k]?).bind (·[t % k]?) := by
  have hk : 0 < k := pos_of_lt ht
  have hq : t / k < rows.length := (Nat.div_lt_iff_lt_mul hk).2 ht
  have hrow := flatten_row h (List.getElem?_eq_getElem hq)
  rw [List.getElem?_eq_getElem hq, Option.bind_some, ← hrow, List.getElem?_take, if_pos (Nat.mod_lt _ hk), List.getElem?_drop, Nat.mul_comm, Nat.div_add_mod]
theorem flatK_list {α : Type} [Inhabited α] {enc : α → List Value} {k : Nat} (hk : ∀ x, (enc x).length = k) (xs : List α) : Sort.flatK enc k xs.toArray = (xs.map enc).flatten.toArray := by
  apply Array.ext
  · rw [Sort.size_flatK, List.size_toArray, List.size_toArray, flatten_length (k := k) _ (fun r hr => by obtain ⟨x, _, rfl⟩ := List.mem_map.1 hr; exact hk x)]; simp
  · intro t h1 h2
    rw [Sort.size_flatK, List.size_toArray] at h1
    have hkp : 0 < k := pos_of_lt h1
    have hq : t / k < xs.length := (Nat.div_lt_iff_lt_mul hkp).2 h1
    have e1 := Sort.get_flatK enc k xs.toArray t (by simpa using h1)
    rw [getElem!_pos (Sort.flatK enc k xs.toArray) t (by rw [Sort.size_flatK]; simpa using h1)] at e1
    rw [e1]
    have e2 := flatten_get (rows := xs.map enc) (fun r hr => by obtain ⟨x, _, rfl⟩ := List.mem_map.1 hr; exact hk x) (t := t) (by simpa using h1)
    rw [List.getElem?_map, List.getElem?_eq_getElem hq] at e2
    simp only [Option.map_some, Option.bind_some] at e2
    have hm : t % k < (enc xs[t / k]).length := by rw [hk]; exact Nat.mod_lt _ hkp
    rw [List.getElem?_eq_getElem hm] at e2
    have e3 : (xs.map enc).flatten[t]'(by simpa using h2) = (enc xs[t / k])[t % k] := (List.getElem?_eq_some_iff.1 e2).2
    rw [List.getElem_toArray, e3]
    rw [getElem!_pos xs.toArray (t / k) (by simpa using hq)]
    simp only [List.getElem_toArray]
    exact getElem!_pos (enc xs[t / k]) (t % k) hm
theorem mapM_dec {α : Type} {enc : α → List AV} {dec : List AV → Option α} (hdec : ∀ r x, dec r = some x → r = enc x) : ∀ {rows : List (List AV)} {xs : List α}, rows.mapM dec = some xs → rows = xs.map enc
  | [], xs, h => by rw [mapM_nil_inv h]; rfl
  | r :: rows, xs, h => by
    obtain ⟨x, l, h1, h2, rfl⟩ := mapM_cons_inv h
    rw [List.map_cons, hdec r x h1, ← mapM_dec hdec h2]
theorem setRow_map (w : World) (b : Nat) (R : Array Value) : w.setRow b R = Sort.mapBlock w b fun _ => R := by
  unfold World.setRow Sort.mapBlock Sort.onCells
  congr 1
theorem putRow_setRow {b : Nat} {cur F : Array Value} {e : TypeId} (hc : w.heap[b]? = some (.cells cur e (0, 0))) (hs : F.size ≤ cur.size) : Sort.putRow id w b 0 F = w.setRow b (F.toList ++ cur.toList.drop F.size).toArray := by
  rw [setRow_map]
  refine Sort.mapBlock_congr w b _ _ fun c e' fr h => ?_
  rw [hc] at h
  cases h
  unfold Sort.putCells
  apply Array.ext
  · simp; omega
  · intro t h1 h2
    simp only [Array.size_mapIdx] at h1
    simp only [Array.getElem_mapIdx, Nat.zero_le, true_and, Nat.zero_add, Nat.sub_zero, id]
    by_cases ht : t < F.size
    · rw [if_pos ht, getElem!_pos F t ht]
      simp [ht]
    · rw [if_neg ht]
      have ht' : F.size ≤ t := by omega
      simp [List.getElem_append, ht, Nat.add_sub_cancel' ht']
theorem grow_form (h : Evo (w.heap.size ≤ ·) [] w Pr w' Pr') : ∃ q os, w' = Sort.grow (w.drewN q) os := by
  refine ⟨w'.drawn - w.drawn, w'.heap.extract w.heap.size w'.heap.size, ?_⟩
  obtain ⟨heap, tape, drawn, os, output⟩ := w
  obtain ⟨heap', tape', drawn', os', output'⟩ := w'
  have h1 := h.os; have h2 := h.tape; have h3 := h.output; have h4 := h.size; have h5 := h.same; have h6 := h.drawn
  simp only at h1 h2 h3 h4 h5 h6
  subst h1; subst h2; subst h3
  unfold Sort.grow World.drewN
  simp only [World.mk.injEq, true_and, and_true]
  refine ⟨?_, by omega⟩
  apply Array.ext_getElem?
  intro i
  by_cases hi : i < heap.size
  · rw [Array.getElem?_append_left hi]; exact h5 i (by omega)
  · rw [Array.getElem?_append_right (by omega), Array.getElem?_extract]
    by_cases h7 : i < heap'.size
    · rw [if_pos (by omega)]; congr 1; omega
    · rw [if_neg (by omega), Array.getElem?_eq_none (by omega)]
theorem Evo.grown (hU : ∀ b, w.heap.size ≤ b → U b) (hold : ∀ b i, Pr b i → b < w.heap.size) (n : Nat) (os : Array Obj) : Evo U ls w Pr (Sort.grow (w.drewN n) os) Pr := by
  have hb : ∀ b, b < w.heap.size → (Sort.grow (w.drewN n) os).heap[b]? = w.heap[b]? := fun b hb => Array.getElem?_append_left hb
  refine ⟨rfl, rfl, rfl, by simp [Sort.grow, World.drewN], fun b h => hb b (Nat.lt_of_not_le fun hx => h (hU b hx)), fun b o h _ _ => (hb b (Array.getElem?_eq_some_iff.1 h).1).trans h, fun b i hp => ⟨hp, fun v hv => ?_⟩, fun _ _ _ h => h, Nat.le_add_right _ _⟩
  rw [World.cell?_of_block (w := w) (hb b (hold b i hp))]; exact hv

theorem pSort_ok {ρ : Ren} {α : Type} [Inhabited α] {enc : α → List AV} {dec : List AV → Option α} {cf : α → α → Int} {e : TypeId} {k : Nat} {g : FuncId} {E0 : Env} (L : SlLaysF0.n6 P ρ) (hent : Ent P (ρ.f 6)) (aE : ∀ w, (isAgg (ρ.t 24)).run P w = .ok true w) (zE : ∀ w, (Go.sizeOf (ρ.t 24)).run P w = .ok k w)
    (hk : ∀ x, (enc x).length = k) (hp : ∀ x, ∀ a ∈ enc x, plainA a = true) (hdec : ∀ r x, dec r = some x → r = enc x) (hO : Sort.SWO (ltOf cf)) (hT : ∀ x y, (ltOf cf) x y = false → (ltOf cf) y x = false → x = y)
    (hE0 : EnvOk P G E0) (hcmp : ∀ x y, LV E0 g [.agg (enc x), .agg (enc y)] = some (.int .i64 (cf x y))) (hentg : Ent P g) :
    PrimOk P G (ρ.f 6) (pSort enc dec cf e k g) := by
  intro args bs r bs' h U w Pr γ vs hI hG hA
  unfold pSort at h
  split at h
  case h_2 => cases h
  rename_i id gn off len g'
  split at h
  case h_2 => cases h
  rename_i gn' e' k' rows hid
  split at h
  case isFalse => cases h
  rename_i hc
  obtain ⟨⟨rfl, rfl, hlen, rfl, rfl, rfl⟩, hbig⟩ := hc
  split at h
  case h_2 => cases h
  rename_i xs hxs
  cases h
  have hrows := mapM_dec hdec hxs
  have hxl : xs.length = len := by rw [← hlen, hrows, List.length_map]
  obtain ⟨v0, vs1, rfl, r0, hA⟩ := hA.cons_inv
  obtain ⟨v1, vs2, rfl, r1, hA⟩ := hA.cons_inv
  rw [hA.nil_inv]
  have hv1 : v1 = .func (.func g') #[] #[] := by
    cases r1 with
    | clo f caps vs hl h => have : vs = [] := List.eq_nil_of_length_eq_zero (by simpa using hl)
                            subst this; rfl
  subst hv1
  obtain ⟨gh, us, hg, hkp, hrk, hd, hV, hR, hone⟩ := hI.lst id 0 gn' e' k' rows hid
  have hM : MutIs gh.v k' 0 len v0 := by
    cases r0 with
    | lisOld id gen off len lk g2 e k rows u h3 h4 ho => rw [hid] at h3; cases h3; omega
    | lis id off len lk g2 e k rows gh2 u h3 h4 h5 h6 => rw [hid] at h3; cases h3; rw [hg] at h4; cases h4; exact h6
  obtain ⟨base, n0, cap, hgv, ⟨_, rfl, hlc, hbs⟩ | ⟨h0, _⟩⟩ := hM
  case inr => exact absurd h0 (Nat.lt_irrefl 0)
  have hpl : ∀ (l : List α), ∀ a ∈ (l.map enc).flatten, plainA a = true := fun l a ha => by
    obtain ⟨r, h1, h2⟩ := List.mem_flatten.1 ha
    obtain ⟨x, _, rfl⟩ := List.mem_map.1 h1
    exact hp x a h2
  have hpr : ∀ (l : List α), ∀ r ∈ l.map enc, r.length = k' := fun l r hr => by
    obtain ⟨x, _, rfl⟩ := List.mem_map.1 hr; exact hk x
  by_cases hn : len = 0
  · -- no element
    subst hn
    have hx0 : xs = [] := List.eq_nil_of_length_eq_zero hxl
    subst hx0
    have hr0 : rows = [] := by rw [hrows]; rfl
    subst hr0
    refine .inl ⟨hent _ _, (AnyF.slices_SortFunc_none L base cap (.func (.func g') #[] #[]) w).mono ?_⟩
    rintro e1 w1 ⟨rfl, rfl⟩
    have hs : bs.set id (.lst 0 gn' e' k' ((sortL cf ([] : List α)).map enc)) = bs := by
      rw [show (sortL cf ([] : List α)).map enc = ([] : List (List AV)) by simp [sortL]]
      exact set_self hid
    rw [hs]
    exact ⟨_, rfl, Pr, γ, hI, Keeps.refl _ _, Evo.refl _ _ _ _, .tup [] [] rfl (fun i a v h1 h2 => by simp at h1)⟩
  · obtain ⟨hul, ⟨h0, _⟩ | ⟨b, c, cur, hv, hh, hnc, hcm, hcs, htk⟩⟩ := hV
    · omega
    rw [hgv] at hv
    simp only [Value.slice.injEq] at hv
    obtain ⟨rfl, rfl, rfl⟩ := hv
    have hm : memB bs γ id = some b := by rw [memB_lst hid hg, hgv]; rfl
    obtain ⟨hU, hP⟩ := hI.free id _ b hid (fun h => by cases h) hm
    have hbl : b < w.heap.size := (Array.getElem?_eq_some_iff.1 hh).1
    obtain ⟨venc, hvenc⟩ : ∃ venc : α → List Value, venc = fun x => (enc x).map toV := ⟨_, rfl⟩
    have hvk : ∀ x, (venc x).length = k' := fun x => by rw [hvenc]; simp [hk]
    have hv1 : ∀ x, ∀ v ∈ venc x, v.oneCell' = true := fun x v hv => by
      rw [hvenc] at hv
      obtain ⟨a, ha, rfl⟩ := List.mem_map.1 hv
      exact toV_one (hp x a ha)
    have hvf : ∀ l : List α, (l.map venc).flatten = ((l.map enc).flatten).map toV := fun l => by
      rw [hvenc, List.map_flatten, List.map_map]; rfl
    have hus : us = ((xs.map enc).flatten).map toV := by
      rw [hrows] at hR
      exact toV_invL hR (hpl xs)
    have hfl : Sort.flatK venc k' xs.toArray = us.toArray := by rw [flatK_list hvk, hvf, hus]
    have hulen : us.length = len * k' := by rw [hul, hlen]
    have hsz : xs.toArray.size = len := by simp [hxl]
    have hH : Sort.HoldsK venc k' w b 0 xs.toArray := by
      intro j hj
      rw [hfl] at hj ⊢
      have hj' : j < us.length := by simpa using hj
      refine ⟨?_, by simp [World.frozen?, hh]⟩
      rw [getElem!_pos _ j hj, List.getElem_toArray, Nat.zero_add]
      simp only [World.cell?, hh, _root_.id]
      rw [← Array.getElem?_toList]
      have h9 : (cur.toList.take (rows.length * k'))[j]? = some us[j] := by rw [htk]; exact List.getElem?_eq_getElem hj'
      rw [List.getElem?_take] at h9
      split at h9
      · exact h9
      · cases h9
    have hC : CmpLays P g' #[] venc k' cf b 0 xs.toArray.size w := by
      intro m os dk hdk x y
      obtain ⟨W, hW⟩ : ∃ W, W = sortWorldK venc k' w b 0 m dk os := ⟨_, rfl⟩
      rw [← hW]
      have hWs : w.heap.size ≤ W.heap.size := by rw [hW]; simp [sortWorldK, Sort.grow, Sort.putRowK, Sort.putRow, Sort.mapBlock, Sort.ahead]
      have hWb : ∀ j, j < w.heap.size → j ≠ b → W.heap[j]? = w.heap[j]? := fun j hj hne => by
        rw [hW]
        unfold sortWorldK Sort.grow Sort.putRowK Sort.putRow Sort.mapBlock Sort.ahead
        simp only
        rw [Array.getElem?_append_left (by simpa using hj), Array.getElem?_modify, if_neg (Ne.symm hne)]
      have hst : Stays w Pr W Pr := fun q i hq => ⟨hq, fun v hv => by
        have hql := hI.old q i hq
        have hqb : q ≠ b := fun e => hP i (e ▸ hq)
        rw [World.cell?_of_block (w := w) (hWb q hql hqb)]; exact hv⟩
      obtain ⟨n, hn⟩ := LV_iff.1 (hcmp x y)
      have hcall := sound_call (w := W) (Pr := Pr) hE0 hn (vs := [.agg (venc x).toArray, .agg (venc y).toArray]) (fun q i hq => Nat.lt_of_lt_of_le (hI.old q i hq) hWs) (hG.mono hst) (by
        have hr : ∀ z, Rep W Pr [] [] [] (.agg (enc z)) (.agg (venc z).toArray) := fun z => by
          have h5 := toV_repL (w := W) (Pr := Pr) (σ := []) (γ := []) (hp z)
          rw [hvenc]
          exact .agg _ _ h5.1 (fun u hu => hv1 z u (by rw [hvenc]; exact hu)) h5.2
        exact RepL.cons (hr x) (RepL.cons (hr y) RepL.nil))
      refine (hcall.calls hentg).mono ?_
      rintro e1 w1 ⟨v, rfl, Pr1, k1, k2, k3⟩
      cases k3
      exact ⟨rfl, grow_form k1⟩
    have eg : ∀ args w, (callFunc g' args).run P w = .ok (.enter g' args) w := fun args w => hentg args w
    have hS := AnyQ.slices_SortFunc_total L k' aE zE venc hvk hv1 cf hO g' #[] b 0 (c + 1) xs.toArray w eg hC hH hbl (by rw [hsz]; exact hbig) hT
    rw [hsz] at hS
    rw [← hlen] at hS ⊢
    refine .inl ⟨hent _ _, hS.mono ?_⟩
    rintro e1 w1 ⟨rfl, n, os, rfl⟩
    obtain ⟨ys, hys⟩ : ∃ ys, ys = sortL cf xs := ⟨_, rfl⟩
    have hys' : (xs.toArray.toList.mergeSort fun x y => !(ltOf cf) y x) = ys := by rw [hys]; rfl
    have hyl : ys.length = xs.length := by rw [hys]; unfold sortL; exact List.length_mergeSort _
    rw [hys', ← hys]
    have hR' : RepL w Pr bs γ (ys.map enc).flatten ((ys.map venc).flatten) := by rw [hvf]; exact toV_repL (hpl ys)
    have hl' : (ys.map venc).flatten.length = rows.length * k' := by
      rw [flatten_length (k := k') _ (fun r hr => by obtain ⟨x, _, rfl⟩ := List.mem_map.1 hr; exact hvk x), List.length_map, hyl, hxl, hlen]
    obtain ⟨h3, h4, h5⟩ := hI.setLst (ls := []) hid hg (b := b) (by rw [hgv]; rfl) (ys.map enc) ((ys.map venc).flatten) (by rw [List.length_map, hyl, hxl, hlen]) (hpr ys)
      (List.all_eq_true.2 fun a ha => plainA_data (hpl ys a ha)) hl' hR' (fun u hu => by
        obtain ⟨r, h1, h2⟩ := List.mem_flatten.1 hu
        obtain ⟨x, _, rfl⟩ := List.mem_map.1 h1
        exact hv1 x u h2) hh
    have hcur : rows.length * k' ≤ cur.size := by rw [hcs]; exact Nat.mul_le_mul_right _ hnc
    have hw : sortWorldK venc k' w b 0 n ys.toArray os = Sort.grow ((w.setRow b ((ys.map venc).flatten ++ cur.toList.drop (rows.length * k')).toArray).drewN n) os := by
      unfold sortWorldK Sort.putRowK
      rw [flatK_list hvk, Sort.putRow_ahead, putRow_setRow hh (by rw [List.size_toArray, hl']; exact hcur), List.size_toArray, hl']
      rfl
    rw [hw]
    have hE2 := Evo.grown (U := U) (ls := []) h3.new h3.old n os
    have h6 := h3.world hE2 (fun j q hq => Array.getElem?_append_left (h3.memB_lt hq)) (fun _ _ _ _ h => h) (fun q i hq => Nat.lt_of_lt_of_le (h3.old q i hq) hE2.size)
    exact ⟨_, rfl, Pr, γ, h6, h4, h5.trans hE2, .tup [] [] rfl (fun i a v h1 h2 => by simp at h1)⟩
open Classical in
/-- The datum of a row. -/
noncomputable def decOf {α : Type} (enc : α → List AV) (r : List AV) : Option α := if h : ∃ x, r = enc x then some h.choose else none
theorem decOf_ok {α : Type} {enc : α → List AV} (r : List AV) (x : α) (h : decOf enc r = some x) : r = enc x := by
  unfold decOf at h
  split at h
  · rename_i h1; cases h; exact h1.choose_spec
  · cases h
theorem decOf_enc {α : Type} {enc : α → List AV} (hi : ∀ x y, enc x = enc y → x = y) (x : α) : decOf enc (enc x) = some x := by
  have h : ∃ y, enc x = enc y := ⟨x, rfl⟩
  unfold decOf
  rw [dif_pos h]
  exact congrArg some (hi _ _ h.choose_spec).symm
theorem mapM_decOf {α : Type} {enc : α → List AV} (hi : ∀ x y, enc x = enc y → x = y) : ∀ xs : List α, (xs.map enc).mapM (decOf enc) = some xs
  | [] => rfl
  | x :: xs => by rw [List.map_cons, List.mapM_cons, decOf_enc hi, mapM_decOf hi xs]; rfl
theorem pSort_run {α : Type} {enc : α → List AV} (hi : ∀ x y, enc x = enc y → x = y) {cf : α → α → Int} {e : TypeId} {k : Nat} {g : FuncId} {bs : List Blk} {id gn len : Nat} {xs : List α} (hb : bs[id]? = some (.lst 0 gn e k (xs.map enc))) (hl : xs.length = len) (hn : len < 4611686018427387904) :
    pSort enc (decOf enc) cf e k g [.lis id gn 0 len, .clo g []] bs = some (.tup [], bs.set id (.lst 0 gn e k ((sortL cf xs).map enc))) := by
  unfold pSort
  simp only [hb, List.length_map, hl, true_and, and_self, hn, if_true, mapM_decOf hi]
theorem sortL_perm {α : Type} (cf : α → α → Int) (xs : List α) : (sortL cf xs).Perm xs := List.mergeSort_perm _ _
theorem sortL_len {α : Type} (cf : α → α → Int) (xs : List α) : (sortL cf xs).length = xs.length := (sortL_perm cf xs).length_eq
theorem sortL_sorted {α : Type} {cf : α → α → Int} (hO : Sort.SWO (ltOf cf)) (xs : List α) : (sortL cf xs).Pairwise fun x y => ltOf cf y x = false := by
  have h := List.pairwise_mergeSort (le := fun x y => !(ltOf cf) y x) (fun a b c h1 h2 => by
    simp only [Bool.not_eq_true'] at *
    exact hO.ntrans _ _ _ h2 h1) (fun a b => by
    cases h : ltOf cf b a with
    | false => rfl
    | true =>
      cases h2 : ltOf cf a b with
      | false => rfl
      | true => have := hO.trans _ _ _ h h2; rw [hO.irrefl] at this; cases this) xs
  unfold sortL
  exact h.imp fun h => by simpa using h
theorem LR_primS {E : Env} {ys : List Hd} {hp : Hp} {f : FuncId} {args : List AV} {p : List AV → List Blk → Option (AV × List Blk)} (h1 : E.prim f = some p) (ha : args.any AV.isYld = false) : LR E ys f args hp = (p args hp.bs).map fun r => (r.1, { hp with bs := r.2 }) := by
  rw [LR_eq, h1]; simp [ha]
/-- The sort of a list, at the machine. -/
theorem sort_call {α : Type} {E : Env} {ys : List Hd} {pend : List (Option AExit)} {f g : FuncId} {enc : α → List AV} {cf : α → α → Int} {e : TypeId} {k : Nat} (h1 : E.prim f = some (pSort enc (decOf enc) cf e k g)) (hi : ∀ x y, enc x = enc y → x = y) {bs : List Blk} {id gn len : Nat} {xs : List α} (hb : bs[id]? = some (.lst 0 gn e k (xs.map enc))) (hl : xs.length = len) (hn : len < 4611686018427387904) :
    LR E ys f [.lis id gn 0 len, .clo g []] ⟨bs, pend⟩ = some (.tup [], ⟨bs.set id (.lst 0 gn e k ((sortL cf xs).map enc)), pend⟩) := by
  rw [LR_primS h1 rfl, pSort_run hi hb hl hn]; rfl
end Go.Proofs.YtnpdaegfmfkghaaDoor.A

/- Functions in the evaluator's form, 1. No condition. -/
namespace Go.Proofs.YtnpdaegfmfkghaaDoor.F
open Go Go.Proofs.YtnpdaegfmfkghaaDoor.A
def G : Nat → Option (List AV)
  | 0 => some [.int .i64 0, .int .i64 0, .int .i64 0, .int .i64 0, .int .i64 32, .int .i64 0, .int .i64 128]
  | _ => none
/-- junctionbox/junctionboxlaw24.CoverOnes -/
def f3 : AFunc :=
⟨1, [.t 2], (.seq (.region 0 [⟨some 2, .mv (.c (.bool false)), none, 0⟩] false []) (.seq (.seq (.region 0 [⟨some 12, .callV 9 [] 0, none, 0⟩, ⟨some 13, .not (.t 12), none, 0⟩] false []) (.cond (.t 13) (.seq (.region 0 [⟨some 2, .mv (.c (.bool false)), none, 0⟩] false []) .ret) .skip)) (.seq (.seq (.region 0 [⟨some 14, .mv (.t 0), none, 0⟩, ⟨some 15, .len (.t 14), none, 0⟩, ⟨some 16, .mv (.c (.int .i64 0)), none, 0⟩] false []) (.block 0 (.loop [14, 15, 16] (.seq (.region 0 [⟨some 17, .bin .lss (.t 16) (.t 15), none, 0⟩] false []) (.seq (.cond (.t 17) .skip (.exit 0)) (.seq (.block 1 (.seq (.region 0 [⟨some 18, .mv (.t 16), none, 0⟩, ⟨some 19, .iaddr 1 none (.t 14) (.t 16), none, 0⟩, ⟨some 20, .load 1 false (.t 19), none, 0⟩, ⟨some 3, .mv (.t 18), none, 0⟩, ⟨some 4, .mv (.t 20), none, 0⟩] false []) (.seq (.seq (.region 0 [⟨some 21, .mv (.t 3), none, 0⟩, ⟨some 22, .bin .eql (.t 21) (.c (.int .i64 6)), none, 0⟩] false []) (.cond (.t 22) (.exit 0) .skip)) (.seq (.region 2 [⟨some 23, .mv (.t 4), none, 0⟩, ⟨some 24, .callV 10 [.t 23] 1, none, 0⟩, ⟨some 25, .mv (.t 4), none, 0⟩, ⟨some 26, .callV 10 [.t 25] 1, none, 1⟩, ⟨some 5, .mv (.t 24), none, 0⟩, ⟨some 6, .mv (.t 26), none, 0⟩] false []) (.seq (.region 1 [⟨some 28, .mv (.t 5), none, 0⟩, ⟨some 29, .callV 11 [.t 28] 1, none, 0⟩, ⟨some 27, .mv (.t 29), none, 0⟩, ⟨some 30, .extr (.t 27) 0, none, 0⟩, ⟨some 31, .extr (.t 27) 1, none, 0⟩, ⟨some 7, .mv (.t 30), none, 0⟩, ⟨some 8, .mv (.t 31), none, 0⟩] false []) (.seq (.block 2 (.seq (.region 0 [⟨some 33, .mv (.t 6), none, 0⟩, ⟨some 34, .len (.t 33), none, 0⟩, ⟨some 35, .bin .gtr (.t 34) (.c (.int .i64 64)), none, 0⟩, ⟨some 32, .mv (.t 35), none, 0⟩] false []) (.cond (.t 32) (.seq (.seq (.region 0 [⟨some 36, .mv (.t 8), none, 0⟩, ⟨some 37, .bin .neq (.t 36) (.c (.int .i64 3)), none, 0⟩, ⟨some 38, .mv (.t 37), none, 0⟩, ⟨some 39, .mv (.t 7), some (38, false), 0⟩, ⟨some 40, .len (.t 39), some (38, false), 0⟩, ⟨some 41, .bin .neq (.t 40) (.c (.int .i64 0)), some (38, false), 0⟩, ⟨some 42, .pick (.t 38) (.c (.bool true)) (.t 41), none, 0⟩] false []) (.cond (.t 42) (.seq (.region 0 [⟨some 2, .mv (.c (.bool false)), none, 0⟩] false []) .ret) .skip)) (.exit 1)) (.seq (.region 0 [⟨some 44, .mv (.t 6), none, 0⟩, ⟨some 45, .callV 12 [.t 44] 0, none, 0⟩, ⟨some 46, .not (.t 45), none, 0⟩, ⟨some 43, .mv (.t 46), none, 0⟩] false []) (.cond (.t 43) (.seq (.region 0 [⟨some 47, .mv (.t 8), none, 0⟩, ⟨some 48, .bin .neq (.t 47) (.c (.int .i64 151)), none, 0⟩, ⟨some 49, .mv (.t 48), none, 0⟩, ⟨some 50, .mv (.t 7), some (49, false), 0⟩, ⟨some 51, .len (.t 50), some (49, false), 0⟩, ⟨some 52, .bin .neq (.t 51) (.c (.int .i64 0)), some (49, false), 0⟩, ⟨some 53, .pick (.t 49) (.c (.bool true)) (.t 52), none, 0⟩] false []) (.cond (.t 53) (.seq (.region 0 [⟨some 2, .mv (.c (.bool false)), none, 0⟩] false []) .ret) .skip)) (.seq (.region 1 [⟨some 55, .mv (.t 8), none, 0⟩, ⟨some 56, .bin .neq (.t 55) (.c (.int .i64 0)), none, 0⟩, ⟨some 57, .mv (.t 56), none, 0⟩, ⟨some 58, .mv (.t 7), some (57, false), 0⟩, ⟨some 59, .mv (.t 6), some (57, false), 0⟩, ⟨some 60, .callV 14 [.c (.int .i64 0), .t 59, .c (.clip [])] 1, some (57, false), 0⟩, ⟨some 61, .callV 13 [.t 58, .t 60] 0, some (57, false), 0⟩, ⟨some 62, .not (.t 61), some (57, false), 0⟩, ⟨some 63, .pick (.t 57) (.c (.bool true)) (.t 62), none, 0⟩, ⟨some 54, .mv (.t 63), none, 0⟩] false []) (.cond (.t 54) (.seq (.region 0 [⟨some 2, .mv (.c (.bool false)), none, 0⟩] false []) .ret) .skip))))))) (.seq (.region 0 [⟨some 64, .mv (.t 6), none, 0⟩, ⟨some 65, .callV 15 [.t 64] 0, none, 0⟩, ⟨some 9, .mv (.t 65), none, 0⟩] false []) (.seq (.seq (.region 0 [⟨some 66, .mv (.t 5), none, 0⟩, ⟨some 67, .callV 16 [.t 66] 0, none, 0⟩, ⟨some 10, .mv (.t 67), none, 0⟩] false []) (.seq (.region 0 [⟨some 68, .mv (.t 10), none, 0⟩, ⟨some 69, .bin .eql (.t 68) (.c (.int .i64 0)), none, 0⟩, ⟨some 70, .mv (.t 9), none, 0⟩, ⟨some 71, .eqb true (.t 69) (.t 70), none, 0⟩, ⟨some 72, .mv (.t 71), none, 0⟩, ⟨some 73, .mv (.t 9), some (72, false), 0⟩, ⟨some 74, .not (.t 73), some (72, false), 0⟩, ⟨some 75, .mv (.t 74), some (72, false), 0⟩, ⟨some 76, .mv (.t 10), some (75, true), 0⟩, ⟨some 77, .bin .neq (.t 76) (.c (.int .i64 340)), some (75, true), 0⟩, ⟨some 78, .pick (.t 75) (.t 77) (.c (.bool false)), some (72, false), 0⟩, ⟨some 79, .pick (.t 72) (.c (.bool true)) (.t 78), none, 0⟩, ⟨some 80, .mv (.t 79), none, 0⟩, ⟨some 81, .mv (.t 5), some (80, false), 0⟩, ⟨some 82, .mv (.t 6), some (80, false), 0⟩, ⟨some 83, .callV 13 [.t 81, .t 82] 0, some (80, false), 0⟩, ⟨some 84, .not (.t 83), some (80, false), 0⟩, ⟨some 85, .pick (.t 80) (.c (.bool true)) (.t 84), none, 0⟩] false []) (.cond (.t 85) (.seq (.region 0 [⟨some 2, .mv (.c (.bool false)), none, 0⟩] false []) .ret) .skip))) (.seq (.seq (.region 0 [⟨some 86, .mv (.t 7), none, 0⟩, ⟨some 87, .len (.t 86), none, 0⟩, ⟨some 88, .mv (.c (.int .i64 0)), none, 0⟩] false []) (.block 3 (.loop [5, 6, 7, 14, 15, 16, 87, 88] (.seq (.region 0 [⟨some 89, .bin .lss (.t 88) (.t 87), none, 0⟩] false []) (.seq (.cond (.t 89) .skip (.exit 3)) (.seq (.block 4 (.seq (.region 0 [⟨some 90, .mv (.t 88), none, 0⟩, ⟨some 11, .mv (.t 90), none, 0⟩] false []) (.region 0 [⟨some 91, .mv (.t 7), none, 0⟩, ⟨some 92, .mv (.t 11), none, 0⟩, ⟨some 93, .iaddr 18 none (.t 91) (.t 92), none, 0⟩, ⟨some 94, .faddr 17 (.t 93), none, 0⟩, ⟨none, .store 1 (.t 94) (.c (.int .i64 99)), none, 0⟩] false []))) (.region 0 [⟨some 95, .bin .add (.t 88) (.c (.int .i64 1)), none, 0⟩, ⟨some 88, .mv (.t 95), none, 0⟩] false []))))))) (.seq (.region 0 [⟨some 96, .mv (.t 5), none, 0⟩, ⟨some 97, .mv (.t 6), none, 0⟩, ⟨some 98, .callV 13 [.t 96, .t 97] 0, none, 0⟩, ⟨some 99, .not (.t 98), none, 0⟩] false []) (.cond (.t 99) (.seq (.region 0 [⟨some 2, .mv (.c (.bool false)), none, 0⟩] false []) .ret) .skip))))))))))) (.region 0 [⟨some 100, .bin .add (.t 16) (.c (.int .i64 1)), none, 0⟩, ⟨some 16, .mv (.t 100), none, 0⟩] false []))))))) (.seq (.region 0 [⟨some 2, .mv (.c (.bool true)), none, 0⟩] false []) .ret)))), false⟩
theorem c3 : cFunc Tryd.prog G f3 Tryd.f3 = some f3 := by kernel_rfl
/-- junctionbox/junctionboxlaw24.CoverLeast -/
def f4 : AFunc :=
⟨1, [.t 2], (.seq (.region 0 [⟨some 2, .mv (.c (.bool false)), none, 0⟩] false []) (.seq (.seq (.region 0 [⟨some 17, .callV 9 [] 0, none, 0⟩, ⟨some 18, .not (.t 17), none, 0⟩] false []) (.cond (.t 18) (.seq (.region 0 [⟨some 2, .mv (.c (.bool false)), none, 0⟩] false []) .ret) .skip)) (.seq (.region 1 [⟨some 20, .mv (.t 0), none, 0⟩, ⟨some 21, .callV 17 [.t 20] 1, none, 0⟩, ⟨some 19, .mv (.t 21), none, 0⟩, ⟨some 22, .extr (.t 19) 0, none, 0⟩, ⟨some 23, .extr (.t 19) 1, none, 0⟩, ⟨some 3, .mv (.t 22), none, 0⟩, ⟨some 4, .mv (.t 23), none, 0⟩] false []) (.seq (.seq (.region 0 [⟨some 24, .mv (.t 4), none, 0⟩, ⟨some 25, .not (.t 24), none, 0⟩] false []) (.cond (.t 25) (.seq (.region 0 [⟨some 2, .mv (.c (.bool true)), none, 0⟩] false []) .ret) .skip)) (.seq (.region 1 [⟨some 27, .mv (.t 3), none, 0⟩, ⟨some 28, .callV 18 [.t 27] 0, none, 0⟩, ⟨some 26, .mv (.t 28), none, 0⟩, ⟨some 29, .extr (.t 26) 0, none, 0⟩, ⟨some 30, .extr (.t 26) 1, none, 0⟩, ⟨some 31, .extr (.t 26) 2, none, 0⟩, ⟨some 5, .alloc 37 [.int .i64 0, .int .u8 0, .int .u8 0, .int .u8 0, .int .u8 0, .int .u8 0, .int .u8 0, .int .u8 0, .int .u8 0, .int .u8 0, .int .u8 0, .int .u8 0, .int .u8 0, .int .u8 0, .int .u8 0, .int .u8 0, .int .u8 0, .int .i64 0] [], none, 0⟩, ⟨none, .store 18 (.t 5) (.t 29), none, 0⟩, ⟨some 6, .mv (.t 30), none, 0⟩, ⟨some 7, .mv (.t 31), none, 0⟩] false []) (.seq (.seq (.region 0 [⟨some 32, .mv (.t 7), none, 0⟩, ⟨some 33, .bin .neq (.t 32) (.c (.int .i64 0)), none, 0⟩] false []) (.cond (.t 33) (.seq (.region 0 [⟨some 2, .mv (.c (.bool false)), none, 0⟩] false []) .ret) .skip)) (.seq (.seq (.region 0 [⟨some 34, .mv (.t 6), none, 0⟩, ⟨some 35, .not (.t 34), none, 0⟩] false []) (.cond (.t 35) (.seq (.region 0 [⟨some 36, .mv (.t 3), none, 0⟩, ⟨some 37, .len (.t 36), none, 0⟩, ⟨some 38, .bin .eql (.t 37) (.c (.int .i64 0)), none, 0⟩, ⟨some 39, .mv (.t 38), none, 0⟩, ⟨some 40, .mv (.t 3), some (39, false), 0⟩, ⟨some 41, .iaddr 18 none (.t 40) (.c (.int .i64 0)), some (39, false), 0⟩, ⟨some 42, .faddr 0 (.t 41), some (39, false), 0⟩, ⟨some 43, .faddr 0 (.t 42), some (39, false), 0⟩, ⟨some 44, .load 1 false (.t 43), some (39, false), 0⟩, ⟨some 45, .mv (.t 3), some (39, false), 0⟩, ⟨some 46, .mv (.t 3), some (39, false), 0⟩, ⟨some 47, .len (.t 46), some (39, false), 0⟩, ⟨some 48, .bin .sub (.t 47) (.c (.int .i64 1)), some (39, false), 0⟩, ⟨some 49, .iaddr 18 none (.t 45) (.t 48), some (39, false), 0⟩, ⟨some 50, .faddr 0 (.t 49), some (39, false), 0⟩, ⟨some 51, .faddr 0 (.t 50), some (39, false), 0⟩, ⟨some 52, .load 1 false (.t 51), some (39, false), 0⟩, ⟨some 53, .bin .neq (.t 44) (.t 52), some (39, false), 0⟩, ⟨some 54, .pick (.t 39) (.c (.bool true)) (.t 53), none, 0⟩, ⟨some 2, .mv (.t 54), none, 0⟩] true []) .ret) .skip)) (.seq (.seq (.region 0 [⟨some 55, .mv (.t 3), none, 0⟩, ⟨some 56, .len (.t 55), none, 0⟩, ⟨some 57, .mv (.c (.int .i64 0)), none, 0⟩] false []) (.block 0 (.loop [3, 5, 55, 56, 57] (.seq (.region 0 [⟨some 58, .bin .lss (.t 57) (.t 56), none, 0⟩] false []) (.seq (.cond (.t 58) .skip (.exit 0)) (.seq (.block 1 (.seq (.region 1 [⟨some 59, .iaddr 18 none (.t 55) (.t 57), none, 0⟩, ⟨some 60, .load 18 true (.t 59), none, 0⟩, ⟨some 9, .alloc 37 [.int .i64 0, .int .u8 0, .int .u8 0, .int .u8 0, .int .u8 0, .int .u8 0, .int .u8 0, .int .u8 0, .int .u8 0, .int .u8 0, .int .u8 0, .int .u8 0, .int .u8 0, .int .u8 0, .int .u8 0, .int .u8 0, .int .u8 0, .int .i64 0] [], none, 0⟩, ⟨none, .store 18 (.t 9) (.t 60), none, 0⟩] false []) (.seq (.region 0 [⟨some 61, .load 18 true (.t 5), none, 0⟩, ⟨some 62, .load 18 true (.t 9), none, 0⟩, ⟨some 63, .callV 19 [.t 61, .t 62] 0, none, 0⟩, ⟨some 64, .not (.t 63), none, 0⟩] false []) (.cond (.t 64) (.seq (.region 0 [⟨some 2, .mv (.c (.bool false)), none, 0⟩] false []) .ret) .skip)))) (.region 0 [⟨some 65, .bin .add (.t 57) (.c (.int .i64 1)), none, 0⟩, ⟨some 57, .mv (.t 65), none, 0⟩] false []))))))) (.seq (.seq (.region 0 [⟨some 66, .faddr 17 (.t 5), none, 0⟩, ⟨some 67, .load 1 false (.t 66), none, 0⟩, ⟨some 68, .faddr 0 (.t 5), none, 0⟩, ⟨some 69, .faddr 0 (.t 68), none, 0⟩, ⟨some 70, .load 1 false (.t 69), none, 0⟩, ⟨some 71, .callV 20 [.t 70] 0, none, 0⟩, ⟨some 72, .bin .lss (.t 67) (.t 71), none, 0⟩] true []) (.cond (.t 72) (.seq (.region 0 [⟨some 73, .mv (.t 3), none, 0⟩, ⟨some 74, .len (.t 73), none, 0⟩, ⟨some 75, .mv (.c (.int .i64 0)), none, 0⟩] false []) (.block 2 (.loop [3, 5, 73, 74, 75] (.seq (.region 0 [⟨some 76, .bin .lss (.t 75) (.t 74), none, 0⟩] false []) (.seq (.cond (.t 76) .skip (.exit 2)) (.seq (.block 3 (.seq (.region 1 [⟨some 77, .iaddr 18 none (.t 73) (.t 75), none, 0⟩, ⟨some 78, .load 18 true (.t 77), none, 0⟩, ⟨some 11, .alloc 37 [.int .i64 0, .int .u8 0, .int .u8 0, .int .u8 0, .int .u8 0, .int .u8 0, .int .u8 0, .int .u8 0, .int .u8 0, .int .u8 0, .int .u8 0, .int .u8 0, .int .u8 0, .int .u8 0, .int .u8 0, .int .u8 0, .int .u8 0, .int .i64 0] [], none, 0⟩, ⟨none, .store 18 (.t 11) (.t 78), none, 0⟩] false []) (.seq (.region 1 [⟨some 80, .faddr 0 (.t 11), none, 0⟩, ⟨some 81, .load 17 true (.t 80), none, 0⟩, ⟨some 82, .faddr 17 (.t 5), none, 0⟩, ⟨some 83, .load 1 false (.t 82), none, 0⟩, ⟨some 84, .bin .add (.t 83) (.c (.int .i64 1)), none, 0⟩, ⟨some 85, .callV 21 [.t 81, .t 84] 0, none, 0⟩, ⟨some 79, .mv (.t 85), none, 0⟩, ⟨some 86, .extr (.t 79) 0, none, 0⟩, ⟨some 87, .extr (.t 79) 1, none, 0⟩, ⟨some 12, .alloc 37 [.int .i64 0, .int .u8 0, .int .u8 0, .int .u8 0, .int .u8 0, .int .u8 0, .int .u8 0, .int .u8 0, .int .u8 0, .int .u8 0, .int .u8 0, .int .u8 0, .int .u8 0, .int .u8 0, .int .u8 0, .int .u8 0, .int .u8 0, .int .i64 0] [], none, 0⟩, ⟨none, .store 18 (.t 12) (.t 86), none, 0⟩, ⟨some 13, .mv (.t 87), none, 0⟩] false []) (.seq (.seq (.region 0 [⟨some 88, .mv (.t 13), none, 0⟩, ⟨some 89, .bin .neq (.t 88) (.c (.int .i64 0)), none, 0⟩] false []) (.cond (.t 89) (.seq (.region 0 [⟨some 2, .mv (.c (.bool false)), none, 0⟩] false []) .ret) .skip)) (.seq (.region 0 [⟨some 14, .mv (.c (.bool true)), none, 0⟩] false []) (.seq (.seq (.region 0 [⟨some 90, .mv (.t 3), none, 0⟩, ⟨some 91, .len (.t 90), none, 0⟩, ⟨some 92, .mv (.c (.int .i64 0)), none, 0⟩] false []) (.block 4 (.loop [3, 5, 11, 12, 14, 73, 74, 75, 90, 91, 92] (.seq (.region 0 [⟨some 93, .bin .lss (.t 92) (.t 91), none, 0⟩] false []) (.seq (.cond (.t 93) .skip (.exit 4)) (.seq (.block 5 (.seq (.region 1 [⟨some 94, .iaddr 18 none (.t 90) (.t 92), none, 0⟩, ⟨some 95, .load 18 true (.t 94), none, 0⟩, ⟨some 16, .alloc 37 [.int .i64 0, .int .u8 0, .int .u8 0, .int .u8 0, .int .u8 0, .int .u8 0, .int .u8 0, .int .u8 0, .int .u8 0, .int .u8 0, .int .u8 0, .int .u8 0, .int .u8 0, .int .u8 0, .int .u8 0, .int .u8 0, .int .u8 0, .int .i64 0] [], none, 0⟩, ⟨none, .store 18 (.t 16) (.t 95), none, 0⟩] false []) (.region 0 [⟨some 96, .mv (.t 14), none, 0⟩, ⟨some 97, .mv (.t 96), none, 0⟩, ⟨some 98, .load 18 true (.t 12), some (97, true), 0⟩, ⟨some 99, .load 18 true (.t 16), some (97, true), 0⟩, ⟨some 100, .callV 19 [.t 98, .t 99] 0, some (97, true), 0⟩, ⟨some 101, .pick (.t 97) (.t 100) (.c (.bool false)), none, 0⟩, ⟨some 14, .mv (.t 101), none, 0⟩] false []))) (.region 0 [⟨some 102, .bin .add (.t 92) (.c (.int .i64 1)), none, 0⟩, ⟨some 92, .mv (.t 102), none, 0⟩] false []))))))) (.seq (.region 0 [⟨some 103, .mv (.t 14), none, 0⟩, ⟨some 104, .mv (.t 103), none, 0⟩, ⟨some 105, .faddr 17 (.t 11), some (104, true), 0⟩, ⟨some 106, .load 1 false (.t 105), some (104, true), 0⟩, ⟨some 107, .faddr 17 (.t 5), some (104, true), 0⟩, ⟨some 108, .load 1 false (.t 107), some (104, true), 0⟩, ⟨some 109, .bin .gtr (.t 106) (.t 108), some (104, true), 0⟩, ⟨some 110, .pick (.t 104) (.t 109) (.c (.bool false)), none, 0⟩] false []) (.cond (.t 110) (.seq (.region 0 [⟨some 2, .mv (.c (.bool false)), none, 0⟩] false []) .ret) .skip)))))))) (.region 0 [⟨some 111, .bin .add (.t 75) (.c (.int .i64 1)), none, 0⟩, ⟨some 75, .mv (.t 111), none, 0⟩] false []))))))) .skip)) (.seq (.region 0 [⟨some 2, .mv (.c (.bool true)), none, 0⟩] false []) .ret)))))))))), false⟩
theorem c4 : cFunc Tryd.prog G f4 Tryd.f4 = some f4 := by kernel_rfl
/-- junctionbox/junctionboxlaw24.CoverDoes -/
def f5 : AFunc :=
⟨3, [.t 6], (.seq (.region 0 [⟨some 6, .mv (.c (.bool false)), none, 0⟩] false []) (.seq (.seq (.region 0 [⟨some 18, .callV 9 [] 0, none, 0⟩, ⟨some 19, .not (.t 18), none, 0⟩] false []) (.cond (.t 19) (.seq (.region 0 [⟨some 6, .mv (.c (.bool false)), none, 0⟩] false []) .ret) .skip)) (.seq (.region 2 [⟨some 20, .mv (.t 0), none, 0⟩, ⟨some 21, .mv (.t 2), none, 0⟩, ⟨some 22, .callV 22 [.t 20, .t 21] 1, none, 0⟩, ⟨some 23, .mv (.t 1), none, 0⟩, ⟨some 24, .mv (.t 2), none, 0⟩, ⟨some 25, .callV 22 [.t 23, .t 24] 1, none, 1⟩, ⟨some 7, .mv (.t 22), none, 0⟩, ⟨some 8, .mv (.t 25), none, 0⟩] false []) (.seq (.region 1 [⟨some 27, .mv (.t 7), none, 0⟩, ⟨some 28, .mv (.t 8), none, 0⟩, ⟨some 29, .callV 23 [.t 27, .t 28] 1, none, 0⟩, ⟨some 26, .mv (.t 29), none, 0⟩, ⟨some 30, .extr (.t 26) 0, none, 0⟩, ⟨some 31, .extr (.t 26) 1, none, 0⟩, ⟨some 9, .mv (.t 30), none, 0⟩, ⟨some 10, .mv (.t 31), none, 0⟩] false []) (.seq (.region 1 [⟨some 33, .mv (.t 7), none, 0⟩, ⟨some 34, .mv (.t 8), none, 0⟩, ⟨some 35, .callV 24 [.t 33, .t 34] 1, none, 0⟩, ⟨some 32, .mv (.t 35), none, 0⟩, ⟨some 36, .extr (.t 32) 0, none, 0⟩, ⟨some 37, .extr (.t 32) 1, none, 0⟩, ⟨some 11, .mv (.t 36), none, 0⟩, ⟨some 12, .mv (.t 37), none, 0⟩] false []) (.seq (.region 1 [⟨some 39, .mv (.t 7), none, 0⟩, ⟨some 40, .mv (.t 8), none, 0⟩, ⟨some 41, .callV 25 [.t 39, .t 40] 1, none, 0⟩, ⟨some 38, .mv (.t 41), none, 0⟩, ⟨some 42, .extr (.t 38) 0, none, 0⟩, ⟨some 43, .extr (.t 38) 1, none, 0⟩, ⟨some 13, .mv (.t 42), none, 0⟩, ⟨some 14, .mv (.t 43), none, 0⟩] false []) (.seq (.seq (.region 6 [⟨some 44, .mv (.t 9), none, 0⟩, ⟨some 45, .mv (.t 10), none, 0⟩, ⟨some 46, .mv (.t 0), none, 0⟩, ⟨some 47, .mv (.t 2), none, 0⟩, ⟨some 48, .callV 22 [.t 46, .t 47] 1, none, 0⟩, ⟨some 49, .mv (.t 1), none, 0⟩, ⟨some 50, .mv (.t 2), none, 0⟩, ⟨some 51, .callV 22 [.t 49, .t 50] 1, none, 1⟩, ⟨some 52, .callV 26 [.t 44, .t 45, .c (.int .i64 0), .t 48, .t 51] 0, none, 0⟩, ⟨some 53, .not (.t 52), none, 0⟩, ⟨some 54, .mv (.t 53), none, 0⟩, ⟨some 55, .mv (.t 11), some (54, false), 0⟩, ⟨some 56, .mv (.t 12), some (54, false), 0⟩, ⟨some 57, .mv (.t 0), some (54, false), 0⟩, ⟨some 58, .mv (.t 2), some (54, false), 0⟩, ⟨some 59, .callV 22 [.t 57, .t 58] 1, some (54, false), 2⟩, ⟨some 60, .mv (.t 1), some (54, false), 0⟩, ⟨some 61, .mv (.t 2), some (54, false), 0⟩, ⟨some 62, .callV 22 [.t 60, .t 61] 1, some (54, false), 3⟩, ⟨some 63, .callV 26 [.t 55, .t 56, .c (.int .i64 1), .t 59, .t 62] 0, some (54, false), 0⟩, ⟨some 64, .not (.t 63), some (54, false), 0⟩, ⟨some 65, .pick (.t 54) (.c (.bool true)) (.t 64), none, 0⟩, ⟨some 66, .mv (.t 65), none, 0⟩, ⟨some 67, .mv (.t 13), some (66, false), 0⟩, ⟨some 68, .mv (.t 14), some (66, false), 0⟩, ⟨some 69, .mv (.t 0), some (66, false), 0⟩, ⟨some 70, .mv (.t 2), some (66, false), 0⟩, ⟨some 71, .callV 22 [.t 69, .t 70] 1, some (66, false), 4⟩, ⟨some 72, .mv (.t 1), some (66, false), 0⟩, ⟨some 73, .mv (.t 2), some (66, false), 0⟩, ⟨some 74, .callV 22 [.t 72, .t 73] 1, some (66, false), 5⟩, ⟨some 75, .callV 26 [.t 67, .t 68, .c (.int .i64 2), .t 71, .t 74] 0, some (66, false), 0⟩, ⟨some 76, .not (.t 75), some (66, false), 0⟩, ⟨some 77, .pick (.t 66) (.c (.bool true)) (.t 76), none, 0⟩] false []) (.cond (.t 77) (.seq (.region 0 [⟨some 6, .mv (.c (.bool false)), none, 0⟩] false []) .ret) .skip)) (.seq (.seq (.region 0 [⟨some 78, .mv (.t 9), none, 0⟩, ⟨some 79, .mv (.t 11), none, 0⟩, ⟨some 80, .mv (.t 13), none, 0⟩, ⟨some 81, .build [.clip [], .clip [], .clip []] [(0, 1, .t 78), (1, 1, .t 79), (2, 1, .t 80)] [], none, 0⟩, ⟨some 82, .mv (.c (.int .i64 0)), none, 0⟩] false []) (.block 0 (.loop [0, 1, 2, 7, 8, 81, 82] (.seq (.region 0 [⟨some 83, .bin .lss (.t 82) (.c (.int .i64 3)), none, 0⟩] false []) (.seq (.cond (.t 83) .skip (.exit 0)) (.seq (.block 1 (.seq (.region 0 [⟨some 84, .idx 1 false 3 (.t 81) (.t 82), none, 0⟩, ⟨some 16, .mv (.t 84), none, 0⟩] false []) (.seq (.region 0 [⟨some 85, .mv (.t 16), none, 0⟩, ⟨some 86, .len (.t 85), none, 0⟩, ⟨some 87, .mv (.c (.int .i64 0)), none, 0⟩] false []) (.block 2 (.loop [0, 1, 2, 7, 8, 16, 81, 82, 86, 87] (.seq (.region 0 [⟨some 88, .bin .lss (.t 87) (.t 86), none, 0⟩] false []) (.seq (.cond (.t 88) .skip (.exit 2)) (.seq (.block 3 (.seq (.region 0 [⟨some 89, .mv (.t 87), none, 0⟩, ⟨some 17, .mv (.t 89), none, 0⟩] false []) (.region 0 [⟨some 90, .mv (.t 16), none, 0⟩, ⟨some 91, .mv (.t 17), none, 0⟩, ⟨some 92, .iaddr 18 none (.t 90) (.t 91), none, 0⟩, ⟨some 93, .faddr 17 (.t 92), none, 0⟩, ⟨none, .store 1 (.t 93) (.c (.int .i64 99)), none, 0⟩] false []))) (.region 0 [⟨some 94, .bin .add (.t 87) (.c (.int .i64 1)), none, 0⟩, ⟨some 87, .mv (.t 94), none, 0⟩] false []))))))))) (.region 0 [⟨some 95, .bin .add (.t 82) (.c (.int .i64 1)), none, 0⟩, ⟨some 82, .mv (.t 95), none, 0⟩] false []))))))) (.seq (.region 2 [⟨some 96, .mv (.t 7), none, 0⟩, ⟨some 97, .mv (.t 0), none, 0⟩, ⟨some 98, .mv (.t 2), none, 0⟩, ⟨some 99, .callV 22 [.t 97, .t 98] 1, none, 0⟩, ⟨some 100, .callV 13 [.t 96, .t 99] 0, none, 0⟩, ⟨some 101, .mv (.t 100), none, 0⟩, ⟨some 102, .mv (.t 8), some (101, true), 0⟩, ⟨some 103, .mv (.t 1), some (101, true), 0⟩, ⟨some 104, .mv (.t 2), some (101, true), 0⟩, ⟨some 105, .callV 22 [.t 103, .t 104] 1, some (101, true), 1⟩, ⟨some 106, .callV 13 [.t 102, .t 105] 0, some (101, true), 0⟩, ⟨some 107, .pick (.t 101) (.t 106) (.c (.bool false)), none, 0⟩, ⟨some 6, .mv (.t 107), none, 0⟩] false []) .ret))))))))), false⟩
theorem c5 : cFunc Tryd.prog G f5 Tryd.f5 = some f5 := by kernel_rfl
/-- junctionbox/junctionboxlaw24.CoverMembers -/
def f6 : AFunc :=
⟨3, [.t 6], (.seq (.region 0 [⟨some 6, .mv (.c (.bool false)), none, 0⟩] false []) (.seq (.seq (.region 0 [⟨some 21, .callV 9 [] 0, none, 0⟩, ⟨some 22, .not (.t 21), none, 0⟩] false []) (.cond (.t 22) (.seq (.region 0 [⟨some 6, .mv (.c (.bool false)), none, 0⟩] false []) .ret) .skip)) (.seq (.region 1 [⟨some 24, .mv (.t 0), none, 0⟩, ⟨some 25, .callV 17 [.t 24] 1, none, 0⟩, ⟨some 23, .mv (.t 25), none, 0⟩, ⟨some 26, .extr (.t 23) 0, none, 0⟩, ⟨some 27, .extr (.t 23) 1, none, 0⟩, ⟨some 7, .mv (.t 26), none, 0⟩, ⟨some 8, .mv (.t 27), none, 0⟩] false []) (.seq (.region 1 [⟨some 29, .mv (.t 1), none, 0⟩, ⟨some 30, .callV 17 [.t 29] 1, none, 0⟩, ⟨some 28, .mv (.t 30), none, 0⟩, ⟨some 31, .extr (.t 28) 0, none, 0⟩, ⟨some 32, .extr (.t 28) 1, none, 0⟩, ⟨some 9, .mv (.t 31), none, 0⟩, ⟨some 10, .mv (.t 32), none, 0⟩] false []) (.seq (.seq (.region 0 [⟨some 33, .mv (.t 8), none, 0⟩, ⟨some 34, .not (.t 33), none, 0⟩, ⟨some 35, .mv (.t 34), none, 0⟩, ⟨some 36, .mv (.t 10), some (35, false), 0⟩, ⟨some 37, .not (.t 36), some (35, false), 0⟩, ⟨some 38, .pick (.t 35) (.c (.bool true)) (.t 37), none, 0⟩] false []) (.cond (.t 38) (.seq (.region 0 [⟨some 6, .mv (.c (.bool true)), none, 0⟩] false []) .ret) .skip)) (.seq (.region 1 [⟨some 40, .mv (.t 7), none, 0⟩, ⟨some 41, .mv (.t 9), none, 0⟩, ⟨some 42, .callV 23 [.t 40, .t 41] 1, none, 0⟩, ⟨some 39, .mv (.t 42), none, 0⟩, ⟨some 43, .extr (.t 39) 0, none, 0⟩, ⟨some 44, .extr (.t 39) 1, none, 0⟩, ⟨some 11, .mv (.t 43), none, 0⟩, ⟨some 12, .mv (.t 44), none, 0⟩] false []) (.seq (.region 1 [⟨some 46, .mv (.t 7), none, 0⟩, ⟨some 47, .mv (.t 9), none, 0⟩, ⟨some 48, .callV 24 [.t 46, .t 47] 1, none, 0⟩, ⟨some 45, .mv (.t 48), none, 0⟩, ⟨some 49, .extr (.t 45) 0, none, 0⟩, ⟨some 50, .extr (.t 45) 1, none, 0⟩, ⟨some 13, .mv (.t 49), none, 0⟩, ⟨some 14, .mv (.t 50), none, 0⟩] false []) (.seq (.region 1 [⟨some 52, .mv (.t 7), none, 0⟩, ⟨some 53, .mv (.t 9), none, 0⟩, ⟨some 54, .callV 25 [.t 52, .t 53] 1, none, 0⟩, ⟨some 51, .mv (.t 54), none, 0⟩, ⟨some 55, .extr (.t 51) 0, none, 0⟩, ⟨some 56, .extr (.t 51) 1, none, 0⟩, ⟨some 15, .mv (.t 55), none, 0⟩, ⟨some 16, .mv (.t 56), none, 0⟩] false []) (.seq (.seq (.region 0 [⟨some 57, .mv (.t 12), none, 0⟩, ⟨some 58, .bin .neq (.t 57) (.c (.int .i64 0)), none, 0⟩, ⟨some 59, .mv (.t 58), none, 0⟩, ⟨some 60, .mv (.t 14), some (59, false), 0⟩, ⟨some 61, .bin .neq (.t 60) (.c (.int .i64 0)), some (59, false), 0⟩, ⟨some 62, .pick (.t 59) (.c (.bool true)) (.t 61), none, 0⟩, ⟨some 63, .mv (.t 62), none, 0⟩, ⟨some 64, .mv (.t 16), some (63, false), 0⟩, ⟨some 65, .bin .neq (.t 64) (.c (.int .i64 0)), some (63, false), 0⟩, ⟨some 66, .mv (.t 65), some (63, false), 0⟩, ⟨some 67, .mv (.t 16), some (66, true), 0⟩, ⟨some 68, .bin .neq (.t 67) (.c (.int .i64 6)), some (66, true), 0⟩, ⟨some 69, .pick (.t 66) (.t 68) (.c (.bool false)), some (63, false), 0⟩, ⟨some 70, .pick (.t 63) (.c (.bool true)) (.t 69), none, 0⟩] false []) (.cond (.t 70) (.seq (.region 0 [⟨some 6, .mv (.c (.bool false)), none, 0⟩] false []) .ret) .skip)) (.seq (.seq (.region 2 [⟨some 71, .mv (.t 2), none, 0⟩, ⟨some 72, .mv (.t 0), none, 0⟩, ⟨some 73, .mv (.t 1), none, 0⟩, ⟨some 74, .mv (.t 11), none, 0⟩, ⟨some 75, .mv (.t 13), none, 0⟩, ⟨some 76, .mv (.t 15), none, 0⟩, ⟨some 77, .buildSl 24 1 [.clip []] 5 [(0, .t 72), (1, .t 73), (2, .t 74), (3, .t 75), (4, .t 76)] false, none, 0⟩, ⟨some 78, .callV 27 [.t 71, .t 77] 1, none, 1⟩, ⟨some 79, .len (.t 78), none, 0⟩, ⟨some 80, .mv (.c (.int .i64 0)), none, 0⟩] false []) (.block 0 (.loop [0, 7, 9, 11, 13, 15, 16, 78, 79, 80] (.seq (.region 0 [⟨some 81, .bin .lss (.t 80) (.t 79), none, 0⟩] false []) (.seq (.cond (.t 81) .skip (.exit 0)) (.seq (.block 1 (.seq (.region 1 [⟨some 82, .iaddr 17 none (.t 78) (.t 80), none, 0⟩, ⟨some 83, .load 17 true (.t 82), none, 0⟩, ⟨some 18, .alloc 35 [.int .i64 0, .int .u8 0, .int .u8 0, .int .u8 0, .int .u8 0, .int .u8 0, .int .u8 0, .int .u8 0, .int .u8 0, .int .u8 0, .int .u8 0, .int .u8 0, .int .u8 0, .int .u8 0, .int .u8 0, .int .u8 0, .int .u8 0] [], none, 0⟩, ⟨none, .store 17 (.t 18) (.t 83), none, 0⟩] false []) (.seq (.region 0 [⟨some 84, .mv (.t 7), none, 0⟩, ⟨some 85, .load 17 true (.t 18), none, 0⟩, ⟨some 86, .callV 28 [.t 84, .t 85] 0, none, 0⟩, ⟨some 87, .mv (.t 9), none, 0⟩, ⟨some 88, .load 17 true (.t 18), none, 0⟩, ⟨some 89, .callV 28 [.t 87, .t 88] 0, none, 0⟩, ⟨some 19, .mv (.t 86), none, 0⟩, ⟨some 20, .mv (.t 89), none, 0⟩] true []) (.seq (.region 0 [⟨some 90, .mv (.t 19), none, 0⟩, ⟨some 91, .mv (.t 0), none, 0⟩, ⟨some 92, .mv (.t 0), none, 0⟩, ⟨some 93, .len (.t 92), none, 0⟩, ⟨some 94, .min (.t 93) [.c (.int .i64 12)], none, 0⟩, ⟨some 95, .slice 18 (.t 91) none (some (.t 94)) none, none, 0⟩, ⟨some 96, .load 17 true (.t 18), none, 0⟩, ⟨some 97, .callV 28 [.t 95, .t 96] 0, none, 0⟩, ⟨some 98, .eqb true (.t 90) (.t 97), none, 0⟩, ⟨some 99, .mv (.t 98), none, 0⟩, ⟨some 100, .mv (.t 11), some (99, false), 0⟩, ⟨some 101, .load 17 true (.t 18), some (99, false), 0⟩, ⟨some 102, .callV 28 [.t 100, .t 101] 0, some (99, false), 0⟩, ⟨some 103, .mv (.t 19), some (99, false), 0⟩, ⟨some 104, .mv (.t 103), some (99, false), 0⟩, ⟨some 105, .mv (.t 20), some (104, false), 0⟩, ⟨some 106, .pick (.t 104) (.c (.bool true)) (.t 105), some (99, false), 0⟩, ⟨some 107, .eqb true (.t 102) (.t 106), some (99, false), 0⟩, ⟨some 108, .pick (.t 99) (.c (.bool true)) (.t 107), none, 0⟩, ⟨some 109, .mv (.t 108), none, 0⟩, ⟨some 110, .mv (.t 13), some (109, false), 0⟩, ⟨some 111, .load 17 true (.t 18), some (109, false), 0⟩, ⟨some 112, .callV 28 [.t 110, .t 111] 0, some (109, false), 0⟩, ⟨some 113, .mv (.t 19), some (109, false), 0⟩, ⟨some 114, .mv (.t 113), some (109, false), 0⟩, ⟨some 115, .mv (.t 20), some (114, true), 0⟩, ⟨some 116, .pick (.t 114) (.t 115) (.c (.bool false)), some (109, false), 0⟩, ⟨some 117, .eqb true (.t 112) (.t 116), some (109, false), 0⟩, ⟨some 118, .pick (.t 109) (.c (.bool true)) (.t 117), none, 0⟩, ⟨some 119, .mv (.t 118), none, 0⟩, ⟨some 120, .mv (.t 16), some (119, false), 0⟩, ⟨some 121, .bin .eql (.t 120) (.c (.int .i64 0)), some (119, false), 0⟩, ⟨some 122, .mv (.t 121), some (119, false), 0⟩, ⟨some 123, .mv (.t 15), some (122, true), 0⟩, ⟨some 124, .load 17 true (.t 18), some (122, true), 0⟩, ⟨some 125, .callV 28 [.t 123, .t 124] 0, some (122, true), 0⟩, ⟨some 126, .mv (.t 19), some (122, true), 0⟩, ⟨some 127, .mv (.t 126), some (122, true), 0⟩, ⟨some 128, .mv (.t 20), some (127, true), 0⟩, ⟨some 129, .not (.t 128), some (127, true), 0⟩, ⟨some 130, .pick (.t 127) (.t 129) (.c (.bool false)), some (122, true), 0⟩, ⟨some 131, .eqb true (.t 125) (.t 130), some (122, true), 0⟩, ⟨some 132, .pick (.t 122) (.t 131) (.c (.bool false)), some (119, false), 0⟩, ⟨some 133, .pick (.t 119) (.c (.bool true)) (.t 132), none, 0⟩] true []) (.cond (.t 133) (.seq (.region 0 [⟨some 6, .mv (.c (.bool false)), none, 0⟩] false []) .ret) .skip))))) (.region 0 [⟨some 134, .bin .add (.t 80) (.c (.int .i64 1)), none, 0⟩, ⟨some 80, .mv (.t 134), none, 0⟩] false []))))))) (.seq (.region 0 [⟨some 6, .mv (.c (.bool true)), none, 0⟩] false []) .ret))))))))))), false⟩
theorem c6 : cFunc Tryd.prog G f6 Tryd.f6 = some f6 := by kernel_rfl
/-- junctionbox/junctionboxlaw24.CoverParts -/
def f7 : AFunc :=
⟨2, [.t 4], (.seq (.region 0 [⟨some 4, .mv (.c (.bool false)), none, 0⟩] false []) (.seq (.seq (.region 0 [⟨some 19, .callV 9 [] 0, none, 0⟩, ⟨some 20, .not (.t 19), none, 0⟩] false []) (.cond (.t 20) (.seq (.region 0 [⟨some 4, .mv (.c (.bool false)), none, 0⟩] false []) .ret) .skip)) (.seq (.region 1 [⟨some 22, .mv (.t 0), none, 0⟩, ⟨some 23, .callV 17 [.t 22] 1, none, 0⟩, ⟨some 21, .mv (.t 23), none, 0⟩, ⟨some 24, .extr (.t 21) 0, none, 0⟩, ⟨some 25, .extr (.t 21) 1, none, 0⟩, ⟨some 5, .mv (.t 24), none, 0⟩, ⟨some 6, .mv (.t 25), none, 0⟩] false []) (.seq (.region 1 [⟨some 27, .mv (.t 1), none, 0⟩, ⟨some 28, .callV 17 [.t 27] 1, none, 0⟩, ⟨some 26, .mv (.t 28), none, 0⟩, ⟨some 29, .extr (.t 26) 0, none, 0⟩, ⟨some 30, .extr (.t 26) 1, none, 0⟩, ⟨some 7, .mv (.t 29), none, 0⟩, ⟨some 8, .mv (.t 30), none, 0⟩] false []) (.seq (.seq (.region 0 [⟨some 31, .mv (.t 6), none, 0⟩, ⟨some 32, .not (.t 31), none, 0⟩, ⟨some 33, .mv (.t 32), none, 0⟩, ⟨some 34, .mv (.t 8), some (33, false), 0⟩, ⟨some 35, .not (.t 34), some (33, false), 0⟩, ⟨some 36, .pick (.t 33) (.c (.bool true)) (.t 35), none, 0⟩] false []) (.cond (.t 36) (.seq (.region 0 [⟨some 4, .mv (.c (.bool true)), none, 0⟩] false []) .ret) .skip)) (.seq (.region 1 [⟨some 38, .mv (.t 5), none, 0⟩, ⟨some 39, .mv (.t 7), none, 0⟩, ⟨some 40, .callV 24 [.t 38, .t 39] 1, none, 0⟩, ⟨some 37, .mv (.t 40), none, 0⟩, ⟨some 41, .extr (.t 37) 0, none, 0⟩, ⟨some 42, .extr (.t 37) 1, none, 0⟩, ⟨some 9, .mv (.t 41), none, 0⟩, ⟨some 10, .mv (.t 42), none, 0⟩] false []) (.seq (.region 1 [⟨some 44, .mv (.t 5), none, 0⟩, ⟨some 45, .mv (.t 7), none, 0⟩, ⟨some 46, .callV 25 [.t 44, .t 45] 1, none, 0⟩, ⟨some 43, .mv (.t 46), none, 0⟩, ⟨some 47, .extr (.t 43) 0, none, 0⟩, ⟨some 48, .extr (.t 43) 1, none, 0⟩, ⟨some 11, .mv (.t 47), none, 0⟩, ⟨some 12, .mv (.t 48), none, 0⟩] false []) (.seq (.seq (.region 0 [⟨some 49, .mv (.t 12), none, 0⟩, ⟨some 50, .bin .eql (.t 49) (.c (.int .i64 6)), none, 0⟩] false []) (.cond (.t 50) (.seq (.region 0 [⟨some 51, .mv (.t 10), none, 0⟩, ⟨some 52, .bin .eql (.t 51) (.c (.int .i64 0)), none, 0⟩, ⟨some 4, .mv (.t 52), none, 0⟩] false []) .ret) .skip)) (.seq (.seq (.region 0 [⟨some 53, .mv (.t 10), none, 0⟩, ⟨some 54, .bin .neq (.t 53) (.c (.int .i64 0)), none, 0⟩, ⟨some 55, .mv (.t 54), none, 0⟩, ⟨some 56, .mv (.t 12), some (55, false), 0⟩, ⟨some 57, .bin .neq (.t 56) (.c (.int .i64 0)), some (55, false), 0⟩, ⟨some 58, .pick (.t 55) (.c (.bool true)) (.t 57), none, 0⟩, ⟨some 59, .mv (.t 58), none, 0⟩, ⟨some 60, .mv (.t 9), some (59, false), 0⟩, ⟨some 61, .callV 16 [.t 60] 0, some (59, false), 0⟩, ⟨some 62, .bin .neq (.t 61) (.c (.int .i64 0)), some (59, false), 0⟩, ⟨some 63, .pick (.t 59) (.c (.bool true)) (.t 62), none, 0⟩, ⟨some 64, .mv (.t 63), none, 0⟩, ⟨some 65, .mv (.t 11), some (64, false), 0⟩, ⟨some 66, .callV 16 [.t 65] 0, some (64, false), 0⟩, ⟨some 67, .bin .neq (.t 66) (.c (.int .i64 0)), some (64, false), 0⟩, ⟨some 68, .pick (.t 64) (.c (.bool true)) (.t 67), none, 0⟩] false []) (.cond (.t 68) (.seq (.region 0 [⟨some 4, .mv (.c (.bool false)), none, 0⟩] false []) .ret) .skip)) (.seq (.region 1 [⟨some 70, .mv (.t 9), none, 0⟩, ⟨some 71, .mv (.t 11), none, 0⟩, ⟨some 72, .callV 23 [.t 70, .t 71] 1, none, 0⟩, ⟨some 69, .mv (.t 72), none, 0⟩, ⟨some 73, .extr (.t 69) 0, none, 0⟩, ⟨some 74, .extr (.t 69) 1, none, 0⟩, ⟨some 13, .mv (.t 73), none, 0⟩, ⟨some 10, .mv (.t 74), none, 0⟩] false []) (.seq (.region 1 [⟨some 76, .mv (.t 9), none, 0⟩, ⟨some 77, .mv (.t 11), none, 0⟩, ⟨some 78, .callV 24 [.t 76, .t 77] 1, none, 0⟩, ⟨some 75, .mv (.t 78), none, 0⟩, ⟨some 79, .extr (.t 75) 0, none, 0⟩, ⟨some 80, .extr (.t 75) 1, none, 0⟩, ⟨some 14, .mv (.t 79), none, 0⟩, ⟨some 12, .mv (.t 80), none, 0⟩] false []) (.seq (.region 1 [⟨some 82, .mv (.t 11), none, 0⟩, ⟨some 83, .mv (.t 7), none, 0⟩, ⟨some 84, .callV 24 [.t 82, .t 83] 1, none, 0⟩, ⟨some 81, .mv (.t 84), none, 0⟩, ⟨some 85, .extr (.t 81) 0, none, 0⟩, ⟨some 86, .extr (.t 81) 1, none, 0⟩, ⟨some 15, .mv (.t 85), none, 0⟩, ⟨some 16, .mv (.t 86), none, 0⟩] false []) (.seq (.seq (.region 0 [⟨some 87, .mv (.t 10), none, 0⟩, ⟨some 88, .bin .neq (.t 87) (.c (.int .i64 0)), none, 0⟩, ⟨some 89, .mv (.t 88), none, 0⟩, ⟨some 90, .mv (.t 12), some (89, false), 0⟩, ⟨some 91, .bin .neq (.t 90) (.c (.int .i64 0)), some (89, false), 0⟩, ⟨some 92, .pick (.t 89) (.c (.bool true)) (.t 91), none, 0⟩, ⟨some 93, .mv (.t 92), none, 0⟩, ⟨some 94, .mv (.t 16), some (93, false), 0⟩, ⟨some 95, .bin .neq (.t 94) (.c (.int .i64 0)), some (93, false), 0⟩, ⟨some 96, .pick (.t 93) (.c (.bool true)) (.t 95), none, 0⟩, ⟨some 97, .mv (.t 96), none, 0⟩, ⟨some 98, .mv (.t 13), some (97, false), 0⟩, ⟨some 99, .mv (.t 5), some (97, false), 0⟩, ⟨some 100, .callV 29 [.t 98, .t 99] 0, some (97, false), 0⟩, ⟨some 101, .not (.t 100), some (97, false), 0⟩, ⟨some 102, .pick (.t 97) (.c (.bool true)) (.t 101), none, 0⟩, ⟨some 103, .mv (.t 102), none, 0⟩, ⟨some 104, .mv (.t 14), some (103, false), 0⟩, ⟨some 105, .len (.t 104), some (103, false), 0⟩, ⟨some 106, .mv (.t 15), some (103, false), 0⟩, ⟨some 107, .len (.t 106), some (103, false), 0⟩, ⟨some 108, .bin .add (.t 105) (.t 107), some (103, false), 0⟩, ⟨some 109, .bin .neq (.t 108) (.c (.int .i64 0)), some (103, false), 0⟩, ⟨some 110, .pick (.t 103) (.c (.bool true)) (.t 109), none, 0⟩] false []) (.cond (.t 110) (.seq (.region 0 [⟨some 4, .mv (.c (.bool false)), none, 0⟩] false []) .ret) .skip)) (.seq (.region 0 [⟨some 112, .mv (.t 9), none, 0⟩, ⟨some 113, .mv (.t 7), none, 0⟩, ⟨some 114, .callV 30 [.t 112, .t 113] 0, none, 0⟩, ⟨some 111, .mv (.t 114), none, 0⟩, ⟨some 115, .extr (.t 111) 0, none, 0⟩, ⟨some 116, .extr (.t 111) 1, none, 0⟩, ⟨some 17, .mv (.t 115), none, 0⟩, ⟨some 10, .mv (.t 116), none, 0⟩] false []) (.seq (.region 0 [⟨some 118, .mv (.t 11), none, 0⟩, ⟨some 119, .mv (.t 5), none, 0⟩, ⟨some 120, .callV 30 [.t 118, .t 119] 0, none, 0⟩, ⟨some 117, .mv (.t 120), none, 0⟩, ⟨some 121, .extr (.t 117) 0, none, 0⟩, ⟨some 122, .extr (.t 117) 1, none, 0⟩, ⟨some 18, .mv (.t 121), none, 0⟩, ⟨some 12, .mv (.t 122), none, 0⟩] false []) (.seq (.region 0 [⟨some 123, .mv (.t 10), none, 0⟩, ⟨some 124, .bin .eql (.t 123) (.c (.int .i64 0)), none, 0⟩, ⟨some 125, .mv (.t 124), none, 0⟩, ⟨some 126, .mv (.t 12), some (125, true), 0⟩, ⟨some 127, .bin .eql (.t 126) (.c (.int .i64 0)), some (125, true), 0⟩, ⟨some 128, .pick (.t 125) (.t 127) (.c (.bool false)), none, 0⟩, ⟨some 129, .mv (.t 128), none, 0⟩, ⟨some 130, .mv (.t 17), some (129, true), 0⟩, ⟨some 131, .pick (.t 129) (.t 130) (.c (.bool false)), none, 0⟩, ⟨some 132, .mv (.t 131), none, 0⟩, ⟨some 133, .mv (.t 18), some (132, true), 0⟩, ⟨some 134, .pick (.t 132) (.t 133) (.c (.bool false)), none, 0⟩, ⟨some 4, .mv (.t 134), none, 0⟩] false []) .ret)))))))))))))))), false⟩
theorem c7 : cFunc Tryd.prog G f7 Tryd.f7 = some f7 := by kernel_rfl
/-- junctionbox/junctionboxlaw24.CoverSame -/
def f8 : AFunc :=
⟨2, [.t 4], (.seq (.region 0 [⟨some 4, .mv (.c (.bool false)), none, 0⟩] false []) (.seq (.seq (.region 0 [⟨some 19, .callV 9 [] 0, none, 0⟩, ⟨some 20, .not (.t 19), none, 0⟩] false []) (.cond (.t 20) (.seq (.region 0 [⟨some 4, .mv (.c (.bool false)), none, 0⟩] false []) .ret) .skip)) (.seq (.region 1 [⟨some 22, .mv (.t 0), none, 0⟩, ⟨some 23, .callV 17 [.t 22] 1, none, 0⟩, ⟨some 21, .mv (.t 23), none, 0⟩, ⟨some 24, .extr (.t 21) 0, none, 0⟩, ⟨some 25, .extr (.t 21) 1, none, 0⟩, ⟨some 5, .mv (.t 24), none, 0⟩, ⟨some 6, .mv (.t 25), none, 0⟩] false []) (.seq (.region 1 [⟨some 27, .mv (.t 1), none, 0⟩, ⟨some 28, .callV 17 [.t 27] 1, none, 0⟩, ⟨some 26, .mv (.t 28), none, 0⟩, ⟨some 29, .extr (.t 26) 0, none, 0⟩, ⟨some 30, .extr (.t 26) 1, none, 0⟩, ⟨some 7, .mv (.t 29), none, 0⟩, ⟨some 8, .mv (.t 30), none, 0⟩] false []) (.seq (.seq (.region 0 [⟨some 31, .mv (.t 6), none, 0⟩, ⟨some 32, .not (.t 31), none, 0⟩, ⟨some 33, .mv (.t 32), none, 0⟩, ⟨some 34, .mv (.t 8), some (33, false), 0⟩, ⟨some 35, .not (.t 34), some (33, false), 0⟩, ⟨some 36, .pick (.t 33) (.c (.bool true)) (.t 35), none, 0⟩] false []) (.cond (.t 36) (.seq (.region 0 [⟨some 4, .mv (.c (.bool true)), none, 0⟩] false []) .ret) .skip)) (.seq (.region 1 [⟨some 38, .mv (.t 5), none, 0⟩, ⟨some 39, .callV 17 [.t 38] 1, none, 0⟩, ⟨some 37, .mv (.t 39), none, 0⟩, ⟨some 40, .extr (.t 37) 0, none, 0⟩, ⟨some 41, .extr (.t 37) 1, none, 0⟩, ⟨some 9, .mv (.t 40), none, 0⟩, ⟨some 10, .mv (.t 41), none, 0⟩] false []) (.seq (.seq (.region 0 [⟨some 42, .mv (.t 5), none, 0⟩, ⟨some 43, .len (.t 42), none, 0⟩, ⟨some 44, .bin .leq (.t 43) (.c (.int .i64 12)), none, 0⟩, ⟨some 45, .mv (.t 44), none, 0⟩, ⟨some 46, .mv (.t 10), some (45, true), 0⟩, ⟨some 47, .not (.t 46), some (45, true), 0⟩, ⟨some 48, .mv (.t 47), some (45, true), 0⟩, ⟨some 49, .mv (.t 9), some (48, false), 0⟩, ⟨some 50, .mv (.t 5), some (48, false), 0⟩, ⟨some 51, .callV 29 [.t 49, .t 50] 0, some (48, false), 0⟩, ⟨some 52, .not (.t 51), some (48, false), 0⟩, ⟨some 53, .pick (.t 48) (.c (.bool true)) (.t 52), some (45, true), 0⟩, ⟨some 54, .pick (.t 45) (.t 53) (.c (.bool false)), none, 0⟩] false []) (.cond (.t 54) (.seq (.region 0 [⟨some 4, .mv (.c (.bool false)), none, 0⟩] false []) .ret) .skip)) (.seq (.region 0 [⟨some 56, .mv (.t 5), none, 0⟩, ⟨some 57, .mv (.t 7), none, 0⟩, ⟨some 58, .callV 30 [.t 56, .t 57] 0, none, 0⟩, ⟨some 55, .mv (.t 58), none, 0⟩, ⟨some 59, .extr (.t 55) 0, none, 0⟩, ⟨some 60, .extr (.t 55) 1, none, 0⟩, ⟨some 11, .mv (.t 59), none, 0⟩, ⟨some 12, .mv (.t 60), none, 0⟩] false []) (.seq (.region 0 [⟨some 62, .mv (.t 7), none, 0⟩, ⟨some 63, .mv (.t 5), none, 0⟩, ⟨some 64, .callV 30 [.t 62, .t 63] 0, none, 0⟩, ⟨some 61, .mv (.t 64), none, 0⟩, ⟨some 65, .extr (.t 61) 0, none, 0⟩, ⟨some 66, .extr (.t 61) 1, none, 0⟩, ⟨some 13, .mv (.t 65), none, 0⟩, ⟨some 14, .mv (.t 66), none, 0⟩] false []) (.seq (.region 1 [⟨some 68, .mv (.t 5), none, 0⟩, ⟨some 69, .mv (.t 7), none, 0⟩, ⟨some 70, .callV 23 [.t 68, .t 69] 1, none, 0⟩, ⟨some 67, .mv (.t 70), none, 0⟩, ⟨some 71, .extr (.t 67) 0, none, 0⟩, ⟨some 72, .extr (.t 67) 1, none, 0⟩, ⟨some 15, .mv (.t 71), none, 0⟩, ⟨some 16, .mv (.t 72), none, 0⟩] false []) (.seq (.region 1 [⟨some 74, .mv (.t 7), none, 0⟩, ⟨some 75, .mv (.t 5), none, 0⟩, ⟨some 76, .callV 23 [.t 74, .t 75] 1, none, 0⟩, ⟨some 73, .mv (.t 76), none, 0⟩, ⟨some 77, .extr (.t 73) 0, none, 0⟩, ⟨some 78, .extr (.t 73) 1, none, 0⟩, ⟨some 17, .mv (.t 77), none, 0⟩, ⟨some 18, .mv (.t 78), none, 0⟩] false []) (.seq (.region 0 [⟨some 79, .mv (.t 12), none, 0⟩, ⟨some 80, .bin .eql (.t 79) (.c (.int .i64 0)), none, 0⟩, ⟨some 81, .mv (.t 80), none, 0⟩, ⟨some 82, .mv (.t 14), some (81, true), 0⟩, ⟨some 83, .bin .eql (.t 82) (.c (.int .i64 0)), some (81, true), 0⟩, ⟨some 84, .pick (.t 81) (.t 83) (.c (.bool false)), none, 0⟩, ⟨some 85, .mv (.t 84), none, 0⟩, ⟨some 86, .mv (.t 16), some (85, true), 0⟩, ⟨some 87, .bin .eql (.t 86) (.c (.int .i64 0)), some (85, true), 0⟩, ⟨some 88, .pick (.t 85) (.t 87) (.c (.bool false)), none, 0⟩, ⟨some 89, .mv (.t 88), none, 0⟩, ⟨some 90, .mv (.t 18), some (89, true), 0⟩, ⟨some 91, .bin .eql (.t 90) (.c (.int .i64 0)), some (89, true), 0⟩, ⟨some 92, .pick (.t 89) (.t 91) (.c (.bool false)), none, 0⟩, ⟨some 93, .mv (.t 92), none, 0⟩, ⟨some 94, .mv (.t 11), some (93, true), 0⟩, ⟨some 95, .mv (.t 94), some (93, true), 0⟩, ⟨some 96, .mv (.t 13), some (95, true), 0⟩, ⟨some 97, .pick (.t 95) (.t 96) (.c (.bool false)), some (93, true), 0⟩, ⟨some 98, .mv (.t 5), some (93, true), 0⟩, ⟨some 99, .mv (.t 7), some (93, true), 0⟩, ⟨some 100, .callV 29 [.t 98, .t 99] 0, some (93, true), 0⟩, ⟨some 101, .eqb false (.t 97) (.t 100), some (93, true), 0⟩, ⟨some 102, .pick (.t 93) (.t 101) (.c (.bool false)), none, 0⟩, ⟨some 103, .mv (.t 102), none, 0⟩, ⟨some 104, .mv (.t 15), some (103, true), 0⟩, ⟨some 105, .mv (.t 17), some (103, true), 0⟩, ⟨some 106, .callV 29 [.t 104, .t 105] 0, some (103, true), 0⟩, ⟨some 107, .pick (.t 103) (.t 106) (.c (.bool false)), none, 0⟩, ⟨some 108, .mv (.t 107), none, 0⟩, ⟨some 109, .mv (.t 11), some (108, true), 0⟩, ⟨some 110, .mv (.t 15), some (108, true), 0⟩, ⟨some 111, .mv (.t 7), some (108, true), 0⟩, ⟨some 112, .callV 29 [.t 110, .t 111] 0, some (108, true), 0⟩, ⟨some 113, .eqb false (.t 109) (.t 112), some (108, true), 0⟩, ⟨some 114, .pick (.t 108) (.t 113) (.c (.bool false)), none, 0⟩, ⟨some 4, .mv (.t 114), none, 0⟩] false []) .ret)))))))))))), false⟩
theorem c8 : cFunc Tryd.prog G f8 Tryd.f8 = some f8 := by kernel_rfl
/-- junctionbox/junctionboxlaw24.wakes -/
def f9 : AFunc :=
⟨0, [.t 0], (.seq (.region 0 [⟨some 0, .mv (.c (.bool false)), none, 0⟩] false []) (.seq (.region 2 [⟨some 6, .callV 31 [.c (.int .u8 10), .c (.int .u8 128), .c (.int .i64 9)] 0, none, 0⟩, ⟨some 7, .callV 31 [.c (.int .u8 10), .c (.int .u8 0), .c (.int .i64 9)] 0, none, 0⟩, ⟨some 8, .callV 31 [.c (.int .u8 10), .c (.int .u8 1), .c (.int .i64 16)] 0, none, 0⟩, ⟨some 9, .buildSl 37 18 [.int .i64 0, .int .u8 0, .int .u8 0, .int .u8 0, .int .u8 0, .int .u8 0, .int .u8 0, .int .u8 0, .int .u8 0, .int .u8 0, .int .u8 0, .int .u8 0, .int .u8 0, .int .u8 0, .int .u8 0, .int .u8 0, .int .u8 0, .int .i64 0] 3 [(0, .t 6), (1, .t 7), (2, .t 8)] true, none, 0⟩, ⟨some 10, .callV 11 [.t 9] 1, none, 1⟩, ⟨some 5, .mv (.t 10), none, 0⟩, ⟨some 11, .extr (.t 5) 0, none, 0⟩, ⟨some 12, .extr (.t 5) 1, none, 0⟩, ⟨some 1, .mv (.t 11), none, 0⟩, ⟨some 2, .mv (.t 12), none, 0⟩] false []) (.seq (.region 3 [⟨some 14, .callV 31 [.c (.int .u8 10), .c (.int .u8 0), .c (.int .i64 8)] 0, none, 0⟩, ⟨some 15, .buildSl 37 18 [.int .i64 0, .int .u8 0, .int .u8 0, .int .u8 0, .int .u8 0, .int .u8 0, .int .u8 0, .int .u8 0, .int .u8 0, .int .u8 0, .int .u8 0, .int .u8 0, .int .u8 0, .int .u8 0, .int .u8 0, .int .u8 0, .int .u8 0, .int .i64 0] 1 [(0, .t 14)] true, none, 0⟩, ⟨some 16, .callV 31 [.c (.int .u8 10), .c (.int .u8 0), .c (.int .i64 10)] 0, none, 0⟩, ⟨some 17, .buildSl 37 18 [.int .i64 0, .int .u8 0, .int .u8 0, .int .u8 0, .int .u8 0, .int .u8 0, .int .u8 0, .int .u8 0, .int .u8 0, .int .u8 0, .int .u8 0, .int .u8 0, .int .u8 0, .int .u8 0, .int .u8 0, .int .u8 0, .int .u8 0, .int .i64 0] 1 [(0, .t 16)] true, none, 1⟩, ⟨some 18, .callV 25 [.t 15, .t 17] 1, none, 2⟩, ⟨some 13, .mv (.t 18), none, 0⟩, ⟨some 19, .extr (.t 13) 0, none, 0⟩, ⟨some 20, .extr (.t 13) 1, none, 0⟩, ⟨some 3, .mv (.t 19), none, 0⟩, ⟨some 4, .mv (.t 20), none, 0⟩] false []) (.seq (.region 2 [⟨some 21, .mv (.t 2), none, 0⟩, ⟨some 22, .bin .eql (.t 21) (.c (.int .i64 0)), none, 0⟩, ⟨some 23, .mv (.t 22), none, 0⟩, ⟨some 24, .mv (.t 4), some (23, true), 0⟩, ⟨some 25, .bin .eql (.t 24) (.c (.int .i64 0)), some (23, true), 0⟩, ⟨some 26, .pick (.t 23) (.t 25) (.c (.bool false)), none, 0⟩, ⟨some 27, .mv (.t 26), none, 0⟩, ⟨some 28, .mv (.t 1), some (27, true), 0⟩, ⟨some 29, .callV 31 [.c (.int .u8 10), .c (.int .u8 0), .c (.int .i64 8)] 0, some (27, true), 0⟩, ⟨some 30, .buildSl 37 18 [.int .i64 0, .int .u8 0, .int .u8 0, .int .u8 0, .int .u8 0, .int .u8 0, .int .u8 0, .int .u8 0, .int .u8 0, .int .u8 0, .int .u8 0, .int .u8 0, .int .u8 0, .int .u8 0, .int .u8 0, .int .u8 0, .int .u8 0, .int .i64 0] 1 [(0, .t 29)] true, some (27, true), 0⟩, ⟨some 31, .callV 13 [.t 28, .t 30] 0, some (27, true), 0⟩, ⟨some 32, .pick (.t 27) (.t 31) (.c (.bool false)), none, 0⟩, ⟨some 33, .mv (.t 32), none, 0⟩, ⟨some 34, .mv (.t 3), some (33, true), 0⟩, ⟨some 35, .callV 31 [.c (.int .u8 10), .c (.int .u8 64), .c (.int .i64 10)] 0, some (33, true), 0⟩, ⟨some 36, .callV 31 [.c (.int .u8 10), .c (.int .u8 128), .c (.int .i64 9)] 0, some (33, true), 0⟩, ⟨some 37, .buildSl 37 18 [.int .i64 0, .int .u8 0, .int .u8 0, .int .u8 0, .int .u8 0, .int .u8 0, .int .u8 0, .int .u8 0, .int .u8 0, .int .u8 0, .int .u8 0, .int .u8 0, .int .u8 0, .int .u8 0, .int .u8 0, .int .u8 0, .int .u8 0, .int .i64 0] 2 [(0, .t 35), (1, .t 36)] true, some (33, true), 1⟩, ⟨some 38, .callV 13 [.t 34, .t 37] 0, some (33, true), 0⟩, ⟨some 39, .pick (.t 33) (.t 38) (.c (.bool false)), none, 0⟩, ⟨some 0, .mv (.t 39), none, 0⟩] false []) .ret)))), false⟩
theorem c9 : cFunc Tryd.prog G f9 Tryd.f9 = some f9 := by kernel_rfl
/-- junctionbox/junctionboxlaw24.row -/
def f10 : AFunc :=
⟨1, [.t 2], (.seq (.region 1 [⟨some 2, .newl 37 18, none, 0⟩] false []) (.seq (.seq (.region 0 [⟨some 3, .mv (.t 0), none, 0⟩, ⟨some 4, .len (.t 3), none, 0⟩, ⟨some 5, .bin .gtr (.t 4) (.c (.int .i64 64)), none, 0⟩] false []) (.cond (.t 5) (.seq (.region 2 [⟨some 6, .buildSl 37 18 [.int .i64 0, .int .u8 0, .int .u8 0, .int .u8 0, .int .u8 0, .int .u8 0, .int .u8 0, .int .u8 0, .int .u8 0, .int .u8 0, .int .u8 0, .int .u8 0, .int .u8 0, .int .u8 0, .int .u8 0, .int .u8 0, .int .u8 0, .int .i64 0] 0 [] false, none, 0⟩, ⟨some 7, .mv (.t 0), none, 0⟩, ⟨some 8, .slice 18 (.t 7) none (some (.c (.int .i64 65))) none, none, 0⟩, ⟨some 9, .append 37 18 32 (.t 6) (.t 8), none, 1⟩, ⟨some 2, .mv (.t 9), none, 0⟩] false []) .ret) .skip)) (.seq (.region 2 [⟨some 10, .buildSl 37 18 [.int .i64 0, .int .u8 0, .int .u8 0, .int .u8 0, .int .u8 0, .int .u8 0, .int .u8 0, .int .u8 0, .int .u8 0, .int .u8 0, .int .u8 0, .int .u8 0, .int .u8 0, .int .u8 0, .int .u8 0, .int .u8 0, .int .u8 0, .int .i64 0] 0 [] false, none, 0⟩, ⟨some 11, .mv (.t 0), none, 0⟩, ⟨some 12, .mv (.t 0), none, 0⟩, ⟨some 13, .len (.t 12), none, 0⟩, ⟨some 14, .min (.t 13) [.c (.int .i64 16)], none, 0⟩, ⟨some 15, .slice 18 (.t 11) none (some (.t 14)) none, none, 0⟩, ⟨some 16, .append 37 18 32 (.t 10) (.t 15), none, 1⟩, ⟨some 2, .mv (.t 16), none, 0⟩] false []) .ret))), true⟩
theorem c10 : cFunc Tryd.prog G f10 Tryd.f10 = some f10 := by kernel_rfl
/-- junctionbox/cover.One -/
def f11 : AFunc :=
⟨1, [.t 2, .t 3], (.seq (.region 1 [⟨some 2, .newl 37 18, none, 0⟩, ⟨some 3, .mv (.c (.int .i64 0)), none, 0⟩] false []) (.seq (.block 0 (.seq (.region 0 [⟨some 5, .mv (.t 0), none, 0⟩, ⟨some 6, .len (.t 5), none, 0⟩, ⟨some 7, .bin .gtr (.t 6) (.c (.int .i64 64)), none, 0⟩, ⟨some 4, .mv (.t 7), none, 0⟩] false []) (.cond (.t 4) (.seq (.region 1 [⟨some 2, .newl 37 18, none, 0⟩, ⟨some 3, .mv (.c (.int .i64 3)), none, 0⟩] false []) .ret) (.seq (.region 0 [⟨some 9, .mv (.t 0), none, 0⟩, ⟨some 10, .callV 32 [.t 9] 0, none, 0⟩, ⟨some 8, .mv (.t 10), none, 0⟩] false []) (.cond (.t 8) (.seq (.region 1 [⟨some 2, .newl 37 18, none, 0⟩, ⟨some 3, .mv (.c (.int .i64 151)), none, 0⟩] false []) .ret) .skip))))) (.seq (.region 2 [⟨some 11, .mv (.t 0), none, 0⟩, ⟨some 12, .buildSl 24 1 [.clip []] 1 [(0, .t 11)] false, none, 0⟩, ⟨some 13, .callV 33 [.t 12] 1, none, 1⟩, ⟨some 2, .mv (.t 13), none, 0⟩, ⟨some 3, .mv (.c (.int .i64 0)), none, 0⟩] false []) .ret))), true⟩
theorem c11 : cFunc Tryd.prog G f11 Tryd.f11 = some f11 := by kernel_rfl
/-- junctionbox/junctionboxref24.Right -/
def f12 : AFunc :=
⟨1, [.t 2], (.seq (.region 0 [⟨some 2, .mv (.c (.bool false)), none, 0⟩] false []) (.seq (.seq (.region 0 [⟨some 5, .mv (.t 0), none, 0⟩, ⟨some 6, .len (.t 5), none, 0⟩, ⟨some 7, .mv (.c (.int .i64 0)), none, 0⟩] false []) (.block 0 (.loop [5, 6, 7] (.seq (.region 0 [⟨some 8, .bin .lss (.t 7) (.t 6), none, 0⟩] false []) (.seq (.cond (.t 8) .skip (.exit 0)) (.seq (.block 1 (.seq (.region 1 [⟨some 9, .iaddr 18 none (.t 5) (.t 7), none, 0⟩, ⟨some 10, .load 18 true (.t 9), none, 0⟩, ⟨some 4, .alloc 37 [.int .i64 0, .int .u8 0, .int .u8 0, .int .u8 0, .int .u8 0, .int .u8 0, .int .u8 0, .int .u8 0, .int .u8 0, .int .u8 0, .int .u8 0, .int .u8 0, .int .u8 0, .int .u8 0, .int .u8 0, .int .u8 0, .int .u8 0, .int .i64 0] [], none, 0⟩, ⟨none, .store 18 (.t 4) (.t 10), none, 0⟩] false []) (.seq (.region 0 [⟨some 11, .load 18 true (.t 4), none, 0⟩, ⟨some 12, .callV 34 [.t 11] 0, none, 0⟩, ⟨some 13, .not (.t 12), none, 0⟩] false []) (.cond (.t 13) (.seq (.region 0 [⟨some 2, .mv (.c (.bool false)), none, 0⟩] false []) .ret) .skip)))) (.region 0 [⟨some 14, .bin .add (.t 7) (.c (.int .i64 1)), none, 0⟩, ⟨some 7, .mv (.t 14), none, 0⟩] false []))))))) (.seq (.region 0 [⟨some 2, .mv (.c (.bool true)), none, 0⟩] false []) .ret))), false⟩
theorem c12 : cFunc Tryd.prog G f12 Tryd.f12 = some f12 := by kernel_rfl
/-- junctionbox/junctionboxref24.Same -/
def f13 : AFunc :=
⟨2, [.t 4], (.seq (.region 0 [⟨some 4, .mv (.c (.bool false)), none, 0⟩] false []) (.seq (.seq (.region 0 [⟨some 6, .mv (.t 0), none, 0⟩, ⟨some 7, .len (.t 6), none, 0⟩, ⟨some 8, .mv (.t 1), none, 0⟩, ⟨some 9, .len (.t 8), none, 0⟩, ⟨some 10, .bin .neq (.t 7) (.t 9), none, 0⟩] false []) (.cond (.t 10) (.seq (.region 0 [⟨some 4, .mv (.c (.bool false)), none, 0⟩] false []) .ret) .skip)) (.seq (.seq (.region 0 [⟨some 11, .mv (.t 0), none, 0⟩, ⟨some 12, .len (.t 11), none, 0⟩, ⟨some 13, .mv (.c (.int .i64 0)), none, 0⟩] false []) (.block 0 (.loop [0, 1, 12, 13] (.seq (.region 0 [⟨some 14, .bin .lss (.t 13) (.t 12), none, 0⟩] false []) (.seq (.cond (.t 14) .skip (.exit 0)) (.seq (.block 1 (.seq (.region 0 [⟨some 15, .mv (.t 13), none, 0⟩, ⟨some 5, .mv (.t 15), none, 0⟩] false []) (.seq (.region 0 [⟨some 16, .mv (.t 0), none, 0⟩, ⟨some 17, .mv (.t 5), none, 0⟩, ⟨some 18, .iaddr 18 none (.t 16) (.t 17), none, 0⟩, ⟨some 19, .load 18 true (.t 18), none, 0⟩, ⟨some 20, .mv (.t 1), none, 0⟩, ⟨some 21, .mv (.t 5), none, 0⟩, ⟨some 22, .iaddr 18 none (.t 20) (.t 21), none, 0⟩, ⟨some 23, .load 18 true (.t 22), none, 0⟩, ⟨some 24, .eqagg true [1, 1, 1, 1, 1, 1, 1, 1, 1, 1, 1, 1, 1, 1, 1, 1, 1, 1] (.t 19) (.t 23), none, 0⟩] true []) (.cond (.t 24) (.seq (.region 0 [⟨some 4, .mv (.c (.bool false)), none, 0⟩] false []) .ret) .skip)))) (.region 0 [⟨some 25, .bin .add (.t 13) (.c (.int .i64 1)), none, 0⟩, ⟨some 13, .mv (.t 25), none, 0⟩] false []))))))) (.seq (.region 0 [⟨some 4, .mv (.c (.bool true)), none, 0⟩] false []) .ret)))), false⟩
theorem c13 : cFunc Tryd.prog G f13 Tryd.f13 = some f13 := by kernel_rfl
/-- junctionbox/junctionboxref24.Comes -/
def f14 : AFunc :=
⟨3, [.t 6], (.seq (.region 1 [⟨some 6, .newl 37 18, none, 0⟩] false []) (.seq (.region 1 [⟨some 9, .build [.int .i64 0, .int .u8 0, .int .u8 0, .int .u8 0, .int .u8 0, .int .u8 0, .int .u8 0, .int .u8 0, .int .u8 0, .int .u8 0, .int .u8 0, .int .u8 0, .int .u8 0, .int .u8 0, .int .u8 0, .int .u8 0, .int .u8 0] [(0, 1, .c (.int .i64 4))] [], none, 0⟩, ⟨some 10, .build [.int .i64 0, .int .u8 0, .int .u8 0, .int .u8 0, .int .u8 0, .int .u8 0, .int .u8 0, .int .u8 0, .int .u8 0, .int .u8 0, .int .u8 0, .int .u8 0, .int .u8 0, .int .u8 0, .int .u8 0, .int .u8 0, .int .u8 0, .int .i64 0] [(0, 17, .t 9)] [], none, 0⟩, ⟨some 7, .alloc 37 [.int .i64 0, .int .u8 0, .int .u8 0, .int .u8 0, .int .u8 0, .int .u8 0, .int .u8 0, .int .u8 0, .int .u8 0, .int .u8 0, .int .u8 0, .int .u8 0, .int .u8 0, .int .u8 0, .int .u8 0, .int .u8 0, .int .u8 0, .int .i64 0] [], none, 0⟩, ⟨none, .store 18 (.t 7) (.t 10), none, 0⟩] false []) (.seq (.region 1 [⟨some 11, .build [.int .i64 0, .int .u8 0, .int .u8 0, .int .u8 0, .int .u8 0, .int .u8 0, .int .u8 0, .int .u8 0, .int .u8 0, .int .u8 0, .int .u8 0, .int .u8 0, .int .u8 0, .int .u8 0, .int .u8 0, .int .u8 0, .int .u8 0] [(0, 1, .c (.int .i64 6))] [], none, 0⟩, ⟨some 12, .build [.int .i64 0, .int .u8 0, .int .u8 0, .int .u8 0, .int .u8 0, .int .u8 0, .int .u8 0, .int .u8 0, .int .u8 0, .int .u8 0, .int .u8 0, .int .u8 0, .int .u8 0, .int .u8 0, .int .u8 0, .int .u8 0, .int .u8 0, .int .i64 0] [(0, 17, .t 11)] [], none, 0⟩, ⟨some 8, .alloc 37 [.int .i64 0, .int .u8 0, .int .u8 0, .int .u8 0, .int .u8 0, .int .u8 0, .int .u8 0, .int .u8 0, .int .u8 0, .int .u8 0, .int .u8 0, .int .u8 0, .int .u8 0, .int .u8 0, .int .u8 0, .int .u8 0, .int .u8 0, .int .i64 0] [], none, 0⟩, ⟨none, .store 18 (.t 8) (.t 12), none, 0⟩] false []) (.seq (.region 3 [⟨some 13, .mv (.t 0), none, 0⟩, ⟨some 14, .mv (.t 1), none, 0⟩, ⟨some 15, .mv (.t 2), none, 0⟩, ⟨some 16, .load 18 true (.t 7), none, 0⟩, ⟨some 17, .callV 35 [.t 13, .t 14, .t 15, .t 16] 2, none, 0⟩, ⟨some 18, .mv (.t 0), none, 0⟩, ⟨some 19, .mv (.t 1), none, 0⟩, ⟨some 20, .mv (.t 2), none, 0⟩, ⟨some 21, .load 18 true (.t 8), none, 0⟩, ⟨some 22, .callV 35 [.t 18, .t 19, .t 20, .t 21] 2, none, 1⟩, ⟨some 23, .append 37 18 32 (.t 17) (.t 22), none, 2⟩, ⟨some 6, .mv (.t 23), none, 0⟩] true [(.t 8, .c .undef, 0)]) .ret)))), true⟩
theorem c14 : cFunc Tryd.prog G f14 Tryd.f14 = some f14 := by kernel_rfl
/-- junctionbox/junctionboxref24.One -/
def f15 : AFunc :=
⟨1, [.t 2], (.seq (.region 0 [⟨some 2, .mv (.c (.bool false)), none, 0⟩] false []) (.seq (.region 1 [⟨some 3, .mv (.t 0), none, 0⟩, ⟨some 4, .len (.t 3), none, 0⟩, ⟨some 5, .bin .leq (.t 4) (.c (.int .i64 300)), none, 0⟩, ⟨some 6, .mv (.t 5), none, 0⟩, ⟨some 7, .mv (.t 0), some (6, true), 0⟩, ⟨some 8, .callV 12 [.t 7] 0, some (6, true), 0⟩, ⟨some 9, .pick (.t 6) (.t 8) (.c (.bool false)), none, 0⟩, ⟨some 10, .mv (.t 9), none, 0⟩, ⟨some 11, .mv (.t 0), some (10, true), 0⟩, ⟨some 12, .mv (.t 0), some (10, true), 0⟩, ⟨some 13, .callV 14 [.c (.int .i64 0), .t 12, .c (.clip [])] 1, some (10, true), 0⟩, ⟨some 14, .callV 13 [.t 11, .t 13] 0, some (10, true), 0⟩, ⟨some 15, .pick (.t 10) (.t 14) (.c (.bool false)), none, 0⟩, ⟨some 2, .mv (.t 15), none, 0⟩] false []) .ret)), false⟩
theorem c15 : cFunc Tryd.prog G f15 Tryd.f15 = some f15 := by kernel_rfl
/-- junctionbox/cover.Check -/
def f16 : AFunc :=
⟨1, [.t 2], (.seq (.region 0 [⟨some 2, .mv (.c (.int .i64 0)), none, 0⟩] false []) (.seq (.seq (.region 2 [⟨some 3, .mv (.t 0), none, 0⟩, ⟨some 4, .len (.t 3), none, 0⟩, ⟨some 5, .bin .gtr (.t 4) (.c (.int .i64 300)), none, 0⟩, ⟨some 6, .mv (.t 5), none, 0⟩, ⟨some 7, .mv (.t 0), some (6, false), 0⟩, ⟨some 8, .callV 32 [.t 7] 0, some (6, false), 0⟩, ⟨some 9, .pick (.t 6) (.c (.bool true)) (.t 8), none, 0⟩, ⟨some 10, .mv (.t 9), none, 0⟩, ⟨some 11, .mv (.t 0), some (10, false), 0⟩, ⟨some 12, .buildSl 24 1 [.clip []] 1 [(0, .t 11)] false, some (10, false), 0⟩, ⟨some 13, .callV 33 [.t 12] 1, some (10, false), 1⟩, ⟨some 14, .mv (.t 0), some (10, false), 0⟩, ⟨some 15, .callV 29 [.t 13, .t 14] 0, some (10, false), 0⟩, ⟨some 16, .not (.t 15), some (10, false), 0⟩, ⟨some 17, .pick (.t 10) (.c (.bool true)) (.t 16), none, 0⟩] false []) (.cond (.t 17) (.seq (.region 0 [⟨some 2, .mv (.c (.int .i64 340)), none, 0⟩] false []) .ret) .skip)) (.seq (.region 0 [⟨some 2, .mv (.c (.int .i64 0)), none, 0⟩] false []) .ret))), false⟩
theorem c16 : cFunc Tryd.prog G f16 Tryd.f16 = some f16 := by kernel_rfl
/-- junctionbox/junctionboxlaw24.form -/
def f17 : AFunc :=
⟨1, [.t 2, .t 3], (.seq (.region 1 [⟨some 2, .newl 37 18, none, 0⟩, ⟨some 3, .mv (.c (.bool false)), none, 0⟩] false []) (.seq (.region 1 [⟨some 7, .mv (.t 0), none, 0⟩, ⟨some 8, .mv (.t 0), none, 0⟩, ⟨some 9, .len (.t 8), none, 0⟩, ⟨some 10, .min (.t 9) [.c (.int .i64 12)], none, 0⟩, ⟨some 11, .slice 18 (.t 7) none (some (.t 10)) none, none, 0⟩, ⟨some 12, .callV 11 [.t 11] 1, none, 0⟩, ⟨some 6, .mv (.t 12), none, 0⟩, ⟨some 13, .extr (.t 6) 0, none, 0⟩, ⟨some 14, .extr (.t 6) 1, none, 0⟩, ⟨some 4, .mv (.t 13), none, 0⟩, ⟨some 5, .mv (.t 14), none, 0⟩] false []) (.seq (.region 0 [⟨some 15, .mv (.t 4), none, 0⟩, ⟨some 16, .mv (.t 5), none, 0⟩, ⟨some 17, .bin .eql (.t 16) (.c (.int .i64 0)), none, 0⟩, ⟨some 2, .mv (.t 15), none, 0⟩, ⟨some 3, .mv (.t 17), none, 0⟩] false []) .ret))), true⟩
theorem c17 : cFunc Tryd.prog G f17 Tryd.f17 = some f17 := by kernel_rfl
/-- junctionbox/cover.Least -/
def f18 : AFunc :=
⟨1, [.cell 2 18 true, .t 3, .t 4], (.seq (.region 1 [⟨some 2, .alloc 37 [.int .i64 0, .int .u8 0, .int .u8 0, .int .u8 0, .int .u8 0, .int .u8 0, .int .u8 0, .int .u8 0, .int .u8 0, .int .u8 0, .int .u8 0, .int .u8 0, .int .u8 0, .int .u8 0, .int .u8 0, .int .u8 0, .int .u8 0, .int .i64 0] [], none, 0⟩, ⟨some 3, .mv (.c (.bool false)), none, 0⟩, ⟨some 4, .mv (.c (.int .i64 0)), none, 0⟩] false []) (.seq (.seq (.region 0 [⟨some 8, .mv (.t 0), none, 0⟩, ⟨some 9, .callV 16 [.t 8] 0, none, 0⟩, ⟨some 5, .mv (.t 9), none, 0⟩] false []) (.seq (.region 0 [⟨some 10, .mv (.t 5), none, 0⟩, ⟨some 11, .bin .neq (.t 10) (.c (.int .i64 0)), none, 0⟩] false []) (.cond (.t 11) (.seq (.region 0 [⟨some 12, .build [.int .i64 0, .int .u8 0, .int .u8 0, .int .u8 0, .int .u8 0, .int .u8 0, .int .u8 0, .int .u8 0, .int .u8 0, .int .u8 0, .int .u8 0, .int .u8 0, .int .u8 0, .int .u8 0, .int .u8 0, .int .u8 0, .int .u8 0, .int .i64 0] [] [], none, 0⟩, ⟨some 13, .mv (.t 5), none, 0⟩, ⟨none, .store 18 (.t 2) (.t 12), none, 0⟩, ⟨some 3, .mv (.c (.bool false)), none, 0⟩, ⟨some 4, .mv (.t 13), none, 0⟩] false []) .ret) .skip))) (.seq (.seq (.region 0 [⟨some 14, .mv (.t 0), none, 0⟩, ⟨some 15, .len (.t 14), none, 0⟩, ⟨some 16, .bin .eql (.t 15) (.c (.int .i64 0)), none, 0⟩, ⟨some 17, .mv (.t 16), none, 0⟩, ⟨some 18, .mv (.t 0), some (17, false), 0⟩, ⟨some 19, .iaddr 18 none (.t 18) (.c (.int .i64 0)), some (17, false), 0⟩, ⟨some 20, .faddr 0 (.t 19), some (17, false), 0⟩, ⟨some 21, .faddr 0 (.t 20), some (17, false), 0⟩, ⟨some 22, .load 1 false (.t 21), some (17, false), 0⟩, ⟨some 23, .mv (.t 0), some (17, false), 0⟩, ⟨some 24, .mv (.t 0), some (17, false), 0⟩, ⟨some 25, .len (.t 24), some (17, false), 0⟩, ⟨some 26, .bin .sub (.t 25) (.c (.int .i64 1)), some (17, false), 0⟩, ⟨some 27, .iaddr 18 none (.t 23) (.t 26), some (17, false), 0⟩, ⟨some 28, .faddr 0 (.t 27), some (17, false), 0⟩, ⟨some 29, .faddr 0 (.t 28), some (17, false), 0⟩, ⟨some 30, .load 1 false (.t 29), some (17, false), 0⟩, ⟨some 31, .bin .neq (.t 22) (.t 30), some (17, false), 0⟩, ⟨some 32, .pick (.t 17) (.c (.bool true)) (.t 31), none, 0⟩] true []) (.cond (.t 32) (.seq (.region 0 [⟨some 33, .build [.int .i64 0, .int .u8 0, .int .u8 0, .int .u8 0, .int .u8 0, .int .u8 0, .int .u8 0, .int .u8 0, .int .u8 0, .int .u8 0, .int .u8 0, .int .u8 0, .int .u8 0, .int .u8 0, .int .u8 0, .int .u8 0, .int .u8 0, .int .i64 0] [] [], none, 0⟩, ⟨none, .store 18 (.t 2) (.t 33), none, 0⟩, ⟨some 3, .mv (.c (.bool false)), none, 0⟩, ⟨some 4, .mv (.c (.int .i64 0)), none, 0⟩] false []) .ret) .skip)) (.seq (.region 2 [⟨some 34, .mv (.t 0), none, 0⟩, ⟨some 35, .iaddr 18 none (.t 34) (.c (.int .i64 0)), none, 0⟩, ⟨some 36, .load 18 true (.t 35), none, 0⟩, ⟨some 37, .mv (.t 0), none, 0⟩, ⟨some 38, .mv (.t 0), none, 0⟩, ⟨some 39, .len (.t 38), none, 0⟩, ⟨some 40, .bin .sub (.t 39) (.c (.int .i64 1)), none, 0⟩, ⟨some 41, .iaddr 18 none (.t 37) (.t 40), none, 0⟩, ⟨some 42, .load 18 true (.t 41), none, 0⟩, ⟨some 6, .alloc 37 [.int .i64 0, .int .u8 0, .int .u8 0, .int .u8 0, .int .u8 0, .int .u8 0, .int .u8 0, .int .u8 0, .int .u8 0, .int .u8 0, .int .u8 0, .int .u8 0, .int .u8 0, .int .u8 0, .int .u8 0, .int .u8 0, .int .u8 0, .int .i64 0] [], none, 0⟩, ⟨some 7, .alloc 37 [.int .i64 0, .int .u8 0, .int .u8 0, .int .u8 0, .int .u8 0, .int .u8 0, .int .u8 0, .int .u8 0, .int .u8 0, .int .u8 0, .int .u8 0, .int .u8 0, .int .u8 0, .int .u8 0, .int .u8 0, .int .u8 0, .int .u8 0, .int .i64 0] [], none, 1⟩, ⟨none, .store 18 (.t 6) (.t 36), none, 0⟩, ⟨none, .store 18 (.t 7) (.t 42), none, 0⟩] true [(.t 34, .c .undef, 0), (.t 35, .c .undef, 0), (.t 37, .c .undef, 0), (.t 40, .c .undef, 0), (.t 41, .c .undef, 0), (.t 34, .c .undef, 1), (.t 35, .c .undef, 1), (.t 37, .c .undef, 1), (.t 40, .c .undef, 1), (.t 41, .c .undef, 1), (.t 41, .t 6, 0)]) (.seq (.block 0 (.loop [2, 6, 7] (.seq (.seq (.region 0 [⟨some 43, .load 18 true (.t 6), none, 0⟩, ⟨some 44, .load 18 true (.t 7), none, 0⟩, ⟨some 45, .callV 19 [.t 43, .t 44] 0, none, 0⟩, ⟨some 46, .not (.t 45), none, 0⟩] false []) (.cond (.t 46) .skip (.exit 0))) (.block 1 (.region 0 [⟨some 47, .load 18 true (.t 6), none, 0⟩, ⟨some 48, .callV 36 [.t 47] 0, none, 0⟩, ⟨none, .store 18 (.t 6) (.t 48), none, 0⟩] false []))))) (.seq (.region 0 [⟨some 49, .load 18 true (.t 6), none, 0⟩, ⟨none, .store 18 (.t 2) (.t 49), none, 0⟩, ⟨some 3, .mv (.c (.bool true)), none, 0⟩, ⟨some 4, .mv (.c (.int .i64 0)), none, 0⟩] false []) .ret)))))), false⟩
theorem c18 : cFunc Tryd.prog G f18 Tryd.f18 = some f18 := by kernel_rfl
/-- junctionbox/prefix.Holds -/
def f19 : AFunc :=
⟨2, [.t 4], (.seq (.region 2 [⟨some 2, .box 37 18 (.t 0) [], none, 0⟩, ⟨some 3, .box 37 18 (.t 1) [], none, 1⟩, ⟨some 4, .mv (.c (.bool false)), none, 0⟩] false []) (.seq (.region 0 [⟨some 5, .load 18 true (.t 3), none, 0⟩, ⟨some 6, .callV 37 [.t 5] 0, none, 0⟩, ⟨some 7, .bin .eql (.t 6) (.c (.int .i64 0)), none, 0⟩, ⟨some 8, .mv (.t 7), none, 0⟩, ⟨some 9, .faddr 17 (.t 3), some (8, true), 0⟩, ⟨some 10, .load 1 false (.t 9), some (8, true), 0⟩, ⟨some 11, .faddr 17 (.t 2), some (8, true), 0⟩, ⟨some 12, .load 1 false (.t 11), some (8, true), 0⟩, ⟨some 13, .bin .geq (.t 10) (.t 12), some (8, true), 0⟩, ⟨some 14, .pick (.t 8) (.t 13) (.c (.bool false)), none, 0⟩, ⟨some 15, .mv (.t 14), none, 0⟩, ⟨some 16, .load 18 true (.t 2), some (15, true), 0⟩, ⟨some 17, .faddr 0 (.t 3), some (15, true), 0⟩, ⟨some 18, .load 17 true (.t 17), some (15, true), 0⟩, ⟨some 19, .callV 38 [.t 16, .t 18] 0, some (15, true), 0⟩, ⟨some 20, .pick (.t 15) (.t 19) (.c (.bool false)), none, 0⟩, ⟨some 4, .mv (.t 20), none, 0⟩] false []) .ret)), false⟩
theorem c19 : cFunc Tryd.prog G f19 Tryd.f19 = some f19 := by kernel_rfl
/-- junctionbox/prefix.Width -/
def f20 : AFunc :=
⟨1, [.t 2], (.seq (.region 0 [⟨some 2, .mv (.c (.int .i64 0)), none, 0⟩] false []) (.seq (.seq (.region 0 [⟨some 3, .mv (.t 0), none, 0⟩, ⟨some 4, .bin .lss (.t 3) (.c (.int .i64 0)), none, 0⟩, ⟨some 5, .mv (.t 4), none, 0⟩, ⟨some 6, .mv (.t 0), some (5, false), 0⟩, ⟨some 7, .bin .geq (.t 6) (.c (.int .i64 7)), some (5, false), 0⟩, ⟨some 8, .pick (.t 5) (.c (.bool true)) (.t 7), none, 0⟩] false []) (.cond (.t 8) (.seq (.region 0 [⟨some 2, .mv (.c (.int .i64 0)), none, 0⟩] false []) .ret) .skip)) (.seq (.region 0 [⟨some 9, .mv (.t 0), none, 0⟩, ⟨some 10, .iaddr 1 (some 7) (.c (.rp [.int .i64 0, .int .i64 0, .int .i64 0, .int .i64 0, .int .i64 32, .int .i64 0, .int .i64 128] 0)) (.t 9), none, 0⟩, ⟨some 11, .load 1 false (.t 10), none, 0⟩, ⟨some 2, .mv (.t 11), none, 0⟩] false []) .ret))), false⟩
theorem c20 : cFunc Tryd.prog G f20 Tryd.f20 = some f20 := by kernel_rfl
/-- junctionbox/prefix.Of -/
def f21 : AFunc :=
⟨2, [.cell 4 18 true, .t 5], (.seq (.region 2 [⟨some 2, .box 35 17 (.t 0) [], none, 0⟩, ⟨some 4, .alloc 37 [.int .i64 0, .int .u8 0, .int .u8 0, .int .u8 0, .int .u8 0, .int .u8 0, .int .u8 0, .int .u8 0, .int .u8 0, .int .u8 0, .int .u8 0, .int .u8 0, .int .u8 0, .int .u8 0, .int .u8 0, .int .u8 0, .int .u8 0, .int .i64 0] [], none, 1⟩, ⟨some 5, .mv (.c (.int .i64 0)), none, 0⟩] false []) (.seq (.block 0 (.seq (.region 0 [⟨some 7, .load 17 true (.t 2), none, 0⟩, ⟨some 8, .callV 39 [.t 7] 0, none, 0⟩, ⟨some 9, .bin .neq (.t 8) (.c (.int .i64 0)), none, 0⟩, ⟨some 6, .mv (.t 9), none, 0⟩] false []) (.cond (.t 6) (.seq (.region 0 [⟨some 10, .build [.int .i64 0, .int .u8 0, .int .u8 0, .int .u8 0, .int .u8 0, .int .u8 0, .int .u8 0, .int .u8 0, .int .u8 0, .int .u8 0, .int .u8 0, .int .u8 0, .int .u8 0, .int .u8 0, .int .u8 0, .int .u8 0, .int .u8 0, .int .i64 0] [] [], none, 0⟩, ⟨none, .store 18 (.t 4) (.t 10), none, 0⟩, ⟨some 5, .mv (.c (.int .i64 150)), none, 0⟩] false []) .ret) (.seq (.region 0 [⟨some 12, .mv (.t 1), none, 0⟩, ⟨some 13, .bin .lss (.t 12) (.c (.int .i64 0)), none, 0⟩, ⟨some 14, .mv (.t 13), none, 0⟩, ⟨some 15, .mv (.t 1), some (14, false), 0⟩, ⟨some 16, .faddr 0 (.t 2), some (14, false), 0⟩, ⟨some 17, .load 1 false (.t 16), some (14, false), 0⟩, ⟨some 18, .callV 20 [.t 17] 0, some (14, false), 0⟩, ⟨some 19, .bin .gtr (.t 15) (.t 18), some (14, false), 0⟩, ⟨some 20, .pick (.t 14) (.c (.bool true)) (.t 19), none, 0⟩, ⟨some 11, .mv (.t 20), none, 0⟩] false []) (.cond (.t 11) (.seq (.region 0 [⟨some 21, .build [.int .i64 0, .int .u8 0, .int .u8 0, .int .u8 0, .int .u8 0, .int .u8 0, .int .u8 0, .int .u8 0, .int .u8 0, .int .u8 0, .int .u8 0, .int .u8 0, .int .u8 0, .int .u8 0, .int .u8 0, .int .u8 0, .int .u8 0, .int .i64 0] [] [], none, 0⟩, ⟨none, .store 18 (.t 4) (.t 21), none, 0⟩, ⟨some 5, .mv (.c (.int .i64 2)), none, 0⟩] false []) .ret) .skip))))) (.seq (.region 0 [⟨some 22, .faddr 1 (.t 2), none, 0⟩, ⟨some 23, .load 16 true (.t 22), none, 0⟩, ⟨some 24, .mv (.t 1), none, 0⟩, ⟨some 25, .callV 40 [.t 23, .t 24] 0, none, 0⟩, ⟨some 26, .faddr 1 (.t 2), none, 0⟩, ⟨none, .store 16 (.t 26) (.t 25), none, 0⟩] false []) (.seq (.region 0 [⟨some 27, .load 17 true (.t 2), none, 0⟩, ⟨some 28, .mv (.t 1), none, 0⟩, ⟨some 29, .build [.int .i64 0, .int .u8 0, .int .u8 0, .int .u8 0, .int .u8 0, .int .u8 0, .int .u8 0, .int .u8 0, .int .u8 0, .int .u8 0, .int .u8 0, .int .u8 0, .int .u8 0, .int .u8 0, .int .u8 0, .int .u8 0, .int .u8 0, .int .i64 0] [(0, 17, .t 27), (17, 1, .t 28)] [], none, 0⟩, ⟨none, .store 18 (.t 4) (.t 29), none, 0⟩, ⟨some 5, .mv (.c (.int .i64 0)), none, 0⟩] false []) .ret)))), false⟩
theorem c21 : cFunc Tryd.prog G f21 Tryd.f21 = some f21 := by kernel_rfl
/-- junctionbox/junctionboxlaw24.set -/
def f22 : AFunc :=
⟨2, [.t 4], (.seq (.region 1 [⟨some 4, .newl 37 18, none, 0⟩] false []) (.seq (.region 2 [⟨some 5, .buildSl 37 18 [.int .i64 0, .int .u8 0, .int .u8 0, .int .u8 0, .int .u8 0, .int .u8 0, .int .u8 0, .int .u8 0, .int .u8 0, .int .u8 0, .int .u8 0, .int .u8 0, .int .u8 0, .int .u8 0, .int .u8 0, .int .u8 0, .int .u8 0, .int .i64 0] 0 [] false, none, 0⟩, ⟨some 6, .mv (.t 0), none, 0⟩, ⟨some 7, .mv (.t 0), none, 0⟩, ⟨some 8, .len (.t 7), none, 0⟩, ⟨some 9, .min (.t 8) [.c (.int .i64 12)], none, 0⟩, ⟨some 10, .slice 18 (.t 6) none (some (.t 9)) none, none, 0⟩, ⟨some 11, .append 37 18 32 (.t 5) (.t 10), none, 1⟩, ⟨some 0, .mv (.t 11), none, 0⟩] false []) (.seq (.seq (.region 0 [⟨some 12, .mv (.t 1), none, 0⟩, ⟨some 13, .mv (.t 12), none, 0⟩, ⟨some 14, .mv (.t 0), some (13, true), 0⟩, ⟨some 15, .callV 12 [.t 14] 0, some (13, true), 0⟩, ⟨some 16, .pick (.t 13) (.t 15) (.c (.bool false)), none, 0⟩] false []) (.cond (.t 16) (.seq (.region 1 [⟨some 17, .mv (.t 0), none, 0⟩, ⟨some 18, .callV 14 [.c (.int .i64 0), .t 17, .c (.clip [])] 1, none, 0⟩, ⟨some 4, .mv (.t 18), none, 0⟩] false []) .ret) .skip)) (.seq (.region 0 [⟨some 19, .mv (.t 0), none, 0⟩, ⟨some 4, .mv (.t 19), none, 0⟩] false []) .ret)))), true⟩
theorem c22 : cFunc Tryd.prog G f22 Tryd.f22 = some f22 := by kernel_rfl
/-- junctionbox/cover.Union -/
def f23 : AFunc :=
⟨2, [.t 4, .t 5], (.seq (.region 3 [⟨some 2, .box 24 1 (.t 0) [], none, 0⟩, ⟨some 3, .box 24 1 (.t 1) [], none, 1⟩, ⟨some 4, .newl 37 18, none, 2⟩, ⟨some 5, .mv (.c (.int .i64 0)), none, 0⟩] false []) (.seq (.region 0 [⟨some 6, .load 1 false (.t 2), none, 0⟩, ⟨some 7, .load 1 false (.t 3), none, 0⟩, ⟨some 8, .clo 42 [.t 2, .t 3], none, 0⟩, ⟨some 9, .callR (.c (.clo 41 [])) [.t 6, .t 7, .t 8] 1, none, 0⟩, ⟨some 10, .extr (.t 9) 0, none, 0⟩, ⟨some 11, .extr (.t 9) 1, none, 0⟩, ⟨some 4, .mv (.t 10), none, 0⟩, ⟨some 5, .mv (.t 11), none, 0⟩] false []) .ret)), true⟩
theorem c23 : cFunc Tryd.prog G f23 Tryd.f23 = some f23 := by kernel_rfl
/-- junctionbox/cover.Meet -/
def f24 : AFunc :=
⟨2, [.t 4, .t 5], (.seq (.region 3 [⟨some 2, .box 24 1 (.t 0) [], none, 0⟩, ⟨some 3, .box 24 1 (.t 1) [], none, 1⟩, ⟨some 4, .newl 37 18, none, 2⟩, ⟨some 5, .mv (.c (.int .i64 0)), none, 0⟩] false []) (.seq (.region 0 [⟨some 6, .load 1 false (.t 2), none, 0⟩, ⟨some 7, .load 1 false (.t 3), none, 0⟩, ⟨some 8, .clo 44 [.t 2, .t 3], none, 0⟩, ⟨some 9, .callR (.c (.clo 41 [])) [.t 6, .t 7, .t 8] 1, none, 0⟩, ⟨some 10, .extr (.t 9) 0, none, 0⟩, ⟨some 11, .extr (.t 9) 1, none, 0⟩, ⟨some 4, .mv (.t 10), none, 0⟩, ⟨some 5, .mv (.t 11), none, 0⟩] false []) .ret)), true⟩
theorem c24 : cFunc Tryd.prog G f24 Tryd.f24 = some f24 := by kernel_rfl
/-- junctionbox/cover.Minus -/
def f25 : AFunc :=
⟨2, [.t 4, .t 5], (.seq (.region 3 [⟨some 2, .box 24 1 (.t 0) [], none, 0⟩, ⟨some 3, .box 24 1 (.t 1) [], none, 1⟩, ⟨some 4, .newl 37 18, none, 2⟩, ⟨some 5, .mv (.c (.int .i64 0)), none, 0⟩] false []) (.seq (.region 0 [⟨some 6, .load 1 false (.t 2), none, 0⟩, ⟨some 7, .load 1 false (.t 3), none, 0⟩, ⟨some 8, .clo 46 [.t 2, .t 3], none, 0⟩, ⟨some 9, .callR (.c (.clo 41 [])) [.t 6, .t 7, .t 8] 1, none, 0⟩, ⟨some 10, .extr (.t 9) 0, none, 0⟩, ⟨some 11, .extr (.t 9) 1, none, 0⟩, ⟨some 4, .mv (.t 10), none, 0⟩, ⟨some 5, .mv (.t 11), none, 0⟩] false []) .ret)), true⟩
theorem c25 : cFunc Tryd.prog G f25 Tryd.f25 = some f25 := by kernel_rfl
/-- junctionbox/junctionboxlaw24.comes -/
def f26 : AFunc :=
⟨5, [.t 10], (.seq (.region 0 [⟨some 10, .mv (.c (.bool false)), none, 0⟩] false []) (.seq (.seq (.region 0 [⟨some 12, .mv (.t 3), none, 0⟩, ⟨some 13, .callV 15 [.t 12] 0, none, 0⟩, ⟨some 14, .not (.t 13), none, 0⟩, ⟨some 15, .mv (.t 14), none, 0⟩, ⟨some 16, .mv (.t 4), some (15, false), 0⟩, ⟨some 17, .callV 15 [.t 16] 0, some (15, false), 0⟩, ⟨some 18, .not (.t 17), some (15, false), 0⟩, ⟨some 19, .pick (.t 15) (.c (.bool true)) (.t 18), none, 0⟩] false []) (.cond (.t 19) (.seq (.region 0 [⟨some 20, .mv (.t 1), none, 0⟩, ⟨some 21, .bin .eql (.t 20) (.c (.int .i64 340)), none, 0⟩, ⟨some 22, .mv (.t 21), none, 0⟩, ⟨some 23, .mv (.t 0), some (22, true), 0⟩, ⟨some 24, .len (.t 23), some (22, true), 0⟩, ⟨some 25, .bin .eql (.t 24) (.c (.int .i64 0)), some (22, true), 0⟩, ⟨some 26, .pick (.t 22) (.t 25) (.c (.bool false)), none, 0⟩, ⟨some 10, .mv (.t 26), none, 0⟩] false []) .ret) .skip)) (.seq (.region 1 [⟨some 27, .mv (.t 2), none, 0⟩, ⟨some 28, .mv (.t 3), none, 0⟩, ⟨some 29, .mv (.t 4), none, 0⟩, ⟨some 30, .callV 14 [.t 27, .t 28, .t 29] 1, none, 0⟩, ⟨some 11, .mv (.t 30), none, 0⟩] false []) (.seq (.seq (.region 0 [⟨some 31, .mv (.t 11), none, 0⟩, ⟨some 32, .len (.t 31), none, 0⟩, ⟨some 33, .bin .gtr (.t 32) (.c (.int .i64 300)), none, 0⟩] false []) (.cond (.t 33) (.seq (.region 0 [⟨some 34, .mv (.t 1), none, 0⟩, ⟨some 35, .bin .eql (.t 34) (.c (.int .i64 6)), none, 0⟩, ⟨some 36, .mv (.t 35), none, 0⟩, ⟨some 37, .mv (.t 0), some (36, true), 0⟩, ⟨some 38, .len (.t 37), some (36, true), 0⟩, ⟨some 39, .bin .eql (.t 38) (.c (.int .i64 0)), some (36, true), 0⟩, ⟨some 40, .pick (.t 36) (.t 39) (.c (.bool false)), none, 0⟩, ⟨some 10, .mv (.t 40), none, 0⟩] false []) .ret) .skip)) (.seq (.region 0 [⟨some 41, .mv (.t 1), none, 0⟩, ⟨some 42, .bin .eql (.t 41) (.c (.int .i64 0)), none, 0⟩, ⟨some 43, .mv (.t 42), none, 0⟩, ⟨some 44, .mv (.t 0), some (43, true), 0⟩, ⟨some 45, .mv (.t 11), some (43, true), 0⟩, ⟨some 46, .callV 13 [.t 44, .t 45] 0, some (43, true), 0⟩, ⟨some 47, .pick (.t 43) (.t 46) (.c (.bool false)), none, 0⟩, ⟨some 10, .mv (.t 47), none, 0⟩] false []) .ret))))), false⟩
theorem c26 : cFunc Tryd.prog G f26 Tryd.f26 = some f26 := by kernel_rfl
/-- junctionbox/junctionboxlaw24.probes -/
def f27 : AFunc :=
⟨2, [.t 4], (.seq (.region 1 [⟨some 4, .newl 35 17, none, 0⟩] false []) (.seq (.region 1 [⟨some 5, .newl 35 17, none, 0⟩] false []) (.seq (.seq (.region 0 [⟨some 13, .mv (.t 1), none, 0⟩, ⟨some 14, .len (.t 13), none, 0⟩, ⟨some 15, .mv (.c (.int .i64 0)), none, 0⟩] false []) (.block 0 (.loop [0, 5, 13, 14, 15] (.seq (.region 0 [⟨some 16, .bin .lss (.t 15) (.t 14), none, 0⟩] false []) (.seq (.cond (.t 16) .skip (.exit 0)) (.seq (.block 1 (.seq (.region 0 [⟨some 17, .iaddr 1 none (.t 13) (.t 15), none, 0⟩, ⟨some 18, .load 1 false (.t 17), none, 0⟩, ⟨some 7, .mv (.t 18), none, 0⟩] false []) (.seq (.region 0 [⟨some 19, .mv (.t 7), none, 0⟩, ⟨some 20, .len (.t 19), none, 0⟩, ⟨some 21, .mv (.c (.int .i64 0)), none, 0⟩] false []) (.block 2 (.loop [0, 5, 13, 14, 15, 19, 20, 21] (.seq (.region 0 [⟨some 22, .bin .lss (.t 21) (.t 20), none, 0⟩] false []) (.seq (.cond (.t 22) .skip (.exit 2)) (.seq (.block 3 (.seq (.region 1 [⟨some 23, .mv (.t 21), none, 0⟩, ⟨some 24, .iaddr 18 none (.t 19) (.t 21), none, 0⟩, ⟨some 25, .load 18 true (.t 24), none, 0⟩, ⟨some 9, .alloc 37 [.int .i64 0, .int .u8 0, .int .u8 0, .int .u8 0, .int .u8 0, .int .u8 0, .int .u8 0, .int .u8 0, .int .u8 0, .int .u8 0, .int .u8 0, .int .u8 0, .int .u8 0, .int .u8 0, .int .u8 0, .int .u8 0, .int .u8 0, .int .i64 0] [], none, 0⟩, ⟨some 8, .mv (.t 23), none, 0⟩, ⟨none, .store 18 (.t 9) (.t 25), none, 0⟩] false []) (.seq (.seq (.region 0 [⟨some 26, .mv (.t 8), none, 0⟩, ⟨some 27, .bin .eql (.t 26) (.c (.int .i64 12)), none, 0⟩] false []) (.cond (.t 27) (.exit 2) .skip)) (.seq (.region 0 [⟨some 28, .mv (.t 0), none, 0⟩, ⟨some 29, .len (.t 28), none, 0⟩, ⟨some 30, .mv (.c (.int .i64 0)), none, 0⟩] false []) (.block 4 (.loop [0, 5, 9, 13, 14, 15, 19, 20, 21, 28, 29, 30] (.seq (.region 0 [⟨some 31, .bin .lss (.t 30) (.t 29), none, 0⟩] false []) (.seq (.cond (.t 31) .skip (.exit 4)) (.seq (.block 5 (.seq (.region 0 [⟨some 32, .mv (.t 30), none, 0⟩, ⟨some 33, .iaddr 1 none (.t 28) (.t 30), none, 0⟩, ⟨some 34, .load 1 false (.t 33), none, 0⟩, ⟨some 10, .mv (.t 32), none, 0⟩, ⟨some 11, .mv (.t 34), none, 0⟩] false []) (.seq (.seq (.region 0 [⟨some 35, .mv (.t 10), none, 0⟩, ⟨some 36, .bin .eql (.t 35) (.c (.int .i64 4)), none, 0⟩] false []) (.cond (.t 36) (.exit 4) .skip)) (.seq (.region 1 [⟨some 37, .load 18 true (.t 9), none, 0⟩, ⟨some 38, .mv (.t 11), none, 0⟩, ⟨some 39, .callV 49 [.t 37, .t 38] 0, none, 0⟩, ⟨some 12, .alloc 35 [.int .i64 0, .int .u8 0, .int .u8 0, .int .u8 0, .int .u8 0, .int .u8 0, .int .u8 0, .int .u8 0, .int .u8 0, .int .u8 0, .int .u8 0, .int .u8 0, .int .u8 0, .int .u8 0, .int .u8 0, .int .u8 0, .int .u8 0] [], none, 0⟩, ⟨none, .store 17 (.t 12) (.t 39), none, 0⟩] false []) (.seq (.region 2 [⟨some 40, .mv (.t 5), none, 0⟩, ⟨some 41, .load 17 true (.t 12), none, 0⟩, ⟨some 42, .buildSl 35 17 [.int .i64 0, .int .u8 0, .int .u8 0, .int .u8 0, .int .u8 0, .int .u8 0, .int .u8 0, .int .u8 0, .int .u8 0, .int .u8 0, .int .u8 0, .int .u8 0, .int .u8 0, .int .u8 0, .int .u8 0, .int .u8 0, .int .u8 0] 1 [(0, .t 41)] false, none, 0⟩, ⟨some 43, .append 35 17 24 (.t 40) (.t 42), none, 1⟩, ⟨some 5, .mv (.t 43), none, 0⟩] false []) (.seq (.region 0 [⟨some 44, .faddr 17 (.t 9), none, 0⟩, ⟨some 45, .load 1 false (.t 44), none, 0⟩, ⟨some 46, .bin .gtr (.t 45) (.c (.int .i64 0)), none, 0⟩] false []) (.cond (.t 46) (.seq (.region 0 [⟨some 47, .faddr 17 (.t 9), none, 0⟩, ⟨some 48, .load 1 false (.t 47), none, 0⟩, ⟨some 49, .bin .sub (.t 48) (.c (.int .i64 1)), none, 0⟩, ⟨some 50, .bin .quo (.t 49) (.c (.int .i64 8)), none, 0⟩, ⟨some 51, .faddr 1 (.t 12), none, 0⟩, ⟨some 52, .iaddr 1 (some 16) (.t 51) (.t 50), none, 0⟩, ⟨some 53, .load 1 false (.t 52), none, 0⟩, ⟨some 54, .faddr 17 (.t 9), none, 0⟩, ⟨some 55, .load 1 false (.t 54), none, 0⟩, ⟨some 56, .bin .sub (.t 55) (.c (.int .i64 1)), none, 0⟩, ⟨some 57, .bin .rem (.t 56) (.c (.int .i64 8)), none, 0⟩, ⟨some 58, .bin .shr (.c (.int .u8 128)) (.t 57), none, 0⟩, ⟨some 59, .bin .xor (.t 53) (.t 58), none, 0⟩, ⟨some 60, .faddr 1 (.t 12), none, 0⟩, ⟨some 61, .iaddr 1 (some 16) (.t 60) (.t 50), none, 0⟩, ⟨none, .store 1 (.t 61) (.t 59), none, 0⟩] true []) (.region 2 [⟨some 62, .mv (.t 5), none, 0⟩, ⟨some 63, .load 17 true (.t 12), none, 0⟩, ⟨some 64, .buildSl 35 17 [.int .i64 0, .int .u8 0, .int .u8 0, .int .u8 0, .int .u8 0, .int .u8 0, .int .u8 0, .int .u8 0, .int .u8 0, .int .u8 0, .int .u8 0, .int .u8 0, .int .u8 0, .int .u8 0, .int .u8 0, .int .u8 0, .int .u8 0] 1 [(0, .t 63)] false, none, 0⟩, ⟨some 65, .append 35 17 24 (.t 62) (.t 64), none, 1⟩, ⟨some 5, .mv (.t 65), none, 0⟩] false [])) .skip))))))) (.region 0 [⟨some 66, .bin .add (.t 30) (.c (.int .i64 1)), none, 0⟩, ⟨some 30, .mv (.t 66), none, 0⟩] false [])))))))))) (.region 0 [⟨some 67, .bin .add (.t 21) (.c (.int .i64 1)), none, 0⟩, ⟨some 21, .mv (.t 67), none, 0⟩] false []))))))))) (.region 0 [⟨some 68, .bin .add (.t 15) (.c (.int .i64 1)), none, 0⟩, ⟨some 15, .mv (.t 68), none, 0⟩] false []))))))) (.seq (.region 0 [⟨some 69, .mv (.t 5), none, 0⟩, ⟨some 4, .mv (.t 69), none, 0⟩] false []) .ret)))), true⟩
theorem c27 : cFunc Tryd.prog G f27 Tryd.f27 = some f27 := by kernel_rfl
end Go.Proofs.YtnpdaegfmfkghaaDoor.F
