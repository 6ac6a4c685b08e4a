/- Part B7 of the proofs of these statements. No condition. -/
import Derived.Test.YtabadcnpmfafnaaB6
import Derived.Test.YtabadcnpmfafnaaSl2
import Derived.Deep.RegionHeld3
set_option linter.unusedVariables false
set_option linter.unusedSimpArgs false
namespace Go.Proofs.Ytabadcnpmfafnaa
open Go Go.RowKit J

def spanI (now h : Int) : Int := if now - h ≤ 4 then 0 else if now - h ≤ 9 then 1 else 2
theorem span_v (now a b c d : Int) (v : Int) (w : World) (hn0 : 0 ≤ now) (hn : now ≤ 1099511627776) (hb : I64 b) (hb0 : 0 ≤ b) (hv : spanI now b = v) :
    Calls Try.prog 34 #[.int .i64 now, .agg #[.int .i64 a, .int .i64 b, .int .i64 c, .int .i64 d]] w fun e w' => e = .returned (.int .i64 v) ∧ Ext w w' := by
  subst hv
  unfold I64 at hb
  unfold spanI
  by_cases h1 : now - b ≤ 4
  · rw [if_pos h1]
    go_enter Try.func34, Try.ntmps34
    go_wp2
    go_ret
    exact ⟨rfl, by repeat (first | exact Ext.refl _ | assumption | apply Ext.alloc | apply Ext.drewN | apply Ext.drew)⟩
  · rw [if_neg h1]
    by_cases h2 : now - b ≤ 9
    · rw [if_pos h2]
      go_enter Try.func34, Try.ntmps34
      go_wp2
      go_ret
      exact ⟨rfl, by repeat (first | exact Ext.refl _ | assumption | apply Ext.alloc | apply Ext.drewN | apply Ext.drew)⟩
    · rw [if_neg h2]
      go_enter Try.func34, Try.ntmps34
      go_wp2
      go_ret
      exact ⟨rfl, by repeat (first | exact Ext.refl _ | assumption | apply Ext.alloc | apply Ext.drewN | apply Ext.drew)⟩

/-- A peer at a tick. -/
def later (now : Int) (p : Pu) : Pu :=
  if 9 < now - p.h then { p with s := 3, g := 0 } else if 4 < now - p.h then { p with s := if p.s = 1 then 2 else p.s, g := 0 } else p
def goesDown (now : Int) (p : Pu) : Bool := decide (9 < now - p.h) && decide (p.s ≠ 3)
def downOf (now : Int) (l : List Pu) : List Int := (l.filter (goesDown now)).map (·.n)
def encI (l : List Int) : List (List Value) := l.map fun x => [.int .i64 x]

theorem elemT_27 : ElemT Try.prog 27 3 1 (.int .i64 0) 8 := ⟨Try.underlying27, by kernel_rfl, rfl, by decide⟩

/-- What Pass's closure does. -/
def passS (B7 : Nat) (base : Nat) (now ticks : Int) (l : List Pu) (code now' : Int) (l' : List Pu) (W : World) : Prop :=
  ∃ v, Blk W B7 27 #[v] ∧
    ((code = 2 ∧ (ticks < 0 ∨ 1099511627776 - now < ticks) ∧ v = .slice none 0 0) ∨
     (code = 0 ∧ 0 ≤ ticks ∧ ticks ≤ 1099511627776 - now ∧ now' = now + ticks ∧ l' = l.map (later (now + ticks)) ∧ OwnL W base 3 1 v (encI (downOf (now + ticks) l))))

/-- What stands in the loop. -/
structure P0 (W : World) (bw B7 sz base : Nat) (now : Int) (L : List Pu) (g n c : Nat) (vd : Value) (w : World) : Prop where
  d : Blk w B7 27 #[vd]
  b : Blk w bw 24 #[.int .i64 now, .slice (some ⟨g, 0, none⟩) n c]
  o : OwnL w base 40 4 (.slice (some ⟨g, 0, none⟩) n c) (L.map Pu.enc)
  bel : Below B7 W w
  z : sz ≤ w.heap.size
  k : ∀ j, bw < j → j < base → w.heap[j]? = W.heap[j]?
theorem putP {w : World} {base : Nat} {e : TypeId} {n c g o k : Nat} {L : List Pu} {p : Pu} (h : OwnL w base e 4 (.slice (some ⟨g, o, none⟩) n c) (L.map Pu.enc)) (hp : L[k]? = some p) {j : Nat} (hj : j < 4) {u : Value} {q : Pu} (hq : p.enc.set j u = q.enc) {x : Nat} (hx : x = o + k * 4 + j) :
    OwnL (w.setCell ⟨g, x, none⟩ u) base e 4 (.slice (some ⟨g, o, none⟩) n c) ((L.set k q).map Pu.enc) := by
  have := h.put (i := k) (cs := p.enc) (by rw [List.getElem?_map, hp]; rfl) hj u hx
  rw [hq] at this
  rwa [List.map_set]
theorem mix_at {f : Pu → Pu} {l : List Pu} {k : Nat} {p : Pu} (hp : l[k]? = some p) : ((l.take k).map f ++ l.drop k)[k]? = some p := by
  have hk := (List.getElem?_eq_some_iff.1 hp).1
  rw [List.getElem?_append_right (by simp; omega)]; simp [hp, Nat.min_eq_left (Nat.le_of_lt hk)]
theorem mix_set {f : Pu → Pu} {l : List Pu} {k : Nat} {p : Pu} (hp : l[k]? = some p) : ((l.take k).map f ++ l.drop k).set k (f p) = (l.take (k + 1)).map f ++ l.drop (k + 1) := by
  have hk := (List.getElem?_eq_some_iff.1 hp).1
  have hpe := (List.getElem?_eq_some_iff.1 hp).2
  rw [List.set_append_right _ _ (by simp; omega), List.take_add_one, hp]
  simp only [List.length_map, List.length_take, Nat.min_eq_left (Nat.le_of_lt hk), Nat.sub_self, Option.toList_some, List.map_append, List.map_cons, List.map_nil, List.append_assoc]
  rw [List.drop_eq_getElem_cons hk, hpe]
  simp
theorem set_self {L : List Pu} {k : Nat} {p : Pu} (hp : L[k]? = some p) : L.set k p = L := by
  apply List.ext_getElem?
  intro i
  rw [List.getElem?_set]
  split
  · subst i; split
    · exact hp.symm
    · rename_i h; rw [List.getElem?_eq_none (by omega)] at hp; cases hp
  · rfl
theorem downOf_next {now : Int} {l : List Pu} {k : Nat} {p : Pu} (hp : l[k]? = some p) : downOf now (l.take (k + 1)) = downOf now (l.take k) ++ if goesDown now p = true then [p.n] else [] := by
  unfold downOf
  rw [List.take_add_one, hp, List.filter_append, List.map_append]
  congr 1
  simp only [Option.toList_some, List.filter_cons]
  split <;> simp
theorem one_ints (xs : List Int) : ∀ cs ∈ encI xs, ∀ u ∈ cs, u.oneCell' = true := by
  intro cs hcs u hu
  obtain ⟨x, _, rfl⟩ := List.mem_map.1 hcs
  simp at hu; subst hu; rfl
section
variable {W w w' : World} {bw B7 sz base : Nat} {now : Int} {L : List Pu} {g n c : Nat} {vd : Value}
theorem P0.ext (h : P0 W bw B7 sz base now L g n c vd w) (he : Ext w w') (h1 : B7 < bw) (h2 : bw < base) (h3 : base ≤ sz) : P0 W bw B7 sz base now L g n c vd w' :=
  ⟨he.blk h.d, he.blk h.b, h.o.ext he, h.bel.trans (he.below.mono (by have := h.z; omega)), Nat.le_trans h.z he.size, fun j a b => (he.block j (by have := h.z; omega)).trans (h.k j a b)⟩
theorem P0.grown {xs : List (List Value)} (h : P0 W bw B7 sz base now L g n c vd w) (hd : OwnL w sz 3 1 vd xs) (hg : w.grownBy w' vd.ownBlock) (h1 : B7 < bw) (h2 : bw < base) (h3 : base ≤ sz) (h4 : g < sz) : P0 W bw B7 sz base now L g n c vd w' := by
  have hne : ∀ j, j < sz → vd.ownBlock ≠ some j := fun j hj e => by have := (hd.base_le _ e).1; omega
  have hz := h.z
  exact ⟨h.d.grown hg (hne _ (by omega)), h.b.grown hg (hne _ (by omega)), h.o.grown hg (.inr (fun e => hne g h4 e.symm)), h.bel.grown hg (by omega) (fun j hj => by have := (hd.base_le _ hj).1; omega), Nat.le_trans hz hg.size,
    fun j a b => (hg.block j (by omega) (fun e => hne j (by omega) e.symm)).trans (h.k j a b)⟩
theorem P0.put (h : P0 W bw B7 sz base now L g n c vd w) {k : Nat} {p : Pu} (hp : L[k]? = some p) {j : Nat} (hj : j < 4) {u : Value} (q : Pu) (hq : p.enc.set j u = q.enc) {x : Nat} (hx : x = k * 4 + j) (h1 : B7 < bw) (h2 : bw < base) (h4 : base ≤ g) :
    P0 W bw B7 sz base now (L.set k q) g n c vd (w.setCell ⟨g, x, none⟩ u) :=
  ⟨h.d.other (by dsimp only; omega) _, h.b.other (by dsimp only; omega) _, putP h.o hp hj hq (by omega), h.bel.setCell (by dsimp only; omega) _, by simpa using h.z, fun j a b => (Below.heap_setCell _ _ _ _ (by dsimp only; omega)).trans (h.k j a b)⟩
theorem P0.put2 (h : P0 W bw B7 sz base now L g n c vd w) {k : Nat} {p : Pu} (hp : L[k]? = some p) (s' g' : Int) {x y : Nat} (hx : x = k * 4 + 3) (hy : y = k * 4 + 2) (h1 : B7 < bw) (h2 : bw < base) (h4 : base ≤ g) :
    P0 W bw B7 sz base now (L.set k ⟨p.n, p.h, g', s'⟩) g n c vd ((w.setCell ⟨g, x, none⟩ (.int .i64 s')).setCell ⟨g, y, none⟩ (.int .i64 g')) := by
  have hk := (List.getElem?_eq_some_iff.1 hp).1
  have := (h.put hp (j := 3) (by omega) ⟨p.n, p.h, p.g, s'⟩ rfl hx h1 h2 h4).put (k := k) (p := ⟨p.n, p.h, p.g, s'⟩) (by rw [List.getElem?_set]; simp [hk]) (j := 2) (by omega) ⟨p.n, p.h, g', s'⟩ rfl hy h1 h2 h4
  rwa [List.set_set] at this
theorem own_far {w : World} {sz : Nat} {e : TypeId} {v : Value} {xs : List (List Value)} (h : OwnL w sz e 1 v xs) {b : Nat} (hb : b < sz) (o : Nat) (u : Value) : OwnL (w.setCell ⟨b, o, none⟩ u) sz e 1 v xs :=
  h.other (fun h' => by have := (h.base_le _ h').1; dsimp only at this; omega) u
theorem P0.down (h : P0 W bw B7 sz base now L g n c vd w) (vd' : Value) (h1 : B7 < bw) (h2 : bw < base) (h4 : base ≤ g) : P0 W bw B7 sz base now L g n c vd' (w.setCell ⟨B7, 0, none⟩ vd') :=
  ⟨h.d.set 0 vd', h.b.other (by dsimp only; omega) _, h.o.other (by simp [Value.ownBlock]; omega) _, h.bel.setCell (by dsimp only; omega) _, by simpa using h.z, fun j a b => (Below.heap_setCell _ _ _ _ (by dsimp only; omega)).trans (h.k j a b)⟩
theorem P0.reads (h : P0 W bw B7 sz base now L g n c vd w) {k : Nat} {p : Pu} (hp : L[k]? = some p) : w.cell? ⟨g, k * 4, none⟩ = some (.int .i64 p.n) ∧ w.cell? ⟨g, k * 4 + 1, none⟩ = some (.int .i64 p.h) ∧ w.cell? ⟨g, k * 4 + 2, none⟩ = some (.int .i64 p.g) ∧ w.cell? ⟨g, k * 4 + 3, none⟩ = some (.int .i64 p.s) ∧
    w.cell? ⟨bw, 0, none⟩ = some (.int .i64 now) ∧ w.cell? ⟨bw, 1, none⟩ = some (.slice (some ⟨g, 0, none⟩) n c) ∧ w.cell? ⟨B7, 0, none⟩ = some vd ∧ w.frozen? ⟨B7, 0, none⟩ = false ∧ ∀ o, w.frozen? ⟨g, o, none⟩ = false := by
  obtain ⟨b, o, he, q0, q1, q2, q3⟩ := slc_pu h.o.slc hp
  cases he
  obtain ⟨g', he, -, -, -, hf⟩ := h.o.spot (i := k) (cs := p.enc) (by rw [List.getElem?_map, hp]; rfl)
  cases he
  simp only [Nat.zero_add] at q0 q1 q2 q3
  exact ⟨q0, q1, q2, q3, h.b.cell (i := 0) rfl, h.b.cell (i := 1) rfl, h.d.cell (i := 0) rfl, h.d.free 0, hf⟩
end
/-- The loop's relation. -/
def PassR (W : World) (bw B7 sz base : Nat) (now : Int) (l : List Pu) (g n c : Nat) (k : Nat) (w : World) : Prop :=
  ∃ vd, P0 W bw B7 sz base now ((l.take k).map (later now) ++ l.drop k) g n c vd w ∧ OwnL w sz 3 1 vd (encI (downOf now (l.take k)))
/-- A round. -/
theorem PassR.next {W : World} {bw B7 sz base : Nat} {now : Int} {l : List Pu} {g n c k : Nat} {w : World} {p : Pu} {vd : Value} (hp : l[k]? = some p) {q : Pu} (hq : later now p = q) {ds : List Int} (hd : (if goesDown now p = true then [p.n] else []) = ds)
    (h : P0 W bw B7 sz base now (((l.take k).map (later now) ++ l.drop k).set k q) g n c vd w) (qd : OwnL w sz 3 1 vd (encI (downOf now (l.take k) ++ ds))) : PassR W bw B7 sz base now l g n c (k + 1) w := by
  subst hq hd
  exact ⟨vd, by rw [← mix_set hp]; exact h, by rw [downOf_next hp]; exact qd⟩
theorem downOf_len (now : Int) (l : List Pu) (k : Nat) : (encI (downOf now (l.take k))).length ≤ l.length := by
  unfold encI downOf
  rw [List.length_map, List.length_map]
  exact Nat.le_trans (List.length_filter_le _ _) (by rw [List.length_take]; omega)

set_option maxRecDepth 20000 in
set_option maxHeartbeats 4000000 in
theorem pass1_any (now ticks : Int) (l : List Pu) (bw base b2 B3 B7 : Nat) (v : Value) (W : World) (hn : CheckP now l) (ht : I64 ticks) (hl : ∀ p ∈ l, p.ok) (hlen : l.length ≤ 100) 
    (hB : Blk W bw 24 #[.int .i64 now, v]) (hO : OwnL W base 40 4 v (l.map Pu.enc)) (hb : bw < base) (hbs : base ≤ W.heap.size) (hb2 : b2 ≤ W.heap.size) (h3 : B3 < bw) (h7 : B7 < bw) (h37 : B3 < B7)
    (c3 : Blk W B3 2 #[.int .i64 ticks]) (c7 : Blk W B7 27 #[.slice none 0 0]) :
    Calls Try.prog 33 #[.pointer (some ⟨bw, 0, none⟩), .pointer (some ⟨B3, 0, none⟩), .pointer (some ⟨B7, 0, none⟩)] W (DoesPost B7 bw base (passS B7 b2 now ticks l) W) := by
  unfold I64 at ht
  have w0 := hB.cell (i := 0) rfl
  have w1 := hB.cell (i := 1) rfl
  have fw0 := hB.free 0
  have t0 := c3.cell (i := 0) rfl
  have hnow := hn.1
  have hnow2 := hn.2.1
  by_cases h0 : ticks < 0
  · go_enter Try.func33, Try.ntmps33
    go_wp2
    go_quiet (fail)
    go_wp2
    go_ret
    exact ⟨2, now, v, l, rfl, hB, hO, (Ext.refl _).drewN _ |>.below.mono (by omega), fun k _ _ => rfl, _, c7, .inl ⟨rfl, .inl h0, rfl⟩⟩
  have h0' : 0 ≤ ticks := by omega
  have hd0 : decide (ticks < 0) = false := by simpa using h0'
  by_cases h1 : 1099511627776 - now < ticks
  · have hd1 : decide (1099511627776 - now < ticks) = true := by simpa using h1
    go_enter Try.func33, Try.ntmps33
    go_wp2
    go_quiet (fail)
    go_wp2
    go_ret
    exact ⟨2, now, v, l, rfl, hB, hO, (Ext.refl _).drewN _ |>.below.mono (by omega), fun k _ _ => rfl, _, c7, .inl ⟨rfl, .inr h1, rfl⟩⟩
  have h1' : ticks ≤ 1099511627776 - now := by omega
  have hd1 : decide (1099511627776 - now < ticks) = false := by simpa using h1'
  by_cases hnil : l = []
  · subst hnil
    obtain ⟨a, c, rfl, hc1, hc2⟩ := hO.form
    rw [List.length_map] at *
    have E0 : ∀ n, DoesPost B7 bw base (passS B7 b2 now ticks []) W (.returned (.int .i64 0)) ((W.drewN n).setCell ⟨bw, 0, none⟩ (.int .i64 (now + ticks))) := fun n =>
      have e := (Ext.refl W).drewN n
      ⟨0, now + ticks, .slice a 0 c, [], rfl, (e.blk hB).set 0 _, by simpa using (hO.ext e).other (a := ⟨bw, 0, none⟩) (fun h => by have := (hO.base_le _ h).1; dsimp only at this; omega) _, (e.below.mono (by omega)).setCell (by dsimp only; omega) _, fun j a b => (Below.heap_setCell _ _ _ _ (by dsimp only; omega)).trans (e.block j (by omega)),
        _, (e.blk c7).other (by dsimp only; omega) _, .inr ⟨rfl, h0', h1', rfl, rfl, OwnL.nil _ _ _ _⟩⟩
    have E0' := Lib.hid E0
    clear E0
    go_enter Try.func33, Try.ntmps33
    go_wp2
    go_quiet (fail)
    go_wp2
    go_region
    go_wp2
    go_loopw [5, 6, 7, 32, 33] (fun _ _ _ u _ wr => u = .int .i64 0 ∧ DoesPost B7 bw base (passS B7 b2 now ticks []) W (.returned (.int .i64 0)) wr) (fun _ _ _ u _ _ => 0)
    case atStart => exact ⟨rfl, E0'.out _⟩
    case round =>
      clear E0'
      obtain ⟨rfl, hP⟩ := hrel
      go_wp2
      go_ret
      exact hP
  obtain ⟨p0, hp0⟩ : ∃ p0, l[0]? = some p0 := by cases l with | nil => exact absurd rfl hnil | cons p l => exact ⟨p, rfl⟩
  obtain ⟨a, c, rfl, hc1, hc2⟩ := hO.form
  rw [List.length_map] at *
  obtain ⟨g, rfl, hg1, hg2, -, -⟩ := hO.spot (i := 0) (cs := p0.enc) (by rw [List.getElem?_map, hp0]; rfl)
  have E0 : ∀ n, PassR W bw B7 W.heap.size base (now + ticks) l g l.length c 0 ((W.drewN n).setCell ⟨bw, 0, none⟩ (.int .i64 (now + ticks))) := fun n =>
    have e := (Ext.refl W).drewN n
    ⟨.slice none 0 0, ⟨(e.blk c7).other (by dsimp only; omega) _, (e.blk hB).set 0 _, by simpa using (hO.ext e).other (a := ⟨bw, 0, none⟩) (by simp [Value.ownBlock]; omega) _, (e.below.mono (by omega)).setCell (by dsimp only; omega) _, by simp, fun j a b => (Below.heap_setCell _ _ _ _ (by dsimp only; omega)).trans (e.block j (by omega))⟩, OwnL.nil _ _ _ _⟩
  have E0' := Lib.hid E0
  clear E0 hp0 hnil
  go_enter Try.func33, Try.ntmps33
  go_wp2
  go_quiet (fail)
  go_wp2
  go_region
  go_wp2
  go_loopw [5, 6, 7, 32, 33] (fun _ _ _ u _ wr => ∃ k : Nat, k ≤ l.length ∧ u = .int .i64 k ∧ PassR W bw B7 W.heap.size base (now + ticks) l g l.length c k wr) (fun _ _ _ u _ _ => l.length - (intOf u).toNat)
  case atStart =>
    exact ⟨0, by omega, rfl, E0'.out _⟩
  case round =>
    clear E0'
    obtain ⟨k, hk, rfl, vd, qP, qd⟩ := hrel
    obtain ⟨ad, dn, cd, rfl⟩ := qd.form'
    by_cases hlt : k < l.length
    · obtain ⟨p, hp⟩ : ∃ p, l[k]? = some p := ⟨l[k], List.getElem?_eq_getElem hlt⟩
      have Hm := Lib.hid (mix_at (f := later (now + ticks)) hp)
      have hrp := (hn.2.2 k hlt).1
      rw [getD_of hp] at hrp
      have Hp := Lib.hid hp
      clear hp
      obtain ⟨-, -, hh0, hh1, -⟩ := hrp
      have hph : I64 p.h := ⟨by omega, by omega⟩
      obtain ⟨r0, r1, r2, r3, b0, b1, -, -, -⟩ := qP.reads Hm.out
      have x0 := cell_gw r0
      have x1 := cell_gw r1
      have x2 := cell_gw r2
      have x3 := cell_gw r3
      have y0 := cell_gw b0
      have hlt' : (k : Int) < l.length := by omega
      obtain ⟨pn, ph, pg, ps⟩ := p
      dsimp only at *
      have post : ∀ wq, Ext wr wq → P0 W bw B7 W.heap.size base (now + ticks) (List.map (later (now + ticks)) (List.take k l) ++ List.drop k l) g l.length c (.slice ad dn cd) wq ∧ OwnL wq W.heap.size 3 1 (.slice ad dn cd) (encI (downOf (now + ticks) (l.take k))) :=
        fun wq he => ⟨qP.ext he h7 hb hbs, qd.ext he⟩
      have Post := Lib.hid post
      clear post
      by_cases hd1 : 9 < now + ticks - ph
      · have Hv : Hid (spanI (now + ticks) ph = 2) := Lib.hid (by unfold spanI; rw [if_neg (by omega), if_neg (by omega)])
        have Hl : Hid (later (now + ticks) ⟨pn, ph, pg, ps⟩ = ⟨pn, ph, 0, 3⟩) := Lib.hid (by simp [later, hd1])
        by_cases hs3 : ps = 3
        · subst hs3
          have Hg : Hid ((if goesDown (now + ticks) ⟨pn, ph, pg, 3⟩ = true then [pn] else []) = []) := Lib.hid (by simp [goesDown])
          go_wp2
          refine wp_region_gw (by kernel_rfl) (by kernel_rfl) ?_
          repeat (first | go_big_quiet_step ((go_at_call 34; exact cgw (span_v (now + ticks) pn ph pg 3 2 _ (by omega) (by omega) hph hh0 Hv.out))) | quiet_step ((go_at_call 34; exact cgw (span_v (now + ticks) pn ph pg 3 2 _ (by omega) (by omega) hph hh0 Hv.out))) | (refine wpQuiet_step (fun K hK => ?_); go_simp; split <;> (refine hK _ ?_; clear hK K)))
          all_goals (refine wpQuiet_nil ?_; intro wq hwq; have eq_ := ext_of_gw hwq; clear hwq)
          obtain ⟨qP2, qd2⟩ := Post.out _ eq_
          obtain ⟨z0, z1, z2, z3, zb, zc, zd, zf, zg⟩ := qP2.reads Hm.out
          go_wp2
          go_roundw
          case rel => exact ⟨k + 1, by omega, by go_num, PassR.next Hp.out Hl.out Hg.out (qP2.put Hm.out (j := 2) (by omega) ⟨pn, ph, 0, 3⟩ rfl rfl h7 hb hg1) (by simpa using own_far qd2 hg2 _ _)⟩
          case measure => simp [intOf]; omega
        · have hs3' : (ps != 3) = true := by simpa using hs3
          have Hg : Hid ((if goesDown (now + ticks) ⟨pn, ph, pg, ps⟩ = true then [pn] else []) = [pn]) := Lib.hid (by simp [goesDown, hd1, hs3])
          go_wp2
          refine wp_region_gw (by kernel_rfl) (by kernel_rfl) ?_
          repeat (first | go_big_quiet_step ((go_at_call 34; exact cgw (span_v (now + ticks) pn ph pg ps 2 _ (by omega) (by omega) hph hh0 Hv.out))) | quiet_step ((go_at_call 34; exact cgw (span_v (now + ticks) pn ph pg ps 2 _ (by omega) (by omega) hph hh0 Hv.out))) | (refine wpQuiet_step (fun K hK => ?_); go_simp; split <;> (refine hK _ ?_; clear hK K)))
          all_goals (refine wpQuiet_nil ?_; intro wq hwq; have eq_ := ext_of_gw hwq; clear hwq)
          obtain ⟨qP2, qd2⟩ := Post.out _ eq_
          obtain ⟨z0, z1, z2, z3, zb, zc, zd, zf, zg⟩ := qP2.reads Hm.out
          go_wp2
          have EA0 := (Ext.refl wq).alloc (.cells #[.int .i64 pn] 3)
          have EA := EA0.drew
          have hs1 := slc_new (Blk.new wq [.int .i64 pn].toArray 3).drew
          have P2 := qP2.ext EA h7 hb hbs
          have D2 := qd2.ext EA
          have hln := downOf_len (now + ticks) l k
          have zd' := EA0.cell zd
          go_region_law ((refine step_append_l rfl _ _ 27 rfl elemT_27 W.heap.size rfl D2 (news := [[.int .i64 pn]]) rfl rfl hs1 (one_ints [pn]) (by simp; omega) (by decide) P2.z ?_; intro v' W' D4 hg'; obtain ⟨a4, n4, c4, rfl⟩ := D4.form'; have P4 := P2.grown D2 hg' h7 hb hbs hg2; obtain ⟨z0, z1, z2, z3, zb, zc, zd, zf, zg⟩ := P4.reads Hm.out))
          all_goals
            go_wp2
            go_roundw
            case rel => exact ⟨k + 1, by omega, by go_num, PassR.next Hp.out Hl.out Hg.out ((P4.down _ h7 hb hg1).put2 Hm.out 3 0 rfl rfl h7 hb hg1) (by simpa [encI] using own_far (own_far (own_far D4 (b := B7) (by omega) 0 (.slice a4 n4 c4)) hg2 (k * 4 + 3) (.int .i64 3)) hg2 (k * 4 + 2) (.int .i64 0))⟩
            case measure => simp [intOf]; omega
      · by_cases hd2 : 4 < now + ticks - ph
        · have Hv : Hid (spanI (now + ticks) ph = 1) := Lib.hid (by unfold spanI; rw [if_neg (by omega), if_pos (by omega)])
          have Hg : Hid ((if goesDown (now + ticks) ⟨pn, ph, pg, ps⟩ = true then [pn] else []) = []) := Lib.hid (by simp [goesDown, hd1])
          by_cases hs1 : ps = 1
          · subst hs1
            have Hl : Hid (later (now + ticks) ⟨pn, ph, pg, 1⟩ = ⟨pn, ph, 0, 2⟩) := Lib.hid (by simp [later, hd1, hd2])
            go_wp2
            refine wp_region_gw (by kernel_rfl) (by kernel_rfl) ?_
            repeat (first | go_big_quiet_step ((go_at_call 34; exact cgw (span_v (now + ticks) pn ph pg 1 1 _ (by omega) (by omega) hph hh0 Hv.out))) | quiet_step ((go_at_call 34; exact cgw (span_v (now + ticks) pn ph pg 1 1 _ (by omega) (by omega) hph hh0 Hv.out))) | (refine wpQuiet_step (fun K hK => ?_); go_simp; split <;> (refine hK _ ?_; clear hK K)))
            all_goals (refine wpQuiet_nil ?_; intro wq hwq; have eq_ := ext_of_gw hwq; clear hwq)
            obtain ⟨qP2, qd2⟩ := Post.out _ eq_
            obtain ⟨z0, z1, z2, z3, zb, zc, zd, zf, zg⟩ := qP2.reads Hm.out
            go_wp2
            go_roundw
            case rel => exact ⟨k + 1, by omega, by go_num, PassR.next Hp.out Hl.out Hg.out (qP2.put2 Hm.out 2 0 rfl rfl h7 hb hg1) (by simpa using own_far (own_far qd2 hg2 _ _) hg2 _ _)⟩
            case measure => simp [intOf]; omega
          · have hs1' : (ps == 1) = false := by simpa using hs1
            have Hl : Hid (later (now + ticks) ⟨pn, ph, pg, ps⟩ = ⟨pn, ph, 0, ps⟩) := Lib.hid (by simp [later, hd1, hd2, hs1])
            go_wp2
            refine wp_region_gw (by kernel_rfl) (by kernel_rfl) ?_
            repeat (first | go_big_quiet_step ((go_at_call 34; exact cgw (span_v (now + ticks) pn ph pg ps 1 _ (by omega) (by omega) hph hh0 Hv.out))) | quiet_step ((go_at_call 34; exact cgw (span_v (now + ticks) pn ph pg ps 1 _ (by omega) (by omega) hph hh0 Hv.out))) | (refine wpQuiet_step (fun K hK => ?_); go_simp; split <;> (refine hK _ ?_; clear hK K)))
            all_goals (refine wpQuiet_nil ?_; intro wq hwq; have eq_ := ext_of_gw hwq; clear hwq)
            obtain ⟨qP2, qd2⟩ := Post.out _ eq_
            obtain ⟨z0, z1, z2, z3, zb, zc, zd, zf, zg⟩ := qP2.reads Hm.out
            go_wp2
            go_roundw
            case rel => exact ⟨k + 1, by omega, by go_num, PassR.next Hp.out Hl.out Hg.out (qP2.put Hm.out (j := 2) (by omega) ⟨pn, ph, 0, ps⟩ rfl rfl h7 hb hg1) (by simpa using own_far qd2 hg2 _ _)⟩
            case measure => simp [intOf]; omega
        · have Hv : Hid (spanI (now + ticks) ph = 0) := Lib.hid (by unfold spanI; rw [if_pos (by omega)])
          have Hg : Hid ((if goesDown (now + ticks) ⟨pn, ph, pg, ps⟩ = true then [pn] else []) = []) := Lib.hid (by simp [goesDown, hd1])
          have Hl : Hid (later (now + ticks) ⟨pn, ph, pg, ps⟩ = ⟨pn, ph, pg, ps⟩) := Lib.hid (by simp [later, hd1, hd2])
          go_wp2
          refine wp_region_gw (by kernel_rfl) (by kernel_rfl) ?_
          repeat (first | go_big_quiet_step ((go_at_call 34; exact cgw (span_v (now + ticks) pn ph pg ps 0 _ (by omega) (by omega) hph hh0 Hv.out))) | quiet_step ((go_at_call 34; exact cgw (span_v (now + ticks) pn ph pg ps 0 _ (by omega) (by omega) hph hh0 Hv.out))) | (refine wpQuiet_step (fun K hK => ?_); go_simp; split <;> (refine hK _ ?_; clear hK K)))
          all_goals (refine wpQuiet_nil ?_; intro wq hwq; have eq_ := ext_of_gw hwq; clear hwq)
          obtain ⟨qP2, qd2⟩ := Post.out _ eq_
          go_wp2
          go_roundw
          case rel => exact ⟨k + 1, by omega, by go_num, PassR.next Hp.out Hl.out Hg.out (by rw [set_self Hm.out]; exact qP2) (by simpa using qd2)⟩
          case measure => simp [intOf]; omega
    · have hk' : k = l.length := by omega
      subst hk'
      go_wp2
      go_ret
      refine ⟨0, now + ticks, _, l.map (later (now + ticks)), rfl, qP.b, ?_, qP.bel, qP.k, _, qP.d, .inr ⟨rfl, h0', h1', rfl, rfl, ?_⟩⟩
      · have := qP.o
        rwa [List.take_length, List.drop_length, List.append_nil] at this
      · have := qd.rebase hb2
        rwa [List.take_length] at this
end Go.Proofs.Ytabadcnpmfafnaa
