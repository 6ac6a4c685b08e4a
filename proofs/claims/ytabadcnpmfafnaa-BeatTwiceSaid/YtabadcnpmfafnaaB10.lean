/- Part B10 of the proofs of these statements. No condition. -/
import Derived.Test.YtabadcnpmfafnaaB9
set_option linter.unusedVariables false
set_option linter.unusedSimpArgs false
namespace Go.Proofs.Ytabadcnpmfafnaa
open Go Go.RowKit J

/-- A peer that is heard. -/
def goodP (now : Int) (p : Pu) : Int := if now - p.h ≤ 4 then (if p.g + 1 < 3 then p.g + 1 else 3) else 1
def heardP (now : Int) (p : Pu) : Pu := ⟨p.n, now, goodP now p, if goodP now p = 3 ∨ p.s = 2 then 1 else p.s⟩
def cameP (now : Int) (p : Pu) : Bool := decide ((heardP now p).s = 1) && decide (p.s ≠ 1)

/-- What Hear's closure does. -/
def hearS (B7 : Nat) (now : Int) (l : List Pu) (x : Int) (code now' : Int) (l' : List Pu) (W : World) : Prop :=
  ∃ b, Blk W B7 4 #[.bool b] ∧
    ((code = 4 ∧ foundN l x = false ∧ b = false) ∨ (code = 0 ∧ foundN l x = true ∧ now' = now ∧ ∃ p, l[posN l x]? = some p ∧ l' = l.set (posN l x) (heardP now p) ∧ b = cameP now p))

theorem put3 {w : World} {base : Nat} {e : TypeId} {n c g k : Nat} {L : List Pu} {p : Pu} (h : OwnL w base e 4 (.slice (some ⟨g, 0, none⟩) n c) (L.map Pu.enc)) (hp : L[k]? = some p) (gd hd : Int) :
    OwnL ((w.setCell ⟨g, k * 4 + 2, none⟩ (.int .i64 gd)).setCell ⟨g, k * 4 + 1, none⟩ (.int .i64 hd)) base e 4 (.slice (some ⟨g, 0, none⟩) n c) ((L.set k ⟨p.n, hd, gd, p.s⟩).map Pu.enc) := by
  have hk := (List.getElem?_eq_some_iff.1 hp).1
  have := putP (x := k * 4 + 1) (q := ⟨p.n, hd, gd, p.s⟩) (putP (x := k * 4 + 2) (q := ⟨p.n, p.h, gd, p.s⟩) h hp (j := 2) (by omega) rfl (by omega)) (k := k) (p := ⟨p.n, p.h, gd, p.s⟩) (by rw [List.getElem?_set]; simp [hk]) (j := 1) (by omega) rfl (by omega)
  rwa [List.set_set] at this
theorem put4 {w : World} {base : Nat} {e : TypeId} {n c g k : Nat} {L : List Pu} {p : Pu} (h : OwnL w base e 4 (.slice (some ⟨g, 0, none⟩) n c) (L.map Pu.enc)) (hp : L[k]? = some p) (gd hd st : Int) :
    OwnL (((w.setCell ⟨g, k * 4 + 2, none⟩ (.int .i64 gd)).setCell ⟨g, k * 4 + 1, none⟩ (.int .i64 hd)).setCell ⟨g, k * 4 + 3, none⟩ (.int .i64 st)) base e 4 (.slice (some ⟨g, 0, none⟩) n c) ((L.set k ⟨p.n, hd, gd, st⟩).map Pu.enc) := by
  have hk := (List.getElem?_eq_some_iff.1 hp).1
  have := putP (x := k * 4 + 3) (q := ⟨p.n, hd, gd, st⟩) (put3 h hp gd hd) (k := k) (p := ⟨p.n, hd, gd, p.s⟩) (by rw [List.getElem?_set]; simp [hk]) (j := 3) (by omega) rfl (by omega)
  rwa [List.set_set] at this

theorem found_at {l : List Pu} {x : Int} (h : foundN l x = true) : ∃ p, l[posN l x]? = some p ∧ p.n = x := by
  unfold foundN at h
  simp only [Bool.and_eq_true, decide_eq_true_eq, beq_iff_eq] at h
  refine ⟨l[posN l x], List.getElem?_eq_getElem h.1, ?_⟩
  have h2 := h.2
  rw [getD_of (List.getElem?_eq_getElem h.1)] at h2
  unfold cmpI at h2
  split at h2
  · omega
  · split at h2 <;> omega

set_option maxRecDepth 20000 in
set_option maxHeartbeats 4000000 in
theorem hear1_any (now x : Int) (l : List Pu) (bw base B3 B7 : Nat) (v : Value) (W : World) (hn : CheckP now l) (hx : I64 x) (hl : ∀ p ∈ l, p.ok) (hlen : l.length ≤ 100)
    (hB : Blk W bw 24 #[.int .i64 now, v]) (hO : OwnL W base 40 4 v (l.map Pu.enc)) (hb : bw < base) (hbs : base ≤ W.heap.size) (h3 : B3 < bw) (h7 : B7 < bw)
    (c3 : Blk W B3 3 #[.int .i64 x]) (c7 : Blk W B7 4 #[.bool false]) :
    Calls Try.prog 41 #[.pointer (some ⟨bw, 0, none⟩), .pointer (some ⟨B3, 0, none⟩), .pointer (some ⟨B7, 0, none⟩)] W (DoesPost B7 bw base (hearS B7 now l x) W) := by
  unfold I64 at hx
  obtain ⟨a, c, rfl, hc1, hc2⟩ := hO.form
  rw [List.length_map] at *
  have w0 := cell_gw (hB.cell (i := 0) rfl)
  have w1 := cell_gw (hB.cell (i := 1) rfl)
  have t0 := cell_gw (c3.cell (i := 0) rfl)
  have hr := hn.rising
  have hnow := hn.1
  have hnow2 := hn.2.1
  have Hn := Lib.hid hn
  clear hn
  have hpl : ∀ w', Ext W w' → Calls Try.prog 37 #[.agg #[.int .i64 now, .slice a l.length c], .int .i64 x] w' fun e w'' => e = .returned (.tuple #[.int .i64 (posN l x), .bool (foundN l x)]) ∧ Ext w' w'' := fun w' he => place_any now a c l x w' hr (hO.ext he).slc (by omega)
  have Hpl := Lib.hid hpl
  clear hpl
  cases hf : foundN l x
  · rw [hf] at Hpl
    have Hf := Lib.hid hf
    clear hf
    go_enter Try.func41, Try.ntmps41
    go_wp2
    refine wp_region_gw (by kernel_rfl) (by kernel_rfl) ?_
    repeat (first | go_big_quiet_step ((go_at_call 37; exact cgw (Hpl.out _ (ext_gw _ _)))) | quiet_step ((go_at_call 37; exact cgw (Hpl.out _ (ext_gw _ _)))) | (refine wpQuiet_step (fun K hK => ?_); go_simp; split <;> (refine hK _ ?_; clear hK K)))
    all_goals (refine wpQuiet_nil ?_; intro wq hwq; have eq_ := ext_of_gw hwq; clear hwq)
    go_wp2
    go_ret
    exact ⟨4, now, _, l, rfl, eq_.blk hB, by exact hO.ext eq_, eq_.below.mono (by omega), fun k _ _ => eq_.block k (by omega), _, eq_.blk c7, .inl ⟨rfl, Hf.out, rfl⟩⟩
  · obtain ⟨p, hp, -⟩ := found_at hf
    rw [hf] at Hpl
    have Hf := Lib.hid hf
    clear hf
    have hk := posN_le l x
    have hk' := (List.getElem?_eq_some_iff.1 hp).1
    have hkI : ((posN l x : Nat) : Int) < l.length := by omega
    obtain ⟨g, rfl, hg1, hg2, -, hgf⟩ := hO.spot (i := posN l x) (cs := p.enc) (by rw [List.getElem?_map, hp]; rfl)
    have hrp := (Hn.out.2.2 _ hk').1
    rw [getD_of hp] at hrp
    obtain ⟨_, _, he, r0, r1, r2, r3⟩ := slc_pu hO.slc hp
    cases he
    simp only [Nat.zero_add] at r0 r1 r2 r3
    have hk0 : posN l x = posN l x := rfl
    generalize hgk : posN l x = k at *
    have Hk := Lib.hid hgk
    have Hp := Lib.hid hp
    clear hgk hp hk0
    obtain ⟨-, -, hh0, hh1, hg0, hg3, -⟩ := hrp
    have hph : I64 p.h := ⟨by omega, by omega⟩
    obtain ⟨pn, ph, pg, ps⟩ := p
    dsimp only at *
    have fin : ∀ (wq : World) (gd st : Int) (b : Bool) (w2 : World), Ext W wq → heardP now ⟨pn, ph, pg, ps⟩ = ⟨pn, now, gd, st⟩ → cameP now ⟨pn, ph, pg, ps⟩ = b →
        ((st = ps ∧ w2 = (wq.setCell ⟨g, k * 4 + 2, none⟩ (.int .i64 gd)).setCell ⟨g, k * 4 + 1, none⟩ (.int .i64 now)) ∨ w2 = ((wq.setCell ⟨g, k * 4 + 2, none⟩ (.int .i64 gd)).setCell ⟨g, k * 4 + 1, none⟩ (.int .i64 now)).setCell ⟨g, k * 4 + 3, none⟩ (.int .i64 st)) →
        DoesPost B7 bw base (hearS B7 now l x) W (.returned (.int .i64 0)) (w2.setCell ⟨B7, 0, none⟩ (.bool b)) := by
      intro wq gd st b w2 hE hh hc hw2
      have O1 := hO.ext hE
      have key : Blk w2 bw 24 #[.int .i64 now, .slice (some ⟨g, 0, none⟩) l.length c] ∧ OwnL w2 base 40 4 (.slice (some ⟨g, 0, none⟩) l.length c) ((l.set k ⟨pn, now, gd, st⟩).map Pu.enc) ∧ Blk w2 B7 4 #[.bool false] ∧ Below B7 W w2 ∧ (∀ j, bw < j → j < base → w2.heap[j]? = W.heap[j]?) := by
        rcases hw2 with ⟨rfl, rfl⟩ | rfl
        · exact ⟨((hE.blk hB).other (by dsimp only; omega) _).other (by dsimp only; omega) _, put3 O1 Hp.out gd now, ((hE.blk c7).other (by dsimp only; omega) _).other (by dsimp only; omega) _, ((hE.below.mono (by omega)).setCell (by dsimp only; omega) _).setCell (by dsimp only; omega) _,
            fun j h1 h2 => (Below.heap_setCell _ _ _ _ (by dsimp only; omega)).trans ((Below.heap_setCell _ _ _ _ (by dsimp only; omega)).trans (hE.block j (by omega)))⟩
        · exact ⟨(((hE.blk hB).other (by dsimp only; omega) _).other (by dsimp only; omega) _).other (by dsimp only; omega) _, put4 O1 Hp.out gd now st, (((hE.blk c7).other (by dsimp only; omega) _).other (by dsimp only; omega) _).other (by dsimp only; omega) _, (((hE.below.mono (by omega)).setCell (by dsimp only; omega) _).setCell (by dsimp only; omega) _).setCell (by dsimp only; omega) _,
            fun j h1 h2 => (Below.heap_setCell _ _ _ _ (by dsimp only; omega)).trans ((Below.heap_setCell _ _ _ _ (by dsimp only; omega)).trans ((Below.heap_setCell _ _ _ _ (by dsimp only; omega)).trans (hE.block j (by omega))))⟩
      obtain ⟨k1, k2, k3, k4, k5⟩ := key
      refine ⟨0, now, .slice (some ⟨g, 0, none⟩) l.length c, l.set k ⟨pn, now, gd, st⟩, rfl, k1.other (by dsimp only; omega) _, k2.other (by simp [Value.ownBlock]; omega) _, k4.setCell (by dsimp only; omega) _, fun j h1 h2 => (Below.heap_setCell _ _ _ _ (by dsimp only; omega)).trans (k5 j h1 h2), b, k3.set 0 _, .inr ⟨rfl, Hf.out, rfl, ⟨pn, ph, pg, ps⟩, ?_, ?_, hc.symm⟩⟩
      · rw [Hk.out]; exact Hp.out
      · rw [Hk.out, hh]
    have Fin := Lib.hid fin
    clear fin
    have prep : ∀ wq, Ext W wq → wq.cell? ⟨g, k * 4, none⟩ = some (.int .i64 pn) ∧ wq.cell? ⟨g, k * 4 + 1, none⟩ = some (.int .i64 ph) ∧ wq.cell? ⟨g, k * 4 + 2, none⟩ = some (.int .i64 pg) ∧ wq.cell? ⟨g, k * 4 + 3, none⟩ = some (.int .i64 ps) ∧ wq.cell? ⟨bw, 0, none⟩ = some (.int .i64 now) ∧
        wq.cell? ⟨bw, 1, none⟩ = some (.slice (some ⟨g, 0, none⟩) l.length c) ∧ wq.cell? ⟨B7, 0, none⟩ = some (.bool false) ∧ wq.frozen? ⟨B7, 0, none⟩ = false ∧ ∀ o, wq.frozen? ⟨g, o, none⟩ = false :=
      fun wq he => ⟨he.cell r0, he.cell r1, he.cell r2, he.cell r3, he.cell (hB.cell (i := 0) rfl), he.cell (hB.cell (i := 1) rfl), he.cell (c7.cell (i := 0) rfl), (he.blk c7).free 0, fun o => (Below.frozen he.below (p := ⟨g, o, none⟩) hg2).trans (hgf o)⟩
    have Prep := Lib.hid prep
    clear prep
    have hkk : (posN l x) = k := Hk.out
    clear hkk
    go_enter Try.func41, Try.ntmps41
    go_wp2
    refine wp_region_gw (by kernel_rfl) (by kernel_rfl) ?_
    repeat (first | go_big_quiet_step ((go_at_call 37; exact cgw (Hpl.out _ (ext_gw _ _)))) | quiet_step ((go_at_call 37; exact cgw (Hpl.out _ (ext_gw _ _)))) | (refine wpQuiet_step (fun K hK => ?_); go_simp; split <;> (refine hK _ ?_; clear hK K)))
    all_goals (refine wpQuiet_nil ?_; intro wq hwq; have eq_ := ext_of_gw hwq; clear hwq)
    have E1 := eq_
    clear eq_
    obtain ⟨z0, z1, z2, z3, zb, zc, zd, zf, zg⟩ := Prep.out _ E1
    generalize wq = wp at *
    have x0 := cell_gw z0
    have x1 := cell_gw z1
    have x2 := cell_gw z2
    have x3 := cell_gw z3
    have xb := cell_gw zb
    go_wp2
    -- CASES
    by_cases hd : now - ph ≤ 4
    · have Hv : Hid (spanI now ph = 0) := Lib.hid (by unfold spanI; rw [if_pos hd])
      by_cases hg : pg + 1 < 3
      · have hg3n : ¬ pg + 1 = 3 := by omega
        have hg3b : (pg + 1 == 3) = false := by simpa using hg3n
        have Hgd : ∀ s, Hid (goodP now ⟨pn, ph, pg, s⟩ = (pg + 1)) := fun s => Lib.hid (by unfold goodP; rw [if_pos hd, if_pos hg])
        have Hgd := Hgd ps
        by_cases hs1 : ps = 1
        · subst hs1
          have Hh : Hid (heardP now ⟨pn, ph, pg, 1⟩ = ⟨pn, now, (pg + 1), 1⟩) := Lib.hid (by simp [heardP, Hgd.out, hg3n])
          have Hc : Hid (cameP now ⟨pn, ph, pg, 1⟩ = false) := Lib.hid (by unfold cameP; rw [Hh.out]; simp [hg3n])
          refine wp_region_gw (by kernel_rfl) (by kernel_rfl) ?_
          repeat (first | go_big_quiet_step ((go_at_call 34; exact cgw (span_v now pn ph _ 1 0 _ hnow hnow2 hph hh0 Hv.out))) | quiet_step ((go_at_call 34; exact cgw (span_v now pn ph _ 1 0 _ hnow hnow2 hph hh0 Hv.out))) | (refine wpQuiet_step (fun K hK => ?_); go_simp; split <;> (refine hK _ ?_; clear hK K)))
          all_goals (refine wpQuiet_nil ?_; intro wq hwq; have eq_ := ext_of_gw hwq; clear hwq)
          obtain ⟨y0, y1, y2, y3, yb, yc, yd, yf, yg⟩ := Prep.out _ (E1.trans eq_)
          go_wp2
          go_ret
          exact Fin.out wq (pg + 1) 1 false _ (E1.trans eq_) Hh.out Hc.out (.inl ⟨rfl, rfl⟩)
        by_cases hs2 : ps = 2
        · subst hs2
          have Hh : Hid (heardP now ⟨pn, ph, pg, 2⟩ = ⟨pn, now, (pg + 1), 1⟩) := Lib.hid (by simp [heardP, Hgd.out])
          have Hc : Hid (cameP now ⟨pn, ph, pg, 2⟩ = true) := Lib.hid (by unfold cameP; rw [Hh.out]; simp)
          refine wp_region_gw (by kernel_rfl) (by kernel_rfl) ?_
          repeat (first | go_big_quiet_step ((go_at_call 34; exact cgw (span_v now pn ph _ 2 0 _ hnow hnow2 hph hh0 Hv.out))) | quiet_step ((go_at_call 34; exact cgw (span_v now pn ph _ 2 0 _ hnow hnow2 hph hh0 Hv.out))) | (refine wpQuiet_step (fun K hK => ?_); go_simp; split <;> (refine hK _ ?_; clear hK K)))
          all_goals (refine wpQuiet_nil ?_; intro wq hwq; have eq_ := ext_of_gw hwq; clear hwq)
          obtain ⟨y0, y1, y2, y3, yb, yc, yd, yf, yg⟩ := Prep.out _ (E1.trans eq_)
          go_wp2
          go_ret
          exact Fin.out wq (pg + 1) 1 true _ (E1.trans eq_) Hh.out Hc.out (.inr rfl)
        · have hs1' : (ps == 1) = false := by simpa using hs1
          have hs2' : (ps == 2) = false := by simpa using hs2
          have Hh : Hid (heardP now ⟨pn, ph, pg, ps⟩ = ⟨pn, now, (pg + 1), ps⟩) := Lib.hid (by simp [heardP, Hgd.out, hg3n, hs1, hs2])
          have Hc : Hid (cameP now ⟨pn, ph, pg, ps⟩ = false) := Lib.hid (by unfold cameP; rw [Hh.out]; simp [hg3n, hs1, hs2])
          refine wp_region_gw (by kernel_rfl) (by kernel_rfl) ?_
          repeat (first | go_big_quiet_step ((go_at_call 34; exact cgw (span_v now pn ph _ ps 0 _ hnow hnow2 hph hh0 Hv.out))) | quiet_step ((go_at_call 34; exact cgw (span_v now pn ph _ ps 0 _ hnow hnow2 hph hh0 Hv.out))) | (refine wpQuiet_step (fun K hK => ?_); go_simp; split <;> (refine hK _ ?_; clear hK K)))
          all_goals (refine wpQuiet_nil ?_; intro wq hwq; have eq_ := ext_of_gw hwq; clear hwq)
          obtain ⟨y0, y1, y2, y3, yb, yc, yd, yf, yg⟩ := Prep.out _ (E1.trans eq_)
          go_wp2
          go_ret
          exact Fin.out wq (pg + 1) ps false _ (E1.trans eq_) Hh.out Hc.out (.inl ⟨rfl, rfl⟩)
      · have hg' : pg = 2 ∨ pg = 3 := by omega
        rcases hg' with rfl | rfl
        all_goals clear hg
        · have hd' := Lib.hid hd
          have Hgd : ∀ s, Hid (goodP now ⟨pn, ph, 2, s⟩ = 3) := fun s => Lib.hid (by unfold goodP; rw [if_pos hd]; rfl)
          have Hgd := Hgd ps
          by_cases hs1 : ps = 1
          · subst hs1
            have Hh : Hid (heardP now ⟨pn, ph, 2, 1⟩ = ⟨pn, now, 3, 1⟩) := Lib.hid (by simp [heardP, Hgd.out])
            have Hc : Hid (cameP now ⟨pn, ph, 2, 1⟩ = false) := Lib.hid (by unfold cameP; rw [Hh.out]; simp)
            refine wp_region_gw (by kernel_rfl) (by kernel_rfl) ?_
            repeat (first | go_big_quiet_step ((go_at_call 34; exact cgw (span_v now pn ph _ 1 0 _ hnow hnow2 hph hh0 Hv.out))) | quiet_step ((go_at_call 34; exact cgw (span_v now pn ph _ 1 0 _ hnow hnow2 hph hh0 Hv.out))) | (refine wpQuiet_step (fun K hK => ?_); go_simp; split <;> (refine hK _ ?_; clear hK K)))
            all_goals (refine wpQuiet_nil ?_; intro wq hwq; have eq_ := ext_of_gw hwq; clear hwq)
            obtain ⟨y0, y1, y2, y3, yb, yc, yd, yf, yg⟩ := Prep.out _ (E1.trans eq_)
            go_wp2
            go_ret
            exact Fin.out wq 3 1 false _ (E1.trans eq_) Hh.out Hc.out (.inr rfl)
          by_cases hs2 : ps = 2
          · subst hs2
            have Hh : Hid (heardP now ⟨pn, ph, 2, 2⟩ = ⟨pn, now, 3, 1⟩) := Lib.hid (by simp [heardP, Hgd.out])
            have Hc : Hid (cameP now ⟨pn, ph, 2, 2⟩ = true) := Lib.hid (by unfold cameP; rw [Hh.out]; simp)
            refine wp_region_gw (by kernel_rfl) (by kernel_rfl) ?_
            repeat (first | go_big_quiet_step ((go_at_call 34; exact cgw (span_v now pn ph _ 2 0 _ hnow hnow2 hph hh0 Hv.out))) | quiet_step ((go_at_call 34; exact cgw (span_v now pn ph _ 2 0 _ hnow hnow2 hph hh0 Hv.out))) | (refine wpQuiet_step (fun K hK => ?_); go_simp; split <;> (refine hK _ ?_; clear hK K)))
            all_goals (refine wpQuiet_nil ?_; intro wq hwq; have eq_ := ext_of_gw hwq; clear hwq)
            obtain ⟨y0, y1, y2, y3, yb, yc, yd, yf, yg⟩ := Prep.out _ (E1.trans eq_)
            go_wp2
            go_ret
            exact Fin.out wq 3 1 true _ (E1.trans eq_) Hh.out Hc.out (.inr rfl)
          · have hs1' : (ps == 1) = false := by simpa using hs1
            have hs2' : (ps == 2) = false := by simpa using hs2
            have hs1'' : (ps != 1) = true := by simpa using hs1
            have Hh : Hid (heardP now ⟨pn, ph, 2, ps⟩ = ⟨pn, now, 3, 1⟩) := Lib.hid (by simp [heardP, Hgd.out, hs1])
            have Hc : Hid (cameP now ⟨pn, ph, 2, ps⟩ = true) := Lib.hid (by unfold cameP; rw [Hh.out]; simp [hs1])
            refine wp_region_gw (by kernel_rfl) (by kernel_rfl) ?_
            repeat (first | go_big_quiet_step ((go_at_call 34; exact cgw (span_v now pn ph _ ps 0 _ hnow hnow2 hph hh0 Hv.out))) | quiet_step ((go_at_call 34; exact cgw (span_v now pn ph _ ps 0 _ hnow hnow2 hph hh0 Hv.out))) | (refine wpQuiet_step (fun K hK => ?_); go_simp; split <;> (refine hK _ ?_; clear hK K)))
            all_goals (refine wpQuiet_nil ?_; intro wq hwq; have eq_ := ext_of_gw hwq; clear hwq)
            obtain ⟨y0, y1, y2, y3, yb, yc, yd, yf, yg⟩ := Prep.out _ (E1.trans eq_)
            go_wp2
            go_ret
            exact Fin.out wq 3 1 true _ (E1.trans eq_) Hh.out Hc.out (.inr rfl)
        · have hd' := Lib.hid hd
          have Hgd : ∀ s, Hid (goodP now ⟨pn, ph, 3, s⟩ = 3) := fun s => Lib.hid (by unfold goodP; rw [if_pos hd]; rfl)
          have Hgd := Hgd ps
          by_cases hs1 : ps = 1
          · subst hs1
            have Hh : Hid (heardP now ⟨pn, ph, 3, 1⟩ = ⟨pn, now, 3, 1⟩) := Lib.hid (by simp [heardP, Hgd.out])
            have Hc : Hid (cameP now ⟨pn, ph, 3, 1⟩ = false) := Lib.hid (by unfold cameP; rw [Hh.out]; simp)
            refine wp_region_gw (by kernel_rfl) (by kernel_rfl) ?_
            repeat (first | go_big_quiet_step ((go_at_call 34; exact cgw (span_v now pn ph _ 1 0 _ hnow hnow2 hph hh0 Hv.out))) | quiet_step ((go_at_call 34; exact cgw (span_v now pn ph _ 1 0 _ hnow hnow2 hph hh0 Hv.out))) | (refine wpQuiet_step (fun K hK => ?_); go_simp; split <;> (refine hK _ ?_; clear hK K)))
            all_goals (refine wpQuiet_nil ?_; intro wq hwq; have eq_ := ext_of_gw hwq; clear hwq)
            obtain ⟨y0, y1, y2, y3, yb, yc, yd, yf, yg⟩ := Prep.out _ (E1.trans eq_)
            go_wp2
            go_ret
            exact Fin.out wq 3 1 false _ (E1.trans eq_) Hh.out Hc.out (.inr rfl)
          by_cases hs2 : ps = 2
          · subst hs2
            have Hh : Hid (heardP now ⟨pn, ph, 3, 2⟩ = ⟨pn, now, 3, 1⟩) := Lib.hid (by simp [heardP, Hgd.out])
            have Hc : Hid (cameP now ⟨pn, ph, 3, 2⟩ = true) := Lib.hid (by unfold cameP; rw [Hh.out]; simp)
            refine wp_region_gw (by kernel_rfl) (by kernel_rfl) ?_
            repeat (first | go_big_quiet_step ((go_at_call 34; exact cgw (span_v now pn ph _ 2 0 _ hnow hnow2 hph hh0 Hv.out))) | quiet_step ((go_at_call 34; exact cgw (span_v now pn ph _ 2 0 _ hnow hnow2 hph hh0 Hv.out))) | (refine wpQuiet_step (fun K hK => ?_); go_simp; split <;> (refine hK _ ?_; clear hK K)))
            all_goals (refine wpQuiet_nil ?_; intro wq hwq; have eq_ := ext_of_gw hwq; clear hwq)
            obtain ⟨y0, y1, y2, y3, yb, yc, yd, yf, yg⟩ := Prep.out _ (E1.trans eq_)
            go_wp2
            go_ret
            exact Fin.out wq 3 1 true _ (E1.trans eq_) Hh.out Hc.out (.inr rfl)
          · have hs1' : (ps == 1) = false := by simpa using hs1
            have hs2' : (ps == 2) = false := by simpa using hs2
            have hs1'' : (ps != 1) = true := by simpa using hs1
            have Hh : Hid (heardP now ⟨pn, ph, 3, ps⟩ = ⟨pn, now, 3, 1⟩) := Lib.hid (by simp [heardP, Hgd.out, hs1])
            have Hc : Hid (cameP now ⟨pn, ph, 3, ps⟩ = true) := Lib.hid (by unfold cameP; rw [Hh.out]; simp [hs1])
            refine wp_region_gw (by kernel_rfl) (by kernel_rfl) ?_
            repeat (first | go_big_quiet_step ((go_at_call 34; exact cgw (span_v now pn ph _ ps 0 _ hnow hnow2 hph hh0 Hv.out))) | quiet_step ((go_at_call 34; exact cgw (span_v now pn ph _ ps 0 _ hnow hnow2 hph hh0 Hv.out))) | (refine wpQuiet_step (fun K hK => ?_); go_simp; split <;> (refine hK _ ?_; clear hK K)))
            all_goals (refine wpQuiet_nil ?_; intro wq hwq; have eq_ := ext_of_gw hwq; clear hwq)
            obtain ⟨y0, y1, y2, y3, yb, yc, yd, yf, yg⟩ := Prep.out _ (E1.trans eq_)
            go_wp2
            go_ret
            exact Fin.out wq 3 1 true _ (E1.trans eq_) Hh.out Hc.out (.inr rfl)
    · obtain ⟨sv, hsv⟩ : ∃ sv, spanI now ph = sv := ⟨_, rfl⟩
      have hsv0 : (sv == 0) = false := by rw [← hsv]; unfold spanI; rw [if_neg hd]; split <;> rfl
      have Hv := Lib.hid hsv
      clear hsv
      have hg3n : ¬ (1 : Int) = 3 := by decide
      have Hgd : ∀ s, Hid (goodP now ⟨pn, ph, pg, s⟩ = 1) := fun s => Lib.hid (by unfold goodP; rw [if_neg hd])
      have Hgd := Hgd ps
      by_cases hs1 : ps = 1
      · subst hs1
        have Hh : Hid (heardP now ⟨pn, ph, pg, 1⟩ = ⟨pn, now, 1, 1⟩) := Lib.hid (by simp [heardP, Hgd.out, hg3n])
        have Hc : Hid (cameP now ⟨pn, ph, pg, 1⟩ = false) := Lib.hid (by unfold cameP; rw [Hh.out]; simp [hg3n])
        refine wp_region_gw (by kernel_rfl) (by kernel_rfl) ?_
        repeat (first | go_big_quiet_step ((go_at_call 34; exact cgw (span_v now pn ph _ 1 sv _ hnow hnow2 hph hh0 Hv.out))) | quiet_step ((go_at_call 34; exact cgw (span_v now pn ph _ 1 sv _ hnow hnow2 hph hh0 Hv.out))) | (refine wpQuiet_step (fun K hK => ?_); go_simp; split <;> (refine hK _ ?_; clear hK K)))
        all_goals (refine wpQuiet_nil ?_; intro wq hwq; have eq_ := ext_of_gw hwq; clear hwq)
        obtain ⟨y0, y1, y2, y3, yb, yc, yd, yf, yg⟩ := Prep.out _ (E1.trans eq_)
        go_wp2
        go_ret
        exact Fin.out wq 1 1 false _ (E1.trans eq_) Hh.out Hc.out (.inl ⟨rfl, rfl⟩)
      by_cases hs2 : ps = 2
      · subst hs2
        have Hh : Hid (heardP now ⟨pn, ph, pg, 2⟩ = ⟨pn, now, 1, 1⟩) := Lib.hid (by simp [heardP, Hgd.out])
        have Hc : Hid (cameP now ⟨pn, ph, pg, 2⟩ = true) := Lib.hid (by unfold cameP; rw [Hh.out]; simp)
        refine wp_region_gw (by kernel_rfl) (by kernel_rfl) ?_
        repeat (first | go_big_quiet_step ((go_at_call 34; exact cgw (span_v now pn ph _ 2 sv _ hnow hnow2 hph hh0 Hv.out))) | quiet_step ((go_at_call 34; exact cgw (span_v now pn ph _ 2 sv _ hnow hnow2 hph hh0 Hv.out))) | (refine wpQuiet_step (fun K hK => ?_); go_simp; split <;> (refine hK _ ?_; clear hK K)))
        all_goals (refine wpQuiet_nil ?_; intro wq hwq; have eq_ := ext_of_gw hwq; clear hwq)
        obtain ⟨y0, y1, y2, y3, yb, yc, yd, yf, yg⟩ := Prep.out _ (E1.trans eq_)
        go_wp2
        go_ret
        exact Fin.out wq 1 1 true _ (E1.trans eq_) Hh.out Hc.out (.inr rfl)
      · have hs1' : (ps == 1) = false := by simpa using hs1
        have hs2' : (ps == 2) = false := by simpa using hs2
        have Hh : Hid (heardP now ⟨pn, ph, pg, ps⟩ = ⟨pn, now, 1, ps⟩) := Lib.hid (by simp [heardP, Hgd.out, hg3n, hs1, hs2])
        have Hc : Hid (cameP now ⟨pn, ph, pg, ps⟩ = false) := Lib.hid (by unfold cameP; rw [Hh.out]; simp [hg3n, hs1, hs2])
        refine wp_region_gw (by kernel_rfl) (by kernel_rfl) ?_
        repeat (first | go_big_quiet_step ((go_at_call 34; exact cgw (span_v now pn ph _ ps sv _ hnow hnow2 hph hh0 Hv.out))) | quiet_step ((go_at_call 34; exact cgw (span_v now pn ph _ ps sv _ hnow hnow2 hph hh0 Hv.out))) | (refine wpQuiet_step (fun K hK => ?_); go_simp; split <;> (refine hK _ ?_; clear hK K)))
        all_goals (refine wpQuiet_nil ?_; intro wq hwq; have eq_ := ext_of_gw hwq; clear hwq)
        obtain ⟨y0, y1, y2, y3, yb, yc, yd, yf, yg⟩ := Prep.out _ (E1.trans eq_)
        go_wp2
        go_ret
        exact Fin.out wq 1 ps false _ (E1.trans eq_) Hh.out Hc.out (.inl ⟨rfl, rfl⟩)
end Go.Proofs.Ytabadcnpmfafnaa
