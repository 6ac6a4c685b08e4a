/- Part R4 of the proofs of these statements. No condition. -/
import Derived.Test.YtabadcnpmfafnaaR3
set_option linter.unusedVariables false
set_option linter.unusedSimpArgs false
namespace Go.Proofs.Ytabadcnpmfafnaa
open Go Go.RowKit J

theorem own_ne {w : World} {b b' : Nat} {e e' : TypeId} {k k' : Nat} {v v' : Value} {css css' : List (List Value)} (h : OwnL w b e k v css) (h' : OwnL w b' e' k' v' css') (hne : e ≠ e') : v.ownBlock = none ∨ v.ownBlock ≠ v'.ownBlock := by
  rcases h.1.2 with ⟨rfl, _⟩ | ⟨g, cap, cur, rfl, _, h2, _⟩
  · exact .inl rfl
  · refine .inr (fun hg => ?_)
    rcases h'.1.2 with ⟨rfl, _⟩ | ⟨g', cap', cur', rfl, _, h3, _⟩
    · cases hg
    · simp [Value.ownBlock] at hg
      subst hg
      rw [h2] at h3
      cases h3
      exact hne rfl

theorem own_ne_blk {w : World} {b B : Nat} {e t : TypeId} {k : Nat} {v : Value} {css : List (List Value)} {cs : Array Value} (h : OwnL w b e k v css) (hB : Blk w B t cs) (hne : e ≠ t) : v.ownBlock ≠ some B := by
  intro hg
  rcases h.1.2 with ⟨rfl, _⟩ | ⟨g, cap, cur, rfl, _, h2, _⟩
  · cases hg
  · simp [Value.ownBlock] at hg
    subst hg
    unfold Blk at hB
    rw [h2] at hB
    cases hB
    exact hne rfl
theorem down_yes {now : Int} {p : Pu} {qn qh qg : Int} (hq : later now p = ⟨qn, qh, qg, 3⟩) (hp : p.s ≠ 3) : goesDown now p = true ∧ qn = p.n := by
  unfold later at hq
  split at hq
  · rename_i h; cases hq; exact ⟨by simp [goesDown, h, hp], rfl⟩
  · split at hq
    · split at hq
      · cases hq
      · injection hq with _ _ _ h4; exact absurd h4 hp
    · subst hq; exact absurd rfl hp
theorem down_no {now : Int} {p q : Pu} (hq : later now p = q) (h : ¬ (q.s = 3 ∧ p.s ≠ 3)) : goesDown now p = false := by
  subst hq
  cases hg : goesDown now p
  · rfl
  · unfold goesDown at hg
    simp only [Bool.and_eq_true, decide_eq_true_eq] at hg
    exact absurd ⟨by unfold later; rw [if_pos hg.1], hg.2⟩ h
/-- What stands in the loop of the document's Pass. -/
def RefR (W : World) (B2 B7 base : Nat) (now0 now : Int) (v : Value) (l : List Pu) (k : Nat) (vd : Value) (w : World) : Prop :=
  ∃ vp, Blk w B2 24 #[.int .i64 now0, v] ∧ Blk w B7 24 #[.int .i64 now, vp] ∧ OwnL w base 3 1 vd (encI (downOf now (l.take k))) ∧ OwnL w base 40 4 vp (((l.take k).map (later now)).map Pu.enc) ∧ Ext W w ∧ base ≤ w.heap.size

set_option maxRecDepth 20000 in
set_option maxHeartbeats 4000000 in
theorem refpass_any (now ticks : Int) (a : Option Addr) (c : Nat) (l : List Pu) (w : World) (hn : I64 now) (ht : I64 ticks) (hl : ∀ p ∈ l, p.ok) (hs : SlC w 4 a (l.map Pu.enc)) (hlen : l.length ≤ 100) :
    Calls Try.prog 11 #[.agg #[.int .i64 now, .slice a l.length c], .int .i64 ticks] w (PassPost now ticks l w) := by
  unfold I64 at ht
  have E0 := ((Ext.refl w).alloc (.cells #[.int .i64 now, .slice a l.length c] 24)).alloc (.cells #[.int .i64 0, .slice none 0 0] 24)
  have b2 := (Blk.new w #[.int .i64 now, .slice a l.length c] 24).alloc (.cells #[.int .i64 0, .slice none 0 0] 24)
  have b4 := Blk.new (w.alloc (.cells #[.int .i64 now, .slice a l.length c] 24)) #[.int .i64 0, .slice none 0 0] 24
  have hz : ((w.alloc (.cells #[.int .i64 now, .slice a l.length c] 24)).alloc (.cells #[.int .i64 0, .slice none 0 0] 24)).heap.size = w.heap.size + 2 := by simp
  simp only [World.size_alloc] at b4
  have hchk := refright_any now a c l ((w.alloc (.cells #[.int .i64 now, .slice a l.length c] 24)).alloc (.cells #[.int .i64 0, .slice none 0 0] 24)) hn hl (hs.ext E0) (by unfold maxLen; omega)
  have post : ∀ code now' l' ds, passP now ticks l = (code, now', l', ds) → ∀ w2 vw vd, WtV w2 vw now' l' → SlI w2 vd ds → Ext w w2 → PassPost now ticks l w (.returned (.tuple #[vw, vd, .int .i64 code])) w2 := fun code now' l' ds h w2 vw vd h1 h2 h3 => by unfold PassPost; rw [h]; exact ⟨vw, vd, rfl, h1, h2, h3⟩
  have Post := Lib.hid post
  clear post
  go_enter Try.func11, Try.ntmps11
  go_wp2_with fail
  generalize (w.alloc (.cells #[.int .i64 now, .slice a l.length c] 24)).alloc (.cells #[.int .i64 0, .slice none 0 0] 24) = W0 at *
  refine hchk.mono ?_
  clear hchk
  rintro _ w1 ⟨rfl, hE⟩
  have b2 := hE.blk b2
  have b4 := hE.blk b4
  have hz1 := hE.size
  have E1 := E0.trans hE
  have z0 := b2.cell (i := 0) rfl
  have z1 := b2.cell (i := 1) rfl
  have y0 := b4.cell (i := 0) rfl
  have y1 := b4.cell (i := 1) rfl
  have f0 := b4.free 0
  have f1 := b4.free 1
  clear hE
  by_cases hP : CheckP now l
  · rw [checkB_true hP]
    have hnow := hP.1
    have hnow2 := hP.2.1
    have HP := Lib.hid hP
    clear hP
    by_cases hbad : ticks < 0 ∨ 1099511627776 - now < ticks
    · have Hp := Lib.hid (Post.out 2 0 [] [] (by unfold passP; rw [if_neg (not_not_intro HP.out), if_pos hbad]))
      have b9 := (b4.set 0 (.int .i64 0)).set 1 (.slice none 0 0)
      have E9 := (E1.setC (p := ⟨w.heap.size + 1, 0, none⟩) (by dsimp only; omega) (.int .i64 0)).setC (p := ⟨w.heap.size + 1, 1, none⟩) (by dsimp only; omega) (.slice none 0 0)
      have done := Hp.out _ _ _ ⟨none, 0, rfl, SlC.nil _ _ _, Nat.le_refl _, Nat.zero_le _⟩ ⟨none, 0, rfl, SlC.nil _ _ _, Nat.le_refl _, Nat.zero_le _⟩ E9
      have Done := Lib.hid done
      clear done Hp Post
      by_cases h0 : ticks < 0
      · go_wp2
        exact ⟨rfl, .tuple #[.agg #[.int .i64 0, .slice none 0 0], .slice none 0 0, .int .i64 2], by simp [results, Try.f11, go_sem, b9.cell (i := 0) rfl, b9.cell (i := 1) rfl], Done.out⟩
      · by_cases h1 : 1099511627776 < ticks
        · go_wp2
          exact ⟨rfl, .tuple #[.agg #[.int .i64 0, .slice none 0 0], .slice none 0 0, .int .i64 2], by simp [results, Try.f11, go_sem, b9.cell (i := 0) rfl, b9.cell (i := 1) rfl], Done.out⟩
        · have h2 : 1099511627776 < now + ticks := by omega
          go_wp2
          exact ⟨rfl, .tuple #[.agg #[.int .i64 0, .slice none 0 0], .slice none 0 0, .int .i64 2], by simp [results, Try.f11, go_sem, b9.cell (i := 0) rfl, b9.cell (i := 1) rfl], Done.out⟩
    · have Hp := Lib.hid (Post.out 0 (now + ticks) (l.map (later (now + ticks))) (downOf (now + ticks) l) (by unfold passP; rw [if_neg (not_not_intro HP.out), if_neg hbad]))
      clear Post
      have h0 : 0 ≤ ticks := by omega
      have h1 : ticks ≤ 1099511627776 := by omega
      have h2 : now + ticks ≤ 1099511627776 := by omega
      have b7 := Blk.new w1 #[.int .i64 (now + ticks), .slice none 0 0] 24
      have EA := (Ext.refl w1).alloc (.cells #[.int .i64 (now + ticks), .slice none 0 0] 24)
      have hR : RefR w1 w.heap.size w1.heap.size (w1.heap.size + 1) now (now + ticks) (.slice a l.length c) l 0 (.slice none 0 0) (w1.alloc (.cells #[.int .i64 (now + ticks), .slice none 0 0] 24)) :=
        ⟨.slice none 0 0, EA.blk b2, b7, OwnL.nil _ _ _ _, OwnL.nil _ _ _ _, EA, by simp⟩
      have hltw : w.heap.size < w1.heap.size := by omega
      have b4' := EA.blk b4
      go_wp2
      generalize w1.alloc (.cells #[.int .i64 (now + ticks), .slice none 0 0] 24) = W1 at *
      generalize hB7 : w1.heap.size = B7 at *
      go_loopw [8, 9, 10] (fun u8 u9 _ wr => ∃ k : Nat, k ≤ l.length ∧ u9 = .int .i64 k ∧ RefR w1 w.heap.size B7 (B7 + 1) now (now + ticks) (.slice a l.length c) l k u8 wr) (fun _ u _ _ => l.length - (intOf u).toNat)
      case atStart => exact ⟨0, by omega, rfl, hR⟩
      case round =>
        clear hR
        obtain ⟨k, hk, rfl, vp, q2, q7, qd, qp, qE, qb⟩ := hrel
        have c21 := q2.cell (i := 1) rfl
        have c70 := q7.cell (i := 0) rfl
        by_cases hlt : k < l.length
        · obtain ⟨p, hp⟩ : ∃ p, l[k]? = some p := ⟨l[k], List.getElem?_eq_getElem hlt⟩
          obtain ⟨pb, po, rfl, r0, r1, r2, r3⟩ := slc_pu (hs.ext (E1.trans qE)) hp
          have hrp := (HP.out.2.2 k hlt).1
          rw [getD_of hp] at hrp
          have Hp1 := Lib.hid hp
          clear hp
          obtain ⟨-, -, hh0, hh1, -⟩ := hrp
          have hph : I64 p.h := ⟨by omega, by omega⟩
          have hltI : (k : Int) < l.length := by omega
          have hnt : 0 ≤ now + ticks := by omega
          obtain ⟨pn, ph, pg, ps⟩ := p
          dsimp only at *
          obtain ⟨⟨qn, qh, qg, qs⟩, hq⟩ : ∃ q, later (now + ticks) ⟨pn, ph, pg, ps⟩ = q := ⟨_, rfl⟩
          have hlat := fun w' => later_any (now + ticks) ⟨pn, ph, pg, ps⟩ w' hnt h2 hph hh0
          rw [hq] at hlat
          dsimp only at hlat
          have Hlat := Lib.hid hlat
          have Hq := Lib.hid hq
          clear hlat hq
          have F : Hid (∀ w', Ext wr w' → w'.cell? ⟨w.heap.size, 1, none⟩ = some (.slice (some ⟨pb, po, none⟩) l.length c) ∧ w'.cell? ⟨B7, 0, none⟩ = some (.int .i64 (now + ticks)) ∧ w'.cell? ⟨pb, po + k * 4, none⟩ = some (.int .i64 pn) ∧ w'.cell? ⟨pb, po + k * 4 + 1, none⟩ = some (.int .i64 ph) ∧ w'.cell? ⟨pb, po + k * 4 + 2, none⟩ = some (.int .i64 pg) ∧ w'.cell? ⟨pb, po + k * 4 + 3, none⟩ = some (.int .i64 ps)) := Lib.hid (fun w' he => ⟨he.cell c21, he.cell c70, he.cell r0, he.cell r1, he.cell r2, he.cell r3⟩)
          go_wp2
          go_region_held3 (fun w' => w'.cell? ⟨w.heap.size, 1, none⟩ = some (.slice (some ⟨pb, po, none⟩) l.length c) ∧ w'.cell? ⟨B7, 0, none⟩ = some (.int .i64 (now + ticks)) ∧ w'.cell? ⟨pb, po + k * 4, none⟩ = some (.int .i64 pn) ∧ w'.cell? ⟨pb, po + k * 4 + 1, none⟩ = some (.int .i64 ph) ∧ w'.cell? ⟨pb, po + k * 4 + 2, none⟩ = some (.int .i64 pg) ∧ w'.cell? ⟨pb, po + k * 4 + 3, none⟩ = some (.int .i64 ps))
            (first | (go_keep; done) | (refine F.out _ ?_; repeat (first | assumption | apply Ext.alloc | apply Ext.drew | (refine Ext.setC ?_ (by dsimp only; omega) _))))
            (first | (go_at_call 35; refine (Hlat.out _).mono ?_; rintro _ w3 ⟨rfl, hE3⟩; have hX : Ext wr w3 := Ext.trans (by repeat (first | exact Ext.refl _ | assumption | apply Ext.alloc | apply Ext.drewN | apply Ext.drew)) hE3; have hXz := hX.size; try (have nb := hE3.blk (Blk.new wr #[.int .i64 0, .int .i64 0, .int .i64 0, .int .i64 0] 40).drew; have nb0 := nb.cell (i := 0) rfl; have nb1 := nb.cell (i := 1) rfl; have nb2 := nb.cell (i := 2) rfl; have nb3 := nb.cell (i := 3) rfl; have nf0 := nb.free 0; have nf1 := nb.free 1; have nf2 := nb.free 2; have nf3 := nb.free 3)))
          · have nb := Blk.new w3 #[.int .i64 qn, .int .i64 qh, .int .i64 qg, .int .i64 qs] 40
            have hY := hX.alloc (.cells #[.int .i64 qn, .int .i64 qh, .int .i64 qg, .int .i64 qs] 40)
            generalize w3.alloc (.cells #[.int .i64 qn, .int .i64 qh, .int .i64 qg, .int .i64 qs] 40) = W5 at *
            have b5 : B7 + 1 ≤ W5.heap.size := Nat.le_trans qb hY.size
            generalize w3.heap.size = nk at *
            clear hXz
            have y1 := hY.cell c21
            have y2 := hY.cell r3
            have Bn := hY.blk q7
            have y3 := Bn.cell (i := 1) rfl
            have y4 := Bn.free 1
            have m0 := nb.cell (i := 0) rfl
            have m1 := nb.cell (i := 1) rfl
            have m2 := nb.cell (i := 2) rfl
            have m3 := nb.cell (i := 3) rfl
            have D5 := qd.ext hY
            have P5 := qp.ext hY
            have E5 := qE.trans hY
            have B2 := hY.blk q2
            obtain ⟨vda, vdn, vdc, rfl⟩ := D5.form'
            obtain ⟨vpa, vpn, vpc, rfl⟩ := P5.form'
            have hdl := downOf_len (now + ticks) l k
            have hpl : (((l.take k).map (later (now + ticks))).map Pu.enc).length ≤ l.length := by simp; omega
            clear hE3 hX
            by_cases hdown : qs = 3 ∧ ps ≠ 3
            · obtain ⟨rfl, hps⟩ := hdown
              have hps' : (ps != 3) = true := by simpa using hps
              have EA := (Ext.refl W5).alloc (.cells #[.int .i64 qn] 3)
              have hs1 := slc_new (Blk.new W5 [.int .i64 qn].toArray 3)
              have P6 := P5.ext EA
              have b6 : B7 + 1 ≤ (W5.alloc (.cells #[.int .i64 qn] 3)).heap.size := by simp; omega
              have Bn6 := EA.blk Bn
              have nb6 := EA.blk nb
              have B26 := EA.blk B2
              have E6 := E5.trans EA
              go_wp2_with (first | (at_builtin; refine wpl_append rfl _ _ 27 rfl elemT_27 (B7 + 1) rfl (D5.ext EA) (news := [[.int .i64 qn]]) rfl rfl hs1 (one_ints [qn]) (by simp; omega) (by decide) b6 ?_; intro v6 W6 D6 hg6; obtain ⟨a6, n6, c6, rfl⟩ := D6.form'; have Bn7 := Bn6.grown hg6 (own_ne_blk (D5.ext EA) Bn6 (by decide)); have nb7 := nb6.grown hg6 (own_ne_blk (D5.ext EA) nb6 (by decide)); have k1 := Bn7.cell (i := 1) rfl; have k2 := nb7.cell (i := 0) rfl; have k3 := nb7.cell (i := 1) rfl; have k4 := nb7.cell (i := 2) rfl; have k5 := nb7.cell (i := 3) rfl; have P7 := P6.grown hg6 (own_ne P6 (D5.ext EA) (by decide)); have B27 := B26.grown hg6 (own_ne_blk (D5.ext EA) B26 (by decide)); have E7 : Ext w1 W6 := E6.below.grown hg6 (by have := E6.size; omega) (fun j hj => by have := ((D5.ext EA).base_le _ hj).1; omega); have b67 : B7 + 1 ≤ W6.heap.size := Nat.le_trans b6 hg6.size; have EB := (Ext.refl W6).alloc (.cells #[.int .i64 qn, .int .i64 qh, .int .i64 qg, .int .i64 3] 40); have hs2 := slc_new (Blk.new W6 [.int .i64 qn, .int .i64 qh, .int .i64 qg, .int .i64 3].toArray 40); have u0 := EB.cell (Bn7.cell (i := 1) rfl); have b7' : B7 + 1 ≤ (W6.alloc (.cells #[.int .i64 qn, .int .i64 qh, .int .i64 qg, .int .i64 3] 40)).heap.size := Nat.le_trans (by assumption) EB.size; have P8 := P7.ext EB; have D8 := D6.ext EB; have B8 := EB.blk Bn7; have B28 := EB.blk B27; have E8 := E7.trans EB) | (at_builtin; refine wpl_append rfl _ _ 22 rfl elemT_22 (B7 + 1) rfl P8 (news := [[.int .i64 qn, .int .i64 qh, .int .i64 qg, .int .i64 3]]) rfl rfl hs2 (by simp [Value.oneCell']) (by simp only [List.length_cons, List.length_nil]; omega) (by decide) b7' ?_; intro v9 W9 P9 hg9; obtain ⟨a9, n9, c9, rfl⟩ := P9.form'; have B9 := B8.grown hg9 (own_ne_blk P8 B8 (by decide)); have B29 := B28.grown hg9 (own_ne_blk P8 B28 (by decide)); have v1 := B9.cell (i := 1) rfl; have v2 := B9.free 1))
              have D9 := D8.grown hg9 (own_ne D8 P8 (by decide))
              have E9 : Ext w1 W9 := E8.below.grown hg9 (by have := E8.size; omega) (fun j hj => by have := (P8.base_le _ hj).1; omega)
              have fin : RefR w1 w.heap.size B7 (B7 + 1) now (now + ticks) (.slice (some ⟨pb, po, none⟩) l.length c) l (k + 1) (.slice a6 n6 c6) (W9.setCell ⟨B7, 1, none⟩ (.slice a9 n9 c9)) := by
                refine ⟨.slice a9 n9 c9, B29.other (by dsimp only; omega) _, B9.set 1 _, ?_, ?_, E9.setC (by dsimp only; omega) _, by have := hg9.size; simp; omega⟩
                · rw [downOf_next Hp1.out]
                  obtain ⟨g1, g2⟩ := down_yes Hq.out hps
                  rw [if_pos g1]
                  have g2 : qn = pn := g2
                  rw [show encI (downOf (now + ticks) (l.take k) ++ [pn]) = encI (downOf (now + ticks) (l.take k)) ++ [[.int .i64 qn]] from by simp [encI, g2]]
                  exact own_far' D9 (by omega) 1 (.slice a9 n9 c9)
                · rw [List.take_add_one, Hp1.out]
                  simp only [Option.toList_some, List.map_append, List.map_cons, List.map_nil, Hq.out]
                  exact own_far' P9 (by omega) 1 (.slice a9 n9 c9)
              have Fin := Lib.hid fin
              clear fin
              go_wp2
              go_roundw
              case rel => exact ⟨k + 1, by omega, by go_num, Fin.out⟩
              case measure => simp [intOf]; omega
            · by_cases hq3 : qs = 3
              · subst hq3
                have hp3 : ps = 3 := by
                  rcases Int.decEq ps 3 with h | h
                  · exact absurd ⟨rfl, h⟩ hdown
                  · exact h
                subst hp3
                have EB := (Ext.refl W5).alloc (.cells #[.int .i64 qn, .int .i64 qh, .int .i64 qg, .int .i64 3] 40)
                have hs2 := slc_new (Blk.new W5 [.int .i64 qn, .int .i64 qh, .int .i64 qg, .int .i64 3].toArray 40)
                have u0 := EB.cell (Bn.cell (i := 1) rfl)
                have b7' : B7 + 1 ≤ (W5.alloc (.cells #[.int .i64 qn, .int .i64 qh, .int .i64 qg, .int .i64 3] 40)).heap.size := Nat.le_trans (by assumption) EB.size
                have P8 := P5.ext EB
                have D8 := D5.ext EB
                have B8 := EB.blk Bn
                have B28 := EB.blk B2
                have E8 := E5.trans EB
                go_wp2_with (at_builtin; refine wpl_append rfl _ _ 22 rfl elemT_22 (B7 + 1) rfl P8 (news := [[.int .i64 qn, .int .i64 qh, .int .i64 qg, .int .i64 3]]) rfl rfl hs2 (by simp [Value.oneCell']) (by simp only [List.length_cons, List.length_nil]; omega) (by decide) b7' ?_; intro v9 W9 P9 hg9; obtain ⟨a9, n9, c9, rfl⟩ := P9.form'; have B9 := B8.grown hg9 (own_ne_blk P8 B8 (by decide)); have B29 := B28.grown hg9 (own_ne_blk P8 B28 (by decide)); have v1 := B9.cell (i := 1) rfl; have v2 := B9.free 1)
                have D9 := D8.grown hg9 (own_ne D8 P8 (by decide))
                have E9 : Ext w1 W9 := E8.below.grown hg9 (by have := E8.size; omega) (fun j hj => by have := (P8.base_le _ hj).1; omega)
                have fin : RefR w1 w.heap.size B7 (B7 + 1) now (now + ticks) (.slice (some ⟨pb, po, none⟩) l.length c) l (k + 1) (.slice vda vdn vdc) (W9.setCell ⟨B7, 1, none⟩ (.slice a9 n9 c9)) := by
                  refine ⟨.slice a9 n9 c9, B29.other (by dsimp only; omega) _, B9.set 1 _, ?_, ?_, E9.setC (by dsimp only; omega) _, by have := hg9.size; simp; omega⟩
                  · rw [downOf_next Hp1.out]
                    rw [if_neg (by rw [down_no Hq.out (fun h => h.2 rfl)]; decide), List.append_nil]
                    exact own_far' D9 (by omega) 1 (.slice a9 n9 c9)
                  · rw [List.take_add_one, Hp1.out]
                    simp only [Option.toList_some, List.map_append, List.map_cons, List.map_nil, Hq.out]
                    exact own_far' P9 (by omega) 1 (.slice a9 n9 c9)
                have Fin := Lib.hid fin
                clear fin
                go_wp2
                go_roundw
                case rel => exact ⟨k + 1, by omega, by go_num, Fin.out⟩
                case measure => simp [intOf]; omega
              · have hq3' : (qs == 3) = false := by simpa using hq3
                have EB := (Ext.refl W5).alloc (.cells #[.int .i64 qn, .int .i64 qh, .int .i64 qg, .int .i64 qs] 40)
                have hs2 := slc_new (Blk.new W5 [.int .i64 qn, .int .i64 qh, .int .i64 qg, .int .i64 qs].toArray 40)
                have u0 := EB.cell (Bn.cell (i := 1) rfl)
                have b7' : B7 + 1 ≤ (W5.alloc (.cells #[.int .i64 qn, .int .i64 qh, .int .i64 qg, .int .i64 qs] 40)).heap.size := Nat.le_trans (by assumption) EB.size
                have P8 := P5.ext EB
                have D8 := D5.ext EB
                have B8 := EB.blk Bn
                have B28 := EB.blk B2
                have E8 := E5.trans EB
                go_wp2_with (at_builtin; refine wpl_append rfl _ _ 22 rfl elemT_22 (B7 + 1) rfl P8 (news := [[.int .i64 qn, .int .i64 qh, .int .i64 qg, .int .i64 qs]]) rfl rfl hs2 (by simp [Value.oneCell']) (by simp only [List.length_cons, List.length_nil]; omega) (by decide) b7' ?_; intro v9 W9 P9 hg9; obtain ⟨a9, n9, c9, rfl⟩ := P9.form'; have B9 := B8.grown hg9 (own_ne_blk P8 B8 (by decide)); have B29 := B28.grown hg9 (own_ne_blk P8 B28 (by decide)); have v1 := B9.cell (i := 1) rfl; have v2 := B9.free 1)
                have D9 := D8.grown hg9 (own_ne D8 P8 (by decide))
                have E9 : Ext w1 W9 := E8.below.grown hg9 (by have := E8.size; omega) (fun j hj => by have := (P8.base_le _ hj).1; omega)
                have fin : RefR w1 w.heap.size B7 (B7 + 1) now (now + ticks) (.slice (some ⟨pb, po, none⟩) l.length c) l (k + 1) (.slice vda vdn vdc) (W9.setCell ⟨B7, 1, none⟩ (.slice a9 n9 c9)) := by
                  refine ⟨.slice a9 n9 c9, B29.other (by dsimp only; omega) _, B9.set 1 _, ?_, ?_, E9.setC (by dsimp only; omega) _, by have := hg9.size; simp; omega⟩
                  · rw [downOf_next Hp1.out]
                    rw [if_neg (by rw [down_no Hq.out (fun h => hq3 h.1)]; decide), List.append_nil]
                    exact own_far' D9 (by omega) 1 (.slice a9 n9 c9)
                  · rw [List.take_add_one, Hp1.out]
                    simp only [Option.toList_some, List.map_append, List.map_cons, List.map_nil, Hq.out]
                    exact own_far' P9 (by omega) 1 (.slice a9 n9 c9)
                have Fin := Lib.hid fin
                clear fin
                go_wp2
                go_roundw
                case rel => exact ⟨k + 1, by omega, by go_num, Fin.out⟩
                case measure => simp [intOf]; omega
          · have nb := (((nb.set 0 (.int .i64 qn)).set 1 (.int .i64 qh)).set 2 (.int .i64 qg)).set 3 (.int .i64 qs)
            have hY := (((hX.setC (p := ⟨wr.heap.size, 0, none⟩) (Nat.le_refl _) (.int .i64 qn)).setC (p := ⟨wr.heap.size, 1, none⟩) (Nat.le_refl _) (.int .i64 qh)).setC (p := ⟨wr.heap.size, 2, none⟩) (Nat.le_refl _) (.int .i64 qg)).setC (p := ⟨wr.heap.size, 3, none⟩) (Nat.le_refl _) (.int .i64 qs)
            clear nb0 nb1 nb2 nb3 nf0 nf1 nf2 nf3
            generalize (((w3.setCell ⟨wr.heap.size, 0, none⟩ (.int .i64 qn)).setCell ⟨wr.heap.size, 1, none⟩ (.int .i64 qh)).setCell ⟨wr.heap.size, 2, none⟩ (.int .i64 qg)).setCell ⟨wr.heap.size, 3, none⟩ (.int .i64 qs) = W5 at *
            have b5 : B7 + 1 ≤ W5.heap.size := Nat.le_trans qb hY.size
            generalize wr.heap.size = nk at *
            clear hXz
            have y1 := hY.cell c21
            have y2 := hY.cell r3
            have Bn := hY.blk q7
            have y3 := Bn.cell (i := 1) rfl
            have y4 := Bn.free 1
            have m0 := nb.cell (i := 0) rfl
            have m1 := nb.cell (i := 1) rfl
            have m2 := nb.cell (i := 2) rfl
            have m3 := nb.cell (i := 3) rfl
            have D5 := qd.ext hY
            have P5 := qp.ext hY
            have E5 := qE.trans hY
            have B2 := hY.blk q2
            obtain ⟨vda, vdn, vdc, rfl⟩ := D5.form'
            obtain ⟨vpa, vpn, vpc, rfl⟩ := P5.form'
            have hdl := downOf_len (now + ticks) l k
            have hpl : (((l.take k).map (later (now + ticks))).map Pu.enc).length ≤ l.length := by simp; omega
            clear hE3 hX
            by_cases hdown : qs = 3 ∧ ps ≠ 3
            · obtain ⟨rfl, hps⟩ := hdown
              have hps' : (ps != 3) = true := by simpa using hps
              have EA := (Ext.refl W5).alloc (.cells #[.int .i64 qn] 3)
              have hs1 := slc_new (Blk.new W5 [.int .i64 qn].toArray 3)
              have P6 := P5.ext EA
              have b6 : B7 + 1 ≤ (W5.alloc (.cells #[.int .i64 qn] 3)).heap.size := by simp; omega
              have Bn6 := EA.blk Bn
              have nb6 := EA.blk nb
              have B26 := EA.blk B2
              have E6 := E5.trans EA
              go_wp2_with (first | (at_builtin; refine wpl_append rfl _ _ 27 rfl elemT_27 (B7 + 1) rfl (D5.ext EA) (news := [[.int .i64 qn]]) rfl rfl hs1 (one_ints [qn]) (by simp; omega) (by decide) b6 ?_; intro v6 W6 D6 hg6; obtain ⟨a6, n6, c6, rfl⟩ := D6.form'; have Bn7 := Bn6.grown hg6 (own_ne_blk (D5.ext EA) Bn6 (by decide)); have nb7 := nb6.grown hg6 (own_ne_blk (D5.ext EA) nb6 (by decide)); have k1 := Bn7.cell (i := 1) rfl; have k2 := nb7.cell (i := 0) rfl; have k3 := nb7.cell (i := 1) rfl; have k4 := nb7.cell (i := 2) rfl; have k5 := nb7.cell (i := 3) rfl; have P7 := P6.grown hg6 (own_ne P6 (D5.ext EA) (by decide)); have B27 := B26.grown hg6 (own_ne_blk (D5.ext EA) B26 (by decide)); have E7 : Ext w1 W6 := E6.below.grown hg6 (by have := E6.size; omega) (fun j hj => by have := ((D5.ext EA).base_le _ hj).1; omega); have b67 : B7 + 1 ≤ W6.heap.size := Nat.le_trans b6 hg6.size; have EB := (Ext.refl W6).alloc (.cells #[.int .i64 qn, .int .i64 qh, .int .i64 qg, .int .i64 3] 40); have hs2 := slc_new (Blk.new W6 [.int .i64 qn, .int .i64 qh, .int .i64 qg, .int .i64 3].toArray 40); have u0 := EB.cell (Bn7.cell (i := 1) rfl); have b7' : B7 + 1 ≤ (W6.alloc (.cells #[.int .i64 qn, .int .i64 qh, .int .i64 qg, .int .i64 3] 40)).heap.size := Nat.le_trans (by assumption) EB.size; have P8 := P7.ext EB; have D8 := D6.ext EB; have B8 := EB.blk Bn7; have B28 := EB.blk B27; have E8 := E7.trans EB) | (at_builtin; refine wpl_append rfl _ _ 22 rfl elemT_22 (B7 + 1) rfl P8 (news := [[.int .i64 qn, .int .i64 qh, .int .i64 qg, .int .i64 3]]) rfl rfl hs2 (by simp [Value.oneCell']) (by simp only [List.length_cons, List.length_nil]; omega) (by decide) b7' ?_; intro v9 W9 P9 hg9; obtain ⟨a9, n9, c9, rfl⟩ := P9.form'; have B9 := B8.grown hg9 (own_ne_blk P8 B8 (by decide)); have B29 := B28.grown hg9 (own_ne_blk P8 B28 (by decide)); have v1 := B9.cell (i := 1) rfl; have v2 := B9.free 1))
              have D9 := D8.grown hg9 (own_ne D8 P8 (by decide))
              have E9 : Ext w1 W9 := E8.below.grown hg9 (by have := E8.size; omega) (fun j hj => by have := (P8.base_le _ hj).1; omega)
              have fin : RefR w1 w.heap.size B7 (B7 + 1) now (now + ticks) (.slice (some ⟨pb, po, none⟩) l.length c) l (k + 1) (.slice a6 n6 c6) (W9.setCell ⟨B7, 1, none⟩ (.slice a9 n9 c9)) := by
                refine ⟨.slice a9 n9 c9, B29.other (by dsimp only; omega) _, B9.set 1 _, ?_, ?_, E9.setC (by dsimp only; omega) _, by have := hg9.size; simp; omega⟩
                · rw [downOf_next Hp1.out]
                  obtain ⟨g1, g2⟩ := down_yes Hq.out hps
                  rw [if_pos g1]
                  have g2 : qn = pn := g2
                  rw [show encI (downOf (now + ticks) (l.take k) ++ [pn]) = encI (downOf (now + ticks) (l.take k)) ++ [[.int .i64 qn]] from by simp [encI, g2]]
                  exact own_far' D9 (by omega) 1 (.slice a9 n9 c9)
                · rw [List.take_add_one, Hp1.out]
                  simp only [Option.toList_some, List.map_append, List.map_cons, List.map_nil, Hq.out]
                  exact own_far' P9 (by omega) 1 (.slice a9 n9 c9)
              have Fin := Lib.hid fin
              clear fin
              go_wp2
              go_roundw
              case rel => exact ⟨k + 1, by omega, by go_num, Fin.out⟩
              case measure => simp [intOf]; omega
            · by_cases hq3 : qs = 3
              · subst hq3
                have hp3 : ps = 3 := by
                  rcases Int.decEq ps 3 with h | h
                  · exact absurd ⟨rfl, h⟩ hdown
                  · exact h
                subst hp3
                have EB := (Ext.refl W5).alloc (.cells #[.int .i64 qn, .int .i64 qh, .int .i64 qg, .int .i64 3] 40)
                have hs2 := slc_new (Blk.new W5 [.int .i64 qn, .int .i64 qh, .int .i64 qg, .int .i64 3].toArray 40)
                have u0 := EB.cell (Bn.cell (i := 1) rfl)
                have b7' : B7 + 1 ≤ (W5.alloc (.cells #[.int .i64 qn, .int .i64 qh, .int .i64 qg, .int .i64 3] 40)).heap.size := Nat.le_trans (by assumption) EB.size
                have P8 := P5.ext EB
                have D8 := D5.ext EB
                have B8 := EB.blk Bn
                have B28 := EB.blk B2
                have E8 := E5.trans EB
                go_wp2_with (at_builtin; refine wpl_append rfl _ _ 22 rfl elemT_22 (B7 + 1) rfl P8 (news := [[.int .i64 qn, .int .i64 qh, .int .i64 qg, .int .i64 3]]) rfl rfl hs2 (by simp [Value.oneCell']) (by simp only [List.length_cons, List.length_nil]; omega) (by decide) b7' ?_; intro v9 W9 P9 hg9; obtain ⟨a9, n9, c9, rfl⟩ := P9.form'; have B9 := B8.grown hg9 (own_ne_blk P8 B8 (by decide)); have B29 := B28.grown hg9 (own_ne_blk P8 B28 (by decide)); have v1 := B9.cell (i := 1) rfl; have v2 := B9.free 1)
                have D9 := D8.grown hg9 (own_ne D8 P8 (by decide))
                have E9 : Ext w1 W9 := E8.below.grown hg9 (by have := E8.size; omega) (fun j hj => by have := (P8.base_le _ hj).1; omega)
                have fin : RefR w1 w.heap.size B7 (B7 + 1) now (now + ticks) (.slice (some ⟨pb, po, none⟩) l.length c) l (k + 1) (.slice vda vdn vdc) (W9.setCell ⟨B7, 1, none⟩ (.slice a9 n9 c9)) := by
                  refine ⟨.slice a9 n9 c9, B29.other (by dsimp only; omega) _, B9.set 1 _, ?_, ?_, E9.setC (by dsimp only; omega) _, by have := hg9.size; simp; omega⟩
                  · rw [downOf_next Hp1.out]
                    rw [if_neg (by rw [down_no Hq.out (fun h => h.2 rfl)]; decide), List.append_nil]
                    exact own_far' D9 (by omega) 1 (.slice a9 n9 c9)
                  · rw [List.take_add_one, Hp1.out]
                    simp only [Option.toList_some, List.map_append, List.map_cons, List.map_nil, Hq.out]
                    exact own_far' P9 (by omega) 1 (.slice a9 n9 c9)
                have Fin := Lib.hid fin
                clear fin
                go_wp2
                go_roundw
                case rel => exact ⟨k + 1, by omega, by go_num, Fin.out⟩
                case measure => simp [intOf]; omega
              · have hq3' : (qs == 3) = false := by simpa using hq3
                have EB := (Ext.refl W5).alloc (.cells #[.int .i64 qn, .int .i64 qh, .int .i64 qg, .int .i64 qs] 40)
                have hs2 := slc_new (Blk.new W5 [.int .i64 qn, .int .i64 qh, .int .i64 qg, .int .i64 qs].toArray 40)
                have u0 := EB.cell (Bn.cell (i := 1) rfl)
                have b7' : B7 + 1 ≤ (W5.alloc (.cells #[.int .i64 qn, .int .i64 qh, .int .i64 qg, .int .i64 qs] 40)).heap.size := Nat.le_trans (by assumption) EB.size
                have P8 := P5.ext EB
                have D8 := D5.ext EB
                have B8 := EB.blk Bn
                have B28 := EB.blk B2
                have E8 := E5.trans EB
                go_wp2_with (at_builtin; refine wpl_append rfl _ _ 22 rfl elemT_22 (B7 + 1) rfl P8 (news := [[.int .i64 qn, .int .i64 qh, .int .i64 qg, .int .i64 qs]]) rfl rfl hs2 (by simp [Value.oneCell']) (by simp only [List.length_cons, List.length_nil]; omega) (by decide) b7' ?_; intro v9 W9 P9 hg9; obtain ⟨a9, n9, c9, rfl⟩ := P9.form'; have B9 := B8.grown hg9 (own_ne_blk P8 B8 (by decide)); have B29 := B28.grown hg9 (own_ne_blk P8 B28 (by decide)); have v1 := B9.cell (i := 1) rfl; have v2 := B9.free 1)
                have D9 := D8.grown hg9 (own_ne D8 P8 (by decide))
                have E9 : Ext w1 W9 := E8.below.grown hg9 (by have := E8.size; omega) (fun j hj => by have := (P8.base_le _ hj).1; omega)
                have fin : RefR w1 w.heap.size B7 (B7 + 1) now (now + ticks) (.slice (some ⟨pb, po, none⟩) l.length c) l (k + 1) (.slice vda vdn vdc) (W9.setCell ⟨B7, 1, none⟩ (.slice a9 n9 c9)) := by
                  refine ⟨.slice a9 n9 c9, B29.other (by dsimp only; omega) _, B9.set 1 _, ?_, ?_, E9.setC (by dsimp only; omega) _, by have := hg9.size; simp; omega⟩
                  · rw [downOf_next Hp1.out]
                    rw [if_neg (by rw [down_no Hq.out (fun h => hq3 h.1)]; decide), List.append_nil]
                    exact own_far' D9 (by omega) 1 (.slice a9 n9 c9)
                  · rw [List.take_add_one, Hp1.out]
                    simp only [Option.toList_some, List.map_append, List.map_cons, List.map_nil, Hq.out]
                    exact own_far' P9 (by omega) 1 (.slice a9 n9 c9)
                have Fin := Lib.hid fin
                clear fin
                go_wp2
                go_roundw
                case rel => exact ⟨k + 1, by omega, by go_num, Fin.out⟩
                case measure => simp [intOf]; omega
        · have hkl : k = l.length := by omega
          subst hkl
          rw [List.take_length] at qd qp
          obtain ⟨vda, vdn, vdc, rfl⟩ := qd.form'
          obtain ⟨vpa, vpn, vpc, rfl⟩ := qp.form'
          have b4 := qE.blk b4
          have y0 := b4.cell (i := 0) rfl
          have y1 := b4.cell (i := 1) rfl
          have f0 := b4.free 0
          have f1 := b4.free 1
          have c71 := q7.cell (i := 1) rfl
          have hltI : ¬ (l.length : Int) < l.length := by omega
          have hvpn : vpn = l.length := by obtain ⟨_, _, h, _⟩ := qp.form; injection h with _ h _; simpa using h
          subst hvpn
          have b9 := (b4.set 0 (.int .i64 (now + ticks))).set 1 (.slice vpa l.length vpc)
          have O9 := own_far' (own_far' qp (b := w.heap.size + 1) (by omega) 0 (.int .i64 (now + ticks))) (b := w.heap.size + 1) (by omega) 1 (.slice vpa l.length vpc)
          have D9 := own_far' (own_far' qd (b := w.heap.size + 1) (by omega) 0 (.int .i64 (now + ticks))) (b := w.heap.size + 1) (by omega) 1 (.slice vpa l.length vpc)
          have E9 := ((E1.trans qE).setC (p := ⟨w.heap.size + 1, 0, none⟩) (by dsimp only; omega) (.int .i64 (now + ticks))).setC (p := ⟨w.heap.size + 1, 1, none⟩) (by dsimp only; omega) (.slice vpa l.length vpc)
          have hw : WtV (((wr.setCell ⟨w.heap.size + 1, 0, none⟩ (.int .i64 (now + ticks))).setCell ⟨w.heap.size + 1, 1, none⟩ (.slice vpa l.length vpc))) (.agg #[.int .i64 (now + ticks), .slice vpa l.length vpc]) (now + ticks) (l.map (later (now + ticks))) := by
            have := wtv_own (now := now + ticks) (l := l.map (later (now + ticks))) (a := vpa) (c := vpc) (by rw [List.length_map]; exact O9)
            rwa [List.length_map] at this
          have Done := Lib.hid (Hp.out _ _ _ hw (sli_own D9) E9)
          go_wp2
          exact ⟨rfl, .tuple #[.agg #[.int .i64 (now + ticks), .slice vpa l.length vpc], .slice vda vdn vdc, .int .i64 0], by simp [results, Try.f11, go_sem, b9.cell (i := 0) rfl, b9.cell (i := 1) rfl], Done.out⟩
  · rw [checkB_false hP]
    have Hp := Lib.hid (Post.out 390 0 [] [] (by unfold passP; rw [if_pos hP]))
    have b9 := (b4.set 0 (.int .i64 0)).set 1 (.slice none 0 0)
    have E9 := (E1.setC (p := ⟨w.heap.size + 1, 0, none⟩) (by dsimp only; omega) (.int .i64 0)).setC (p := ⟨w.heap.size + 1, 1, none⟩) (by dsimp only; omega) (.slice none 0 0)
    have done := Hp.out _ _ _ ⟨none, 0, rfl, SlC.nil _ _ _, Nat.le_refl _, Nat.zero_le _⟩ ⟨none, 0, rfl, SlC.nil _ _ _, Nat.le_refl _, Nat.zero_le _⟩ E9
    have Done := Lib.hid done
    clear done Hp Post hP
    go_wp2
    exact ⟨rfl, .tuple #[.agg #[.int .i64 0, .slice none 0 0], .slice none 0 0, .int .i64 390], by simp [results, Try.f11, go_sem, b9.cell (i := 0) rfl, b9.cell (i := 1) rfl], Done.out⟩
end Go.Proofs.Ytabadcnpmfafnaa
