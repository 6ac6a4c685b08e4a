/- Next, and beat's own Same. No condition. -/
import Derived.Test.YtabadcnpmfafnaaP2
set_option linter.unusedVariables false
set_option linter.unusedSimpArgs false
namespace Go.Proofs.Ytabadcnpmfafnaa
open Go Go.RowKit J

set_option maxRecDepth 20000 in
set_option maxHeartbeats 4000000 in
theorem next_any (now : Int) (a : Option Addr) (c : Nat) (l : List Pu) (w : World) (hn : I64 now) (hl : ∀ p ∈ l, p.ok) (hs : SlC w 4 a (l.map Pu.enc)) (hlen : l.length ≤ 100) :
    Calls Try.prog 24 #[.agg #[.int .i64 now, .slice a l.length c]] w fun e w' => e = .returned (.tuple #[.int .i64 (nextP now l).1, .bool (nextP now l).2]) ∧ Ext w w' := by
  have E0 := (Ext.refl w).alloc (.cells #[.int .i64 now, .slice a l.length c] 24)
  have b0 := Blk.new w #[.int .i64 now, .slice a l.length c] 24
  go_enter Try.func24, Try.ntmps24
  go_wp2_with fail
  generalize w.alloc (.cells #[.int .i64 now, .slice a l.length c] 24) = W0 at *
  refine (check_any now a c l W0 hn hl (hs.ext E0) (by unfold maxLen; omega)).mono ?_
  rintro _ w1 ⟨rfl, hE⟩
  have b1 := hE.blk b0
  have E1 := E0.trans hE
  have z1 := b1.cell (i := 1) rfl
  clear hE b0
  by_cases hP : CheckP now l
  · have hc : checkE now l = 0 := if_pos hP
    rw [hc]
    clear hc
    have hnow := hP.1
    have hnow2 := hP.2.1
    have HP := Lib.hid hP
    clear hP
    have Hf : Hid (nextP now l = nextL now l) := Lib.hid (by unfold nextP; rw [if_pos HP.out])
    go_wp2
    go_loopw [4, 5, 7, 8, 15] (fun u4 u5 _ _ u wr => ∃ k : Nat, k ≤ l.length ∧ u = .int .i64 k ∧ u4 = .int .i64 (nextL now (l.take k)).1 ∧ u5 = .bool (nextL now (l.take k)).2 ∧ Ext w1 wr) (fun _ _ _ _ u _ => l.length - (intOf u).toNat)
    case atStart => exact ⟨0, Nat.zero_le _, rfl, rfl, rfl, Ext.refl _⟩
    case round =>
      obtain ⟨k, hk, rfl, rfl, rfl, hE⟩ := hrel
      have y0 := (hE.blk b1).cell (i := 0) rfl
      have y1 := (hE.blk b1).cell (i := 1) rfl
      by_cases hlt : k < l.length
      · obtain ⟨p, hp⟩ : ∃ p, l[k]? = some p := ⟨l[k], List.getElem?_eq_getElem hlt⟩
        obtain ⟨pb, po, rfl, r0, r1, r2, r3⟩ := slc_pu (hs.ext (E1.trans hE)) hp
        have hrp := (HP.out.2.2 k hlt).1
        rw [getD_of hp] at hrp
        have hst : nextL now (l.take (k + 1)) = nextF now (nextL now (l.take k)) p := by rw [List.take_add_one, hp]; exact nextL_snoc _ _ _
        have Hst := Lib.hid hst
        clear hst
        obtain ⟨-, -, hh0, hh1, -⟩ := hrp
        obtain ⟨pn, ph, pg, ps⟩ := p
        dsimp only at hh0 hh1 r0 r1 r2 r3
        clear hp
        have hltI : (k : Int) < l.length := by omega
        generalize hS : nextL now (l.take k) = S at *
        obtain ⟨nx, th⟩ := S
        dsimp only
        have EB := hE.alloc (.cells #[.int .i64 pn, .int .i64 ph, .int .i64 pg, .int .i64 ps] 40)
        have HS := Lib.hid hS
        have y0a : (wr.alloc (.cells #[.int .i64 pn, .int .i64 ph, .int .i64 pg, .int .i64 ps] 40)).cell? ⟨w.heap.size, 0, none⟩ = some (.int .i64 now) := ((Ext.refl wr).alloc _).cell y0
        clear hS
        have b7 := Blk.new wr #[.int .i64 pn, .int .i64 ph, .int .i64 pg, .int .i64 ps] 40
        have hph : I64 ph := ⟨by omega, by omega⟩
        by_cases h9 : 9 < now - ph
        · have Hv : Hid (spanI now ph = 2) := Lib.hid (by unfold spanI; rw [if_neg (by omega), if_neg (by omega)])
          have Hr : Hid (nextL now (l.take (k + 1)) = (nx, th)) := Lib.hid (by rw [Hst.out]; unfold nextF; rw [if_pos h9])
          go_wp2_with (go_at_call 34; refine (span_v now pn ph pg ps 2 _ hnow hnow2 hph hh0 Hv.out).mono ?_; rintro _ w3 ⟨rfl, hE3⟩; have q1 := (hE3.blk b7).cell (i := 1) rfl; have EC := EB.trans hE3)
          go_roundw
          case rel => exact ⟨k + 1, by omega, by go_num, by rw [Hr.out], by rw [Hr.out], EC⟩
          case measure => simp [intOf]; omega
        · by_cases h4 : 4 < now - ph
          · have Hv : Hid (spanI now ph = 1) := Lib.hid (by unfold spanI; rw [if_neg (by omega), if_pos (by omega)])
            cases th
            · have Hr : Hid (nextL now (l.take (k + 1)) = (ph + 10, true)) := Lib.hid (by rw [Hst.out]; unfold nextF; rw [if_neg h9, if_pos (.inl rfl)]; simp [nextAt, h4])
              go_wp2_with (go_at_call 34; refine (span_v now pn ph pg ps 1 _ hnow hnow2 hph hh0 Hv.out).mono ?_; rintro _ w3 ⟨rfl, hE3⟩; have q1 := (hE3.blk b7).cell (i := 1) rfl; have EC := EB.trans hE3)
              go_roundw
              case rel => exact ⟨k + 1, by omega, by go_num, congrArg (Value.int .i64) (by rw [Hr.out]; dsimp only; try omega), by rw [Hr.out], EC⟩
              case measure => simp [intOf]; omega
            · by_cases hx : ph + 10 < nx
              · have Hr : Hid (nextL now (l.take (k + 1)) = (ph + 10, true)) := Lib.hid (by rw [Hst.out]; unfold nextF; rw [if_neg h9, if_pos (.inr (by simpa [nextAt, h4] using hx))]; simp [nextAt, h4])
                go_wp2_with (go_at_call 34; refine (span_v now pn ph pg ps 1 _ hnow hnow2 hph hh0 Hv.out).mono ?_; rintro _ w3 ⟨rfl, hE3⟩; have q1 := (hE3.blk b7).cell (i := 1) rfl; have EC := EB.trans hE3)
                go_roundw
                case rel => exact ⟨k + 1, by omega, by go_num, congrArg (Value.int .i64) (by rw [Hr.out]; dsimp only; try omega), by rw [Hr.out], EC⟩
                case measure => simp [intOf]; omega
              · have hx' : nx ≤ ph + 10 := by omega
                have Hr : Hid (nextL now (l.take (k + 1)) = (nx, true)) := Lib.hid (by rw [Hst.out]; unfold nextF; rw [if_neg h9, if_neg (by simp [nextAt, h4]; omega)])
                go_wp2_with (go_at_call 34; refine (span_v now pn ph pg ps 1 _ hnow hnow2 hph hh0 Hv.out).mono ?_; rintro _ w3 ⟨rfl, hE3⟩; have q1 := (hE3.blk b7).cell (i := 1) rfl; have EC := EB.trans hE3)
                go_roundw
                case rel => exact ⟨k + 1, by omega, by go_num, congrArg (Value.int .i64) (by rw [Hr.out]), by rw [Hr.out], EC⟩
                case measure => simp [intOf]; omega
          · have Hv : Hid (spanI now ph = 0) := Lib.hid (by unfold spanI; rw [if_pos (by omega)])
            cases th
            · have Hr : Hid (nextL now (l.take (k + 1)) = (ph + 5, true)) := Lib.hid (by rw [Hst.out]; unfold nextF; rw [if_neg h9, if_pos (.inl rfl)]; simp [nextAt, h4])
              go_wp2_with (go_at_call 34; refine (span_v now pn ph pg ps 0 _ hnow hnow2 hph hh0 Hv.out).mono ?_; rintro _ w3 ⟨rfl, hE3⟩; have q1 := (hE3.blk b7).cell (i := 1) rfl; have EC := EB.trans hE3)
              go_roundw
              case rel => exact ⟨k + 1, by omega, by go_num, congrArg (Value.int .i64) (by rw [Hr.out]; dsimp only; try omega), by rw [Hr.out], EC⟩
              case measure => simp [intOf]; omega
            · by_cases hx : ph + 5 < nx
              · have Hr : Hid (nextL now (l.take (k + 1)) = (ph + 5, true)) := Lib.hid (by rw [Hst.out]; unfold nextF; rw [if_neg h9, if_pos (.inr (by simpa [nextAt, h4] using hx))]; simp [nextAt, h4])
                go_wp2_with (go_at_call 34; refine (span_v now pn ph pg ps 0 _ hnow hnow2 hph hh0 Hv.out).mono ?_; rintro _ w3 ⟨rfl, hE3⟩; have q1 := (hE3.blk b7).cell (i := 1) rfl; have EC := EB.trans hE3)
                go_roundw
                case rel => exact ⟨k + 1, by omega, by go_num, congrArg (Value.int .i64) (by rw [Hr.out]; dsimp only; try omega), by rw [Hr.out], EC⟩
                case measure => simp [intOf]; omega
              · have hx' : nx ≤ ph + 5 := by omega
                have Hr : Hid (nextL now (l.take (k + 1)) = (nx, true)) := Lib.hid (by rw [Hst.out]; unfold nextF; rw [if_neg h9, if_neg (by simp [nextAt, h4]; omega)])
                go_wp2_with (go_at_call 34; refine (span_v now pn ph pg ps 0 _ hnow hnow2 hph hh0 Hv.out).mono ?_; rintro _ w3 ⟨rfl, hE3⟩; have q1 := (hE3.blk b7).cell (i := 1) rfl; have EC := EB.trans hE3)
                go_roundw
                case rel => exact ⟨k + 1, by omega, by go_num, congrArg (Value.int .i64) (by rw [Hr.out]), by rw [Hr.out], EC⟩
                case measure => simp [intOf]; omega
      · have hkl : k = l.length := by omega
        subst hkl
        have hltI : ¬ (l.length : Int) < l.length := by omega
        have Hf' : Hid (nextP now l = nextL now (l.take l.length)) := Lib.hid (by rw [Hf.out, List.take_length])
        go_wp2
        go_ret2
        exact ⟨by rw [Hf.out]; rfl, E1.trans hE⟩
  · have hc : checkE now l = 390 := if_neg hP
    rw [hc]
    have Hf : Hid (nextP now l = (0, false)) := Lib.hid (by unfold nextP; rw [if_neg hP])
    clear hc hP
    go_wp2
    go_ret2
    exact ⟨by rw [Hf.out]; rfl, E1⟩

set_option maxRecDepth 20000 in
set_option maxHeartbeats 2000000 in
theorem equal_eq (a a' : Option Addr) (c c' : Nat) (l : List Pu) (w : World) (hs : SlC w 4 a (l.map Pu.enc)) (hs' : SlC w 4 a' (l.map Pu.enc)) (hlen : l.length ≤ 1000) :
    Calls Try.prog 44 #[.slice a l.length c, .slice a' l.length c'] w fun e w' => e = .returned (.bool true) ∧ Ext w w' := by
  go_enter Try.func44, Try.ntmps44
  go_wp2
  go_loopw [5, 13] (fun _ u wr => ∃ k : Nat, k ≤ l.length ∧ u = .int .i64 k ∧ Ext w wr) (fun _ u _ => l.length - (intOf u).toNat)
  case atStart => exact ⟨0, Nat.zero_le _, rfl, Ext.refl _⟩
  case round =>
    obtain ⟨k, hk, rfl, hE⟩ := hrel
    by_cases hlt : k < l.length
    · obtain ⟨p, hp⟩ : ∃ p, l[k]? = some p := ⟨l[k], List.getElem?_eq_getElem hlt⟩
      obtain ⟨pb, po, rfl, r0, r1, r2, r3⟩ := slc_pu (hs.ext hE) hp
      obtain ⟨qb, qo, rfl, s0, s1, s2, s3⟩ := slc_pu (hs'.ext hE) hp
      have hltI : (k : Int) < l.length := by omega
      clear hp
      go_wp2
      go_quiet (fail)
      go_wp2
      go_roundw
      case rel => exact ⟨k + 1, by omega, by go_num, hE.drewN _⟩
      case measure => simp [intOf]; omega
    · have hltI : ¬ (k : Int) < l.length := by omega
      go_wp2
      go_ret
      exact ⟨rfl, hE⟩
set_option maxRecDepth 20000 in
set_option maxHeartbeats 2000000 in
theorem bsame_eq (now : Int) (a a' : Option Addr) (c c' : Nat) (l : List Pu) (w : World) (hs : SlC w 4 a (l.map Pu.enc)) (hs' : SlC w 4 a' (l.map Pu.enc)) (hlen : l.length ≤ 1000) :
    Calls Try.prog 23 #[.agg #[.int .i64 now, .slice a l.length c], .agg #[.int .i64 now, .slice a' l.length c']] w fun e w' => e = .returned (.bool true) ∧ Ext w w' := by
  have E0 := ((Ext.refl w).alloc (.cells #[.int .i64 now, .slice a l.length c] 24)).alloc (.cells #[.int .i64 now, .slice a' l.length c'] 24)
  go_enter Try.func23, Try.ntmps23
  go_wp2_with fail
  refine (equal_eq a a' c c' l _ (hs.ext E0) (hs'.ext E0) hlen).mono ?_
  rintro _ w1 ⟨rfl, hE⟩
  go_wp2
  go_ret
  exact ⟨rfl, E0.trans hE⟩
end Go.Proofs.Ytabadcnpmfafnaa
