/- Part B2 of the proofs of these statements. No condition. -/
import Derived.Test.YtabadcnpmfafnaaB1
set_option linter.unusedVariables false
set_option linter.unusedSimpArgs false
namespace Go.Proofs.Ytabadcnpmfafnaa
open Go Go.RowKit J

set_option maxHeartbeats 1000000 in
theorem check_any (now : Int) (a : Option Addr) (c : Nat) (l : List Pu) (w : World) (hn : I64 now) (hl : ∀ p ∈ l, p.ok) (hs : SlC w 4 a (l.map Pu.enc)) (hlen : l.length ≤ maxLen) :
    Calls Try.prog 22 #[.agg #[.int .i64 now, .slice a l.length c]] w fun e w' => e = .returned (.int .i64 (checkE now l)) ∧ Ext w w' := by
  unfold maxLen at hlen
  by_cases h0 : now < 0 ∨ 1099511627776 < now
  · have e : checkE now l = 390 := if_neg (fun h => by have := h.1; have := h.2.1; omega)
    rw [e]
    by_cases h1 : now < 0
    · go_enter Try.func22, Try.ntmps22
      go_wp2
      go_ret
      exact ⟨rfl, by repeat (first | exact Ext.refl _ | assumption | apply Ext.alloc | apply Ext.drewN | apply Ext.drew)⟩
    · have h2 : 1099511627776 < now := by omega
      go_enter Try.func22, Try.ntmps22
      go_wp2
      go_ret
      exact ⟨rfl, by repeat (first | exact Ext.refl _ | assumption | apply Ext.alloc | apply Ext.drewN | apply Ext.drew)⟩
  have h1 : 0 ≤ now := by omega
  have h2 : now ≤ 1099511627776 := by omega
  have b0 := Blk.new w #[.int .i64 now, .slice a l.length c] 24
  have E0 := (Ext.refl w).alloc (.cells #[.int .i64 now, .slice a l.length c] 24)
  go_enter Try.func22, Try.ntmps22
  go_wp2
  generalize w.alloc (.cells #[.int .i64 now, .slice a l.length c] 24) = W0 at *
  go_loopw [3, 4, 16] (fun _ _ u wr => ∃ k : Nat, k ≤ l.length ∧ u = .int .i64 k ∧ Ext W0 wr ∧ ∀ i, i < k → GoodAt now l i) (fun _ _ u _ => l.length - (intOf u).toNat)
  case atStart => exact ⟨0, Nat.zero_le _, rfl, Ext.refl _, fun i hi => by omega⟩
  case round =>
    obtain ⟨k, hk, rfl, hE, hgood⟩ := hrel
    have c0 := (hE.blk b0).cell (i := 0) rfl
    have c1 := (hE.blk b0).cell (i := 1) rfl
    by_cases hlt : k < l.length
    · obtain ⟨p, hp⟩ : ∃ p, l[k]? = some p := ⟨l[k], List.getElem?_eq_getElem hlt⟩
      have hpd := getD_of hp
      obtain ⟨pb, po, rfl, q0, q1, q2, q3⟩ := slc_pu (hs.ext (E0.trans hE)) hp
      have hok := (hl p (List.mem_of_getElem? hp)).2.1
      go_wp2
      have E1 : Ext W0 (wr.alloc (.cells #[.int .i64 p.n, .int .i64 p.h, .int .i64 p.g, .int .i64 p.s] 40)) := hE.alloc _
      have bN := Blk.new wr #[.int .i64 p.n, .int .i64 p.h, .int .i64 p.g, .int .i64 p.s] 40
      have hs1 := hs.ext (E0.trans E1)
      generalize hNb : wr.heap.size = nb at *
      generalize wr.alloc (.cells #[.int .i64 p.n, .int .i64 p.h, .int .i64 p.g, .int .i64 p.s] 40) = W1 at *
      have g0 := cell_gw ((E1.blk b0).cell (i := 0) rfl)
      have g1 := cell_gw ((E1.blk b0).cell (i := 1) rfl)
      have n0 := cell_gw (bN.cell (i := 0) rfl)
      have n1 := cell_gw (bN.cell (i := 1) rfl)
      have n2 := cell_gw (bN.cell (i := 2) rfl)
      have n3 := cell_gw (bN.cell (i := 3) rfl)
      cases hr : rightB now p
      · have e : checkE now l = 390 := if_neg (fun h => by
          have := (h.2.2 k hlt).1
          rw [hpd] at this
          rw [rightB_true this] at hr; cases hr)
        have H := Lib.hid e
        clear e
        refine wp_region_gw (by kernel_rfl) (by kernel_rfl) ?_
        repeat (first | go_big_quiet_step ((go_at_call 43; exact cgw (right_v now p.n p.h p.g p.s false _ h1 h2 hok hr))) | quiet_step ((go_at_call 43; exact cgw (right_v now p.n p.h p.g p.s false _ h1 h2 hok hr))) | (refine wpQuiet_step (fun K hK => ?_); go_simp; split <;> (refine hK _ ?_; clear hK K)))
        all_goals (refine wpQuiet_nil ?_; intro wq hwq; have eq_ := ext_of_gw hwq; clear hwq)
        go_wp2
        go_ret
        exact ⟨ret_int H.out.symm, (E0.trans E1).trans eq_⟩
      · have hrp : RightP now p := rightB_iff.1 hr
        cases k with
        | zero =>
          refine wp_region_gw (by kernel_rfl) (by kernel_rfl) ?_
          repeat (first | go_big_quiet_step ((go_at_call 43; exact cgw (right_v now p.n p.h p.g p.s true _ h1 h2 hok hr))) | quiet_step ((go_at_call 43; exact cgw (right_v now p.n p.h p.g p.s true _ h1 h2 hok hr))) | (refine wpQuiet_step (fun K hK => ?_); go_simp; split <;> (refine hK _ ?_; clear hK K)))
          all_goals (refine wpQuiet_nil ?_; intro wq hwq; have eq_ := ext_of_gw hwq; clear hwq)
          go_wp2
          go_roundw
          case rel =>
            refine ⟨1, by omega, by go_num, E1.trans eq_, fun i hi => ?_⟩
            obtain rfl : i = 0 := by omega
            exact ⟨by rw [hpd]; exact hrp, fun h => absurd h (by omega)⟩
          case measure => simp [intOf]; omega
        | succ j =>
          obtain ⟨q, hq⟩ : ∃ q, l[j]? = some q := ⟨l[j], List.getElem?_eq_getElem (by omega)⟩
          have hqd := getD_of hq
          obtain ⟨_, _, hqe, r0, _⟩ := slc_pu hs1 hq
          cases hqe
          have m0 := cell_gw r0
          have hjl : (j : Int) < l.length := by omega
          by_cases hle : p.n ≤ q.n
          · have e : checkE now l = 390 := if_neg (fun h => by
              have := (h.2.2 (j + 1) hlt).2 (by omega)
              rw [hpd, Nat.add_sub_cancel, hqd] at this
              omega)
            have H := Lib.hid e
            clear e
            refine wp_region_gw (by kernel_rfl) (by kernel_rfl) ?_
            repeat (first | go_big_quiet_step ((go_at_call 43; exact cgw (right_v now p.n p.h p.g p.s true _ h1 h2 hok hr))) | quiet_step ((go_at_call 43; exact cgw (right_v now p.n p.h p.g p.s true _ h1 h2 hok hr))) | (refine wpQuiet_step (fun K hK => ?_); go_simp; split <;> (refine hK _ ?_; clear hK K)))
            all_goals (refine wpQuiet_nil ?_; intro wq hwq; have eq_ := ext_of_gw hwq; clear hwq)
            go_wp2
            go_ret
            exact ⟨ret_int H.out.symm, (E0.trans E1).trans eq_⟩
          · have hle' : ¬ (q.n ≥ p.n) := by omega
            refine wp_region_gw (by kernel_rfl) (by kernel_rfl) ?_
            repeat (first | go_big_quiet_step ((go_at_call 43; exact cgw (right_v now p.n p.h p.g p.s true _ h1 h2 hok hr))) | quiet_step ((go_at_call 43; exact cgw (right_v now p.n p.h p.g p.s true _ h1 h2 hok hr))) | (refine wpQuiet_step (fun K hK => ?_); go_simp; split <;> (refine hK _ ?_; clear hK K)))
            all_goals (refine wpQuiet_nil ?_; intro wq hwq; have eq_ := ext_of_gw hwq; clear hwq)
            go_wp2
            go_roundw
            case rel =>
              refine ⟨j + 1 + 1, by omega, by go_num, E1.trans eq_, fun i hi => ?_⟩
              by_cases hij : i < j + 1
              · exact hgood i hij
              · obtain rfl : i = j + 1 := by omega
                exact ⟨by rw [hpd]; exact hrp, fun _ => by rw [hpd, Nat.add_sub_cancel, hqd]; omega⟩
            case measure => simp [intOf]; omega
    · have e : checkE now l = 0 := if_pos ⟨by omega, by omega, fun i hi => hgood i (by omega)⟩
      have H := Lib.hid e
      clear e
      go_wp2
      go_ret
      exact ⟨ret_int H.out.symm, E0.trans hE⟩
end Go.Proofs.Ytabadcnpmfafnaa
