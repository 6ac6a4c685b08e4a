/- Part R2 of the proofs of these statements. No condition. -/
import Derived.Test.YtabadcnpmfafnaaR1
set_option linter.unusedVariables false
set_option linter.unusedSimpArgs false
namespace Go.Proofs.Ytabadcnpmfafnaa
open Go Go.RowKit J

theorem rightpeer_v (now a b c d : Int) (v : Bool) (w : World) (hn0 : 0 ≤ now) (hn : now ≤ 1099511627776) (hb : I64 b) (h : rightB now ⟨a, b, c, d⟩ = v) :
    Calls Try.prog 42 #[.int .i64 now, .agg #[.int .i64 a, .int .i64 b, .int .i64 c, .int .i64 d]] w fun e w' => e = .returned (.bool v) ∧ Ext w w' := h ▸ rightpeer_any now a b c d w hn0 hn hb
/-- Eight numbers at most. -/
theorem CheckP.len {now : Int} {l : List Pu} (h : CheckP now l) : l.length ≤ 8 := by
  have key : ∀ i, i < l.length → (i : Int) + 1 ≤ (l.getD i default).n := by
    intro i
    induction i with
    | zero => intro hi; exact (h.2.2 0 hi).1.1
    | succ i ih =>
      intro hi
      have h1 := ih (by omega)
      have h2 := (h.2.2 (i + 1) hi).2 (by omega)
      rw [Nat.add_sub_cancel] at h2
      push_cast
      omega
  rcases Nat.lt_or_ge 8 l.length with h8 | h8
  · have h1 := key 8 h8
    have h2 := (h.2.2 8 h8).1.2.1
    omega
  · exact h8

def checkB (now : Int) (l : List Pu) : Bool := decide (CheckP now l)
theorem checkB_true {now : Int} {l : List Pu} (h : CheckP now l) : checkB now l = true := decide_eq_true h
theorem checkB_false {now : Int} {l : List Pu} (h : ¬ CheckP now l) : checkB now l = false := decide_eq_false h

set_option maxRecDepth 20000 in
set_option maxHeartbeats 4000000 in
theorem refright_any (now : Int) (a : Option Addr) (c : Nat) (l : List Pu) (w : World) (hn : I64 now) (hl : ∀ p ∈ l, p.ok) (hs : SlC w 4 a (l.map Pu.enc)) (hlen : l.length ≤ maxLen) :
    Calls Try.prog 17 #[.agg #[.int .i64 now, .slice a l.length c]] w fun e w' => e = .returned (.bool (checkB now l)) ∧ Ext w w' := by
  unfold maxLen at hlen
  unfold I64 at hn
  have bad : (now < 0 ∨ 1099511627776 < now ∨ 8 < l.length) → checkB now l = false := fun h => checkB_false (fun hc => by have := hc.len; have := hc.1; have := hc.2.1; omega)
  by_cases h0 : now < 0
  · have H := Lib.hid (bad (.inl h0))
    clear bad
    go_enter Try.func17, Try.ntmps17
    go_wp2
    go_ret
    exact ⟨ret_bool H.out.symm, by repeat (first | exact Ext.refl _ | assumption | apply Ext.alloc | apply Ext.drewN | apply Ext.drew)⟩
  by_cases h1 : 1099511627776 < now
  · have H := Lib.hid (bad (.inr (.inl h1)))
    clear bad
    go_enter Try.func17, Try.ntmps17
    go_wp2
    go_ret
    exact ⟨ret_bool H.out.symm, by repeat (first | exact Ext.refl _ | assumption | apply Ext.alloc | apply Ext.drewN | apply Ext.drew)⟩
  by_cases h2 : 8 < l.length
  · have H := Lib.hid (bad (.inr (.inr h2)))
    clear bad
    have h2' : (8 : Int) < l.length := by omega
    go_enter Try.func17, Try.ntmps17
    go_wp2
    go_ret
    exact ⟨ret_bool H.out.symm, by repeat (first | exact Ext.refl _ | assumption | apply Ext.alloc | apply Ext.drewN | apply Ext.drew)⟩
  have h0' : 0 ≤ now := by omega
  have h1' : now ≤ 1099511627776 := by omega
  have h2' : (l.length : Int) ≤ 8 := by omega
  clear bad
  have b0 := Blk.new w #[.int .i64 now, .slice a l.length c] 24
  have E0 := (Ext.refl w).alloc (.cells #[.int .i64 now, .slice a l.length c] 24)
  go_enter Try.func17, Try.ntmps17
  go_wp2
  generalize w.alloc (.cells #[.int .i64 now, .slice a l.length c] 24) = W0 at *
  go_loopw [3] (fun u wr => ∃ k : Nat, k ≤ l.length ∧ u = .int .i64 k ∧ Ext W0 wr ∧ ∀ i, i < k → GoodAt now l i) (fun u _ => l.length - (intOf u).toNat)
  case atStart => exact ⟨0, Nat.zero_le _, rfl, Ext.refl _, fun i hi => by omega⟩
  case round =>
    obtain ⟨k, hk, rfl, hE, hgood⟩ := hrel
    have c0 := (hE.blk b0).cell (i := 0) rfl
    have c1 := (hE.blk b0).cell (i := 1) rfl
    by_cases hlt : k < l.length
    · obtain ⟨p, hp⟩ : ∃ p, l[k]? = some p := ⟨l[k], List.getElem?_eq_getElem hlt⟩
      have hpd := getD_of hp
      have hsr := hs.ext (E0.trans hE)
      obtain ⟨pb, po, rfl, q0, q1, q2, q3⟩ := slc_pu hsr hp
      have hok := (hl p (List.mem_of_getElem? hp)).2.1
      have hltI : (k : Int) < l.length := by omega
      have g0 := cell_gw c0
      have g1 := cell_gw c1
      have n0 := cell_gw q0
      have n1 := cell_gw q1
      have n2 := cell_gw q2
      have n3 := cell_gw q3
      have Hgood := Lib.hid hgood
      have Hp := Lib.hid hp
      have Hpd := Lib.hid hpd
      clear hgood hp hpd
      cases hr : rightB now p
      · have H : Hid (checkB now l = false) := Lib.hid (checkB_false (fun h => by
          have := (h.2.2 k hlt).1
          rw [Hpd.out] at this
          rw [rightB_true this] at hr; cases hr))
        go_wp2
        refine wp_region_gw (by kernel_rfl) (by kernel_rfl) ?_
        repeat (first | go_big_quiet_step ((go_at_call 42; exact cgw (rightpeer_v now p.n p.h p.g p.s false _ h0' h1' hok hr))) | quiet_step ((go_at_call 42; exact cgw (rightpeer_v now p.n p.h p.g p.s false _ h0' h1' hok hr))) | (refine wpQuiet_step (fun K hK => ?_); go_simp; split <;> (refine hK _ ?_; clear hK K)))
        all_goals (refine wpQuiet_nil ?_; intro wq hwq; have eq_ := ext_of_gw hwq; clear hwq)
        go_wp2
        go_ret
        exact ⟨ret_bool H.out.symm, (E0.trans hE).trans eq_⟩
      · have hrp : RightP now p := rightB_iff.1 hr
        have Hrp := Lib.hid hrp
        clear hrp
        cases k with
        | zero =>
          simp only [Nat.zero_mul, Nat.add_zero] at n0 n1 n2 n3
          go_wp2
          refine wp_region_gw (by kernel_rfl) (by kernel_rfl) ?_
          repeat (first | go_big_quiet_step ((go_at_call 42; exact cgw (rightpeer_v now p.n p.h p.g p.s true _ h0' h1' hok hr))) | quiet_step ((go_at_call 42; exact cgw (rightpeer_v now p.n p.h p.g p.s true _ h0' h1' hok hr))) | (refine wpQuiet_step (fun K hK => ?_); go_simp; split <;> (refine hK _ ?_; clear hK K)))
          all_goals (refine wpQuiet_nil ?_; intro wq hwq; have eq_ := ext_of_gw hwq; clear hwq)
          go_wp2
          go_roundw
          case rel =>
            refine ⟨1, by omega, by go_num, hE.trans eq_, fun i hi => ?_⟩
            obtain rfl : i = 0 := by omega
            exact ⟨by rw [Hpd.out]; exact Hrp.out, fun h => absurd h (by omega)⟩
          case measure => simp [intOf]; omega
        | succ j =>
          obtain ⟨q, hq⟩ : ∃ q, l[j]? = some q := ⟨l[j], List.getElem?_eq_getElem (by omega)⟩
          have hqd := getD_of hq
          obtain ⟨_, _, hqe, r0, _⟩ := slc_pu hsr hq
          cases hqe
          have m0 := cell_gw r0
          have hjl : (j : Int) < l.length := by omega
          have Hq := Lib.hid hq
          have Hqd := Lib.hid hqd
          clear hq hqd
          have hki : (0 : Int) < ((j + 1 : Nat) : Int) := by omega
          by_cases hle : p.n ≤ q.n
          · have H : Hid (checkB now l = false) := Lib.hid (checkB_false (fun h => by
              have := (h.2.2 (j + 1) hlt).2 (by omega)
              rw [Hpd.out, Nat.add_sub_cancel, Hqd.out] at this
              omega))
            go_wp2
            refine wp_region_gw (by kernel_rfl) (by kernel_rfl) ?_
            repeat (first | go_big_quiet_step ((go_at_call 42; exact cgw (rightpeer_v now p.n p.h p.g p.s true _ h0' h1' hok hr))) | quiet_step ((go_at_call 42; exact cgw (rightpeer_v now p.n p.h p.g p.s true _ h0' h1' hok hr))) | (refine wpQuiet_step (fun K hK => ?_); go_simp; split <;> (refine hK _ ?_; clear hK K)))
            all_goals (refine wpQuiet_nil ?_; intro wq hwq; have eq_ := ext_of_gw hwq; clear hwq)
            go_wp2
            go_ret
            exact ⟨ret_bool H.out.symm, (E0.trans hE).trans eq_⟩
          · have hle' : ¬ (q.n ≥ p.n) := by omega
            go_wp2
            refine wp_region_gw (by kernel_rfl) (by kernel_rfl) ?_
            repeat (first | go_big_quiet_step ((go_at_call 42; exact cgw (rightpeer_v now p.n p.h p.g p.s true _ h0' h1' hok hr))) | quiet_step ((go_at_call 42; exact cgw (rightpeer_v now p.n p.h p.g p.s true _ h0' h1' hok hr))) | (refine wpQuiet_step (fun K hK => ?_); go_simp; split <;> (refine hK _ ?_; clear hK K)))
            all_goals (refine wpQuiet_nil ?_; intro wq hwq; have eq_ := ext_of_gw hwq; clear hwq)
            go_wp2
            go_roundw
            case rel =>
              refine ⟨j + 1 + 1, by omega, by go_num, hE.trans eq_, fun i hi => ?_⟩
              by_cases hij : i < j + 1
              · exact Hgood.out i hij
              · obtain rfl : i = j + 1 := by omega
                exact ⟨by rw [Hpd.out]; exact Hrp.out, fun _ => by rw [Hpd.out, Nat.add_sub_cancel, Hqd.out]; omega⟩
            case measure => simp [intOf]; omega
    · have H : Hid (checkB now l = true) := Lib.hid (checkB_true ⟨by omega, by omega, fun i hi => hgood i (by omega)⟩)
      have hltI : ¬ (k : Int) < l.length := by omega
      clear hgood
      go_wp2
      go_ret
      exact ⟨ret_bool H.out.symm, E0.trans hE⟩
end Go.Proofs.Ytabadcnpmfafnaa
