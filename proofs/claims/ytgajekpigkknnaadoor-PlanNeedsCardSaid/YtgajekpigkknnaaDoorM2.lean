/- Part 2 of the proofs of these statements. No condition. -/
import Derived.Test.YtgajekpigkknnaaDoorM1
set_option linter.unusedVariables false
set_option linter.unusedSimpArgs false
/- One operation of the evaluator is one of the model: stores, appends, copies. No condition. -/
namespace Go.Proofs.YtgajekpigkknnaaDoor.A
open Go
variable {U : Nat → Prop} {w w' : World} {Pr Pr' : Nat → Nat → Prop} {σ σ' : List Blk} {γ γ' : List Ghost} {ls : List Nat} {P : Program} {G : Nat → Option (List AV)}

theorem sing_flatten {α : Type} : ∀ l : List α, (l.map fun c => [c]).flatten = l
  | [] => rfl
  | c :: l => by rw [List.map_cons, List.flatten_cons, sing_flatten l]; rfl
/-- Cells of a list are written. -/
theorem lst_write (hI : Inv U w Pr σ γ) {id g k : Nat} {e : TypeId} {rows : List (List AV)} (hi : σ[id]? = some (.lst 0 g e k rows)) {gh : Ghost} (hg : γ[id]? = some gh) {b : Nat} (hb : blkOf gh.v = some b) (o : Nat) (cs : List AV) (us : List Value)
    (hr : RepL w Pr σ γ cs us) (h1 : ∀ u ∈ us, u.oneCell' = true) (hd : dataL cs = true) (rows' : List (List AV)) (hlen : rows'.length = rows.length) (hrk : ∀ r ∈ rows', r.length = k) (hfl : A.ovr rows.flatten o cs = some rows'.flatten) :
    ∃ w', (storeCells ⟨b, o, none⟩ us).run P w = .ok () w' ∧ Inv U w' Pr (σ.set id (.lst 0 g e k rows')) γ ∧ Keeps σ γ (σ.set id (.lst 0 g e k rows')) γ ∧ Evo U ls w Pr w' Pr := by
  obtain ⟨gh', vs, hg', hk, hrk0, hd0, hV, hR, ho⟩ := hI.lst id 0 g e k rows hi
  rw [hg] at hg'; cases hg'
  obtain ⟨hvl, ⟨_, a, hx⟩ | ⟨gb, c, cur, hx, hh, h12, h13, h14, h15⟩⟩ := hV
  · rw [hx] at hb; cases a <;> cases hb
  · rw [hx] at hb; cases hb
    obtain ⟨hol, hfe⟩ := ovr_inv hfl
    rw [flatten_length _ hrk0] at hol
    have hus : us.length = cs.length := hr.1
    have hnk : rows.length * k ≤ cur.size := by rw [h14]; exact Nat.mul_le_mul_right _ h12
    have hst := run_storeCells_at P gb o e us 0 cur w hh (by omega) h1
    simp only [Nat.add_zero] at hst
    have hR' := hR.ovr hr hfl
    have hvs' : us.length + o ≤ vs.length := by omega
    obtain ⟨h2, h3, h4⟩ := hI.setLst hi hg (b := gb) (by rw [hx]; rfl) rows' (vs.take o ++ us ++ vs.drop (o + us.length)) hlen hrk (by rw [hfe, dataL_append, dataL_append, dataL_take hd0, dataL_drop hd0, hd]; rfl) (by simp; omega) hR' (one_ovr ho h1 _ _) hh
    refine ⟨_, hst, ?_, h3, ?_⟩
    all_goals
      have hcells : cur.toList.take o ++ us ++ cur.toList.drop (o + us.length) = vs.take o ++ us ++ vs.drop (o + us.length) ++ cur.toList.drop (rows.length * k) := by
        rw [← h15, List.take_take, Nat.min_eq_left (by omega), List.append_assoc, List.append_assoc, List.append_assoc]
        congr 2
        rw [List.drop_take]
        conv => lhs; rw [← List.take_append_drop (rows.length * k - (o + us.length)) (cur.toList.drop (o + us.length))]
        rw [List.drop_drop, show o + us.length + (rows.length * k - (o + us.length)) = rows.length * k from by omega]
      rw [hcells]
    · exact h2
    · exact h4

theorem sizes {x : Value} {t : TypeId} {k : Nat} (hs : tsize P t = some k) (hx : x.cells.size = k) (b o : Nat) (w' : World) (h : (storeCells ⟨b, o, none⟩ x.cells.toList).run P w = .ok () w') :
    (storeVar t ⟨b, o, none⟩ x).run P w = .ok () w' := by
  simp [storeVar, run_sizeOf' hs, hx, h]

section
variable (hI : Inv U w Pr σ γ) (hG : GOk G w Pr) {T : Tm} {a : Act} (hT : TOk w Pr σ γ ls T a.tmps) {o : Oper} {s : Nat} {r : AV}
include hI hG hT

omit hG hT in
/-- A write of cells, told. -/
theorem store_core {t : TypeId} {k : Nat} {agg : Bool} {x y : Operand} {X : AV} {cs : List AV} {σ1 : List Blk} (hop : o.op = .store t x y) (hk : ksize P t = some (k, agg)) (h1 : Rep w Pr σ γ ls X (a.eval x)) (hsz : (a.eval y).cells.size = k) (hc1 : RepL w Pr σ γ cs (a.eval y).cells.toList) (hc2 : ∀ u ∈ (a.eval y).cells.toList, u.oneCell' = true)
    (hw : wrPtr σ X cs = some σ1) : OpRes P U ls w Pr σ γ o a (.tup []) σ1 := by
  have fin : ∀ b off w', a.eval x = .pointer (some ⟨b, off, none⟩) → (storeCells ⟨b, off, none⟩ (a.eval y).cells.toList).run P w = .ok () w' → (execOp a.eval o).run P w = .ok .skip w' := fun b off w' e hst => by
    unfold execOp
    simp [hop, e, Instr.storeAt, Instr.sureAddr, sizes (ksize_inv hk).1 hsz b off w' hst]
  generalize hv : a.eval x = v at h1
  unfold wrPtr at hw
  split at hw
  · rename_i id gen row off
    split at hw
    · rename_i e rr hi
      split at hw
      · rename_i hgr
        obtain ⟨rfl, rfl⟩ := hgr
        obtain ⟨r', ho, he⟩ := Option.map_eq_some_iff.1 hw
        cases he
        cases h1 with
        | ptrB id off lk e' row' gh h3 h4 =>
          rw [hi] at h3; cases h3
          obtain ⟨gh', cur, h5, h6, h7, h8⟩ := hI.box id 0 e rr hi
          rw [h4] at h5; cases h5
          obtain ⟨hb, _⟩ := ovr_inv ho
          have hcl : cur.size = rr.length := by have := h7.1; simpa using this
          have hst := run_storeCells_at P gh.b off e (a.eval y).cells.toList 0 cur w h6 (by rw [hc1.1]; omega) hc2
          simp only [Nat.add_zero] at hst
          obtain ⟨h9, h10, h11⟩ := hI.setBox hi h4 r' _ (h7.ovr hc1 ho) (one_ovr h8 hc2 _ _)
          exact ⟨.skip, undef, _, Pr, γ, fin _ _ _ hv hst, .inr ⟨rfl, rfl⟩, .tup [] [] rfl (fun i a v ha => by simp at ha), h9, h10, h11⟩
        | ptrOld id gen row off lk g e k rows b o h3 h4 => rw [hi] at h3; cases h3
        | ptrL id row off lk g e k rows gh gb h3 h4 h5 h6 => rw [hi] at h3; cases h3
      · cases hw
    · rename_i g e kk rows hi
      split at hw
      · rename_i hgr
        obtain ⟨rfl, hd⟩ := hgr
        split at hw
        · rename_i rr hrr
          obtain ⟨r', ho, he⟩ := Option.map_eq_some_iff.1 hw
          cases he
          cases h1 with
          | ptrB id off lk e' row' gh h3 h4 => rw [hi] at h3; cases h3
          | ptrOld id gen row off lk g' e k rows b o h3 h4 => rw [hi] at h3; cases h3; omega
          | ptrL id row off lk g' e' k' rows' gh gb h3 h4 h5 h6 =>
            rw [hi] at h3; cases h3
            obtain ⟨gh', vs, h7, h8, h9, h10, h11, h12, h13⟩ := hI.lst _ _ _ _ _ _ hi
            obtain ⟨hb, hr'⟩ := ovr_inv ho
            have hrl : rr.length = kk := h9 rr (List.mem_of_getElem? hrr)
            have hr'l : r'.length = kk := by rw [hr']; simp; omega
            have hlt := (List.getElem?_eq_some_iff.1 hrr).1
            have hik : row * kk + kk ≤ rows.length * kk := by rw [← Nat.succ_mul]; exact Nat.mul_le_mul_right _ hlt
            have hfl : A.ovr rows.flatten (row * kk + off) cs = some (rows.set row r').flatten := by
              have hrow := flatten_row h9 hrr
              unfold A.ovr
              rw [if_pos (by rw [flatten_length _ h9]; omega), flatten_set h9 hrr, hr', ← hrow]
              congr 1
              rw [List.take_take, Nat.min_eq_left (by omega), List.drop_take, List.drop_drop]
              have t1 : rows.flatten.take (row * kk + off) = rows.flatten.take (row * kk) ++ (rows.flatten.drop (row * kk)).take off := by rw [List.take_add]
              have t2 : rows.flatten.drop (row * kk + off + cs.length) = ((rows.flatten.drop (row * kk + (off + cs.length))).take (kk - (off + cs.length))) ++ rows.flatten.drop (row * kk + kk) := by
                rw [show row * kk + off + cs.length = row * kk + (off + cs.length) from by omega]
                conv => lhs; rw [← List.take_append_drop (kk - (off + cs.length)) (rows.flatten.drop (row * kk + (off + cs.length)))]
                rw [List.drop_drop, show row * kk + (off + cs.length) + (kk - (off + cs.length)) = row * kk + kk from by omega]
              rw [t1, t2]
              simp only [List.append_assoc]
            have hks : ∀ r ∈ rows.set row r', r.length = kk := fun r hr => by
              rcases List.mem_or_eq_of_mem_set hr with hr | rfl
              · exact h9 r hr
              · exact hr'l
            obtain ⟨w', h14, h15, h16, h17⟩ := lst_write (P := P) hI hi h4 h5 (row * kk + off) cs _ hc1 hc2 hd (rows.set row r') (by simp) hks hfl
            exact ⟨.skip, undef, _, Pr, γ, fin _ _ _ hv h14, .inr ⟨rfl, rfl⟩, .tup [] [] rfl (fun i a v ha => by simp at ha), h15, h16, h17⟩
        · cases hw
      · cases hw
    · cases hw
  · cases hw

theorem op_store {t : TypeId} {k : Nat} {agg : Bool} {x y : Operand} {x' y' : Opd} (hop : o.op = .store t x y) (hk : ksize P t = some (k, agg)) (hx : cOpd G x = some x') (hy : cOpd G y = some y') (h : aop (.store k x' y') s T σ = some (r, σ')) : OpRes P U ls w Pr σ γ o a r σ' := by
  have h1 := cOpd_rep hG hT hx
  have h2 := cOpd_rep hG hT hy
  simp only [aop] at h
  split at h
  · rename_i cs hcs
    split at h
    · rename_i hlen
      obtain ⟨hc1, hc2⟩ := cells_rep h2 hcs
      have hsz : (a.eval y).cells.size = k := by rw [← hlen, ← hc1.1]; simp
      obtain ⟨σ1, hw, he⟩ := Option.map_eq_some_iff.1 h
      cases he
      exact store_core hI hop hk h1 hsz hc1 hc2 hw
    · cases h
  · cases h

theorem op_storeF {t : TypeId} {k : Nat} {agg : Bool} {x y : Operand} {x' y' : Opd} (hop : o.op = .store t x y) (hk : ksize P t = some (k, agg)) (hx : cOpd G x = some x') (hy : cOpd G y = some y') (h : aop (.storeF k x' y') s T σ = some (r, σ')) : OpRes P U ls w Pr σ γ o a r σ' := by
  have h1 := cOpd_rep hG hT hx
  have h2 := cOpd_rep hG hT hy
  simp only [aop] at h
  split at h
  · rename_i cs hcs
    split at h
    · rename_i hlen
      obtain ⟨hc1, hc2⟩ := cells_rep h2 hcs
      have hsz : (a.eval y).cells.size = k := by rw [← hlen, ← hc1.1]; simp
      split at h
      · rename_i cs' bs' hd
        obtain ⟨σ1, hw, he⟩ := Option.map_eq_some_iff.1 h
        cases he
        obtain ⟨Pr1, h3, h4, h5, h6, _⟩ := toDataL_rep [] hI hc1 hd
        obtain ⟨x1, v1, w1, Pr2, γ1, h7, h8, h9, h10, h11, h12⟩ := store_core (a := a) h3 hop hk (h1.mono h5.stays h4 (fun _ _ h => h)) hsz h6 hc2 hw
        exact ⟨x1, v1, w1, Pr2, γ1, h7, h8, h9, h10, h4.trans h11, h5.trans h12⟩
      · cases h
    · cases h
  · cases h

omit hI hG hT in
theorem headFits_inv {k k' : Nat} {rows : List (List AV)} (hf : headFits k rows = true) (hr : ∀ r ∈ rows, r.length = k') : rows ≠ [] → k' = k := by
  intro hne
  cases rows with
  | nil => exact absurd rfl hne
  | cons r l => unfold headFits at hf; rw [← hr r (by simp)]; simpa using hf

omit hI hG hT in
theorem Evo.drewAlloc (hU : ∀ b, w.heap.size ≤ b → U b) (ob : Obj) : Evo U ls w Pr (w.drew.alloc ob) Pr :=
  (Evo.drew U ls w Pr).trans (Evo.alloc (w := w.drew) hU ob)

omit hG hT in
/-- The elements that are appended, as values. -/
theorem src_rows {y : AV} {v : Value} (hy : Rep w Pr σ γ ls y v) {ys : List (List AV)} (hr : rowsOf σ y = some ys) {k : Nat} (hf : headFits k ys = true) :
    ∃ base c news, v = .slice base ys.length c ∧ news.length = ys.length * k ∧ (ys ≠ [] → ∃ b off, base = some ⟨b, off, none⟩ ∧ ∀ j u, news[j]? = some u → w.cell? ((⟨b, off, none⟩ : Addr).add j) = some u) ∧ RepL w Pr σ γ ys.flatten news ∧ (∀ u ∈ news, u.oneCell' = true) ∧
      (∀ r ∈ ys, r.length = k) ∧ dataL ys.flatten = true := by
  obtain ⟨base, c, hv, hx⟩ := rowsOf_rep hI hy hr
  rcases hx with rfl | ⟨b, off, k', vs, rfl, hk, hrk, hd, hrg, hR⟩
  · exact ⟨base, c, [], hv, by simp, fun h => absurd rfl h, RepL.nil, fun _ h => (by cases h), fun _ h => (by cases h), rfl⟩
  · by_cases hne : ys = []
    · subst hne; exact ⟨_, c, [], hv, by simp, fun h => absurd rfl h, RepL.nil, fun _ h => (by cases h), fun _ h => (by cases h), rfl⟩
    · have hkk := headFits_inv hf hrk hne
      subst hkk
      exact ⟨_, c, vs, hv, by rw [hR.1, flatten_length _ hrk], fun _ => ⟨b, off, rfl, fun j u hj => by rw [Addr.add_mid]; exact hrg j u hj⟩, hR.anyData hd, hR.dataOne hd, hrk, hd⟩

omit hI hG hT in
/-- A list behind an append to a slice of n elements xs, in a new block. -/
theorem grown_lst {e : TypeId} {z : Value} {k n m : Nat} (hzs : z.cells.size = k) (xs news : List Value) (hx : xs.length = n * k) (hn : news.length = m * k) (old : Nat) (hm : 0 < n + m) (h63 : n + m ≤ 4611686018427387904) :
    LstV (w.drew.alloc (.cells (xs.toArray ++ news.toArray ++ Builtin.zeroCells z.cells (grownCap w (n + m) old e - (n + m))) e)) e k (.slice (some ⟨w.heap.size, 0, none⟩) (n + m) (grownCap w (n + m) old e)) (n + m) (xs ++ news) := by
  have hge := grownCap_ge w (n + m) old e
  have hcm := grownCap_le_maxLen w (n + m) old e (by unfold maxLen; omega)
  obtain ⟨c, hc⟩ : ∃ c, grownCap w (n + m) old e = c + 1 := ⟨grownCap w (n + m) old e - 1, by omega⟩
  refine ⟨by simp [hx, hn, Nat.add_mul], .inr ⟨w.heap.size, c, _, by rw [hc], World.alloc_heap_new w.drew _, by omega, by omega, ?_, ?_⟩⟩
  · simp only [Array.size_append, List.size_toArray, size_zeroCells, hzs, hx, hn, ← Nat.add_mul]
    congr 1; omega
  · simp only [Array.toList_append, List.append_assoc]
    rw [← List.append_assoc, show (n + m) * k = (xs ++ news).length from by simp [hx, hn, Nat.add_mul]]
    exact List.take_left

theorem op_append {c : Call} {t e : TypeId} {k bytes : Nat} {i : TypeInfo} {z : Value} {x y : Operand} {x' y' : Opd} (hop : o.op = .call c) (hc : c.callee = .builtin .append) (ha : c.args.toList = [x, y]) (hts : c.argTypes.toList = [t, t]) (ht : sliceEl P t = some (e, k))
    (hi : P.info? e = some i) (hz : i.zero = some z) (hzs : z.cells.size = k) (hby : i.bytes = bytes) (hx : cOpd G x = some x') (hy : cOpd G y = some y') (h : aop (.append e k bytes x' y') s T σ = some (r, σ')) : OpRes P U ls w Pr σ γ o a r σ' := by
  obtain ⟨hu, hsz, hk⟩ := sliceEl_inv ht
  have hik : i.size = k := by unfold tsize at hsz; rw [hi] at hsz; simpa using hsz
  have h1 := cOpd_rep hG hT hx
  have h2 := cOpd_rep hG hT hy
  simp only [aop] at h
  split at h
  case h_2 => cases h
  rename_i ys hys
  split at h
  case isFalse => cases h
  rename_i hf
  obtain ⟨baseY, cY, news, eY, hnl, hsrc, hRn, h1n, hrkY, hdY⟩ := src_rows hI h2 hys hf
  obtain ⟨cs, hrunB⟩ := run_builtin (P := P) (w := w) (a := a) hop hc
  have run0 : ∀ v w', (Builtin.append_ #[t, t] o.type #[a.eval x, a.eval y]).run P w = .ok v w' → (execOp a.eval o).run P w = .ok (.value v) w' := fun v w' hr => by
    rw [hrunB, toList_two ha, toList_two hts, show (#[x, y] : Array Operand).map a.eval = #[a.eval x, a.eval y] from by simp]
    show (do let q ← Builtin.append_ #[t, t] o.type #[a.eval x, a.eval y]; pure (Next.value q) : Sem Next).run P w = _
    rw [Sem.run_bind, hr]; rfl
  -- nothing is appended
  have none0 : ys = [] → ∀ base n, a.eval x = .slice base n n → (execOp a.eval o).run P w = .ok (.value (.slice base n n)) w := fun hy0 base n ex => by
    refine run0 _ _ ?_
    rw [ex, eY, hy0]
    have hf0 : (Builtin.firstCells k 0 (.slice baseY 0 cY)).run P w = .ok #[] w := by cases baseY <;> simp [Builtin.firstCells, loadCells, loadCellsFrom]
    cases base <;> simp [Builtin.append_, run_underlying hu, run_sizeOf' hsz, Builtin.lenOf, hf0, storeCells]
  -- no room
  have grow : ys ≠ [] → ∀ (base : Option Addr) (n cap : Nat) (xs : List Value), a.eval x = .slice base n cap → xs.length = n * k → (n ≠ 0 → ∃ b off, base = some ⟨b, off, none⟩ ∧ ∀ j u, xs[j]? = some u → w.cell? ((⟨b, off, none⟩ : Addr).add j) = some u) → cap < n + ys.length → (base = none → cap = 0) →
      (n + ys.length) * bytes ≤ 140737488355328 → n + ys.length ≤ 4611686018427387904 →
      (execOp a.eval o).run P w = .ok (.value (.slice (some ⟨w.heap.size, 0, none⟩) (n + ys.length) (grownCap w (n + ys.length) cap e))) (w.drew.alloc (.cells (xs.toArray ++ news.toArray ++ Builtin.zeroCells z.cells (grownCap w (n + ys.length) cap e - (n + ys.length))) e)) :=
    fun hne base n cap xs ex hxl hxs hcap hb0 hbb hll => by
      obtain ⟨by_, offY, rfl, hcY⟩ := hsrc hne
      have hm0 : 0 < ys.length := List.length_pos_iff.2 hne
      refine run0 _ _ ?_
      rw [ex, eY]
      cases base with
      | none =>
        have hc0 := hb0 rfl
        have hn0 : n = 0 := by
          by_cases hn : n = 0
          · exact hn
          · obtain ⟨_, _, hx, _⟩ := hxs hn; cases hx
        subst hn0; subst hc0
        have : xs = [] := List.eq_nil_of_length_eq_zero (by simpa using hxl)
        subst this
        have hr := run_append_nil (P := P) w t o.type e i z hu hi hz ⟨by_, offY, none⟩ ys.length cY news (by rw [hik]; exact hnl) hcY hm0 (by omega) (by rw [hby]; simp only [Nat.zero_add] at hbb; omega)
        simp only [Nat.zero_add] at hr ⊢
        rw [hr]; simp
      | some ad =>
        have holds : ∀ j u, xs[j]? = some u → w.cell? (ad.add j) = some u := fun j u hj => by
          by_cases hn : n = 0
          · subst hn
            have : xs = [] := List.eq_nil_of_length_eq_zero (by simpa using hxl)
            subst this; simp at hj
          · obtain ⟨b, off, hx, hh⟩ := hxs hn; cases hx; exact hh j u hj
        exact run_append_grow (P := P) w t o.type e i z hu hi hz ad n cap xs (by rw [hik]; exact hxl) holds ⟨by_, offY, none⟩ ys.length cY news (by rw [hik]; exact hnl) hcY hcap (by omega) (growslice_fits hcap (by rw [hby]; exact hbb))
  unfold aappend at h
  split at h
  · rename_i rows hX
    rw [hX] at h1
    split at h
    case isFalse => cases h
    rename_i hb
    obtain ⟨hbb, hll, hfr⟩ := hb
    -- what x is
    obtain ⟨base, xs, ex, hxl, hxs, hRx, h1x, hrkX, hdX⟩ : ∃ (base : Option Addr) (xs : List Value), a.eval x = .slice base rows.length rows.length ∧ xs.length = rows.length * k ∧ (rows.length ≠ 0 → ∃ b off, base = some ⟨b, off, none⟩ ∧ ∀ j u, xs[j]? = some u → w.cell? ((⟨b, off, none⟩ : Addr).add j) = some u) ∧
        RepL w Pr σ γ rows.flatten xs ∧ (∀ u ∈ xs, u.oneCell' = true) ∧ (∀ r ∈ rows, r.length = k) ∧ dataL rows.flatten = true := by
      obtain ⟨base, c', news', e1, e2, e3, e4, e5, e6, e7⟩ := src_rows hI h1 (by rfl : rowsOf σ (.clip rows) = some rows) hfr
      have : c' = rows.length := by
        rw [e1] at h1
        cases h1 with
        | clip rows a h => rfl
      subst this
      exact ⟨base, news', e1, e2, fun hn => e3 (by intro hr; rw [hr] at hn; exact hn rfl), e4, e5, e6, e7⟩
    split at h
    · obtain ⟨bs', hn, he⟩ := Option.map_eq_some_iff.1 h
      cases he
      obtain ⟨hd, rfl⟩ := newAt_inv hn
      have hls := (List.getElem?_eq_some_iff.1 hd).1
      by_cases hy0 : ys = []
      · subst hy0
        rename_i hor
        have hr0 : rows = [] := by rcases hor with h | h; exact h; exact absurd rfl h
        subst hr0
        have := none0 rfl base 0 ex
        obtain ⟨γ', h3, h4, h5⟩ := hI.nilLst hd e hk base
        exact ⟨_, _, w, Pr, γ', this, .inl rfl, h5, h3, h4, Evo.refl _ _ _ _⟩
      · have hm0 : 0 < ys.length := List.length_pos_iff.2 hy0
        have hrun := grow hy0 base rows.length rows.length xs ex hxl hxs (by omega) (fun hb => by
          by_cases hn : rows.length = 0
          · exact hn
          · obtain ⟨_, _, hx, _⟩ := hxs hn; rw [hb] at hx; cases hx) hbb hll
        have hE := Evo.drewAlloc (ls := []) (Pr := Pr) hI.new (.cells (xs.toArray ++ news.toArray ++ Builtin.zeroCells z.cells (grownCap w (rows.length + ys.length) rows.length e - (rows.length + ys.length))) e)
        have hV := grown_lst (w := w) (e := e) hzs xs news hxl hnl rows.length (by omega) hll
        have hge := grownCap_ge w (rows.length + ys.length) rows.length e
        have hlen : (rows ++ ys).length = rows.length + ys.length := by simp
        obtain ⟨h3, h4⟩ := hI.newLst hd hE (fun b hb => alloc_old w.drew _ hb) e k (rows ++ ys) _ (xs ++ news) hk (fun r hr => by rcases List.mem_append.1 hr with hr | hr; exact hrkX r hr; exact hrkY r hr)
          (by rw [List.flatten_append, dataL_append, hdX, hdY]; rfl) (by rw [hlen]; exact hV) (by rw [List.flatten_append]; exact hRx.append hRn) (fun u hu => by rcases List.mem_append.1 hu with hu | hu; exact h1x u hu; exact h1n u hu)
          (fun b hb => by
            obtain ⟨c, hc⟩ : ∃ c, grownCap w (rows.length + ys.length) rows.length e = c + 1 := ⟨_, (Nat.succ_pred_eq_of_pos (by omega)).symm⟩
            rw [hc] at hb; cases hb; exact Nat.le_refl _)
        refine ⟨_, _, _, Pr, _, hrun, .inl rfl, ?_, h3, h4, hE⟩
        refine .lis s 0 _ 0 0 e k (rows ++ ys) ⟨0, _⟩ _ (List.getElem?_set_self hls) (List.getElem?_set_self (by rw [hI.len]; exact hls)) (by rw [hlen]; omega) ?_
        exact ⟨_, _, _, rfl, .inl ⟨rfl, rfl, hge, fun _ => ⟨_, rfl⟩⟩⟩
    · rename_i hor
      cases h
      have hy0 : ys = [] := by
        by_cases hy : ys = []
        · exact hy
        · exact absurd (.inr hy) hor
      have := none0 hy0 base rows.length ex
      rw [ex] at h1
      rw [hX]
      exact .pure hI this h1
  · rename_i id gen off len hX
    rw [hX] at h1
    split at h
    case h_2 => cases h
    rename_i g e' k' rows hid
    split at h
    case isFalse => cases h
    rename_i hb
    obtain ⟨rfl, rfl, hlr, rfl, rfl, hbb, hll⟩ := hb
    cases h
    have hidl := (List.getElem?_eq_some_iff.1 hid).1
    obtain ⟨gh, vs, hg, hk', hrk, hd, hV, hR, hone⟩ := hI.lst id 0 g e' k' rows hid
    have hγl : id < γ.length := (List.getElem?_eq_some_iff.1 hg).1
    obtain ⟨hvl, hV⟩ := hV
    have hM : MutIs gh.v k' 0 len (a.eval x) := by
      generalize a.eval x = u at h1
      cases h1 with
      | lisOld id gen off len lk g2 e k rows u h3 h4 ho => rw [hid] at h3; cases h3; omega
      | lis id off len lk g2 e k rows gh2 u h3 h4 h5 h6 => rw [hid] at h3; cases h3; rw [hg] at h4; cases h4; exact h6
    obtain ⟨base, n, cap, hgv, ⟨_, ex, hlc, hbs⟩ | ⟨h0, _⟩⟩ := hM
    case inr => exact absurd h0 (Nat.lt_irrefl 0)
    have hrk2 : ∀ r ∈ rows.take len ++ ys, r.length = k' := fun r hr => by
      rcases List.mem_append.1 hr with hr | hr
      · exact hrk r (List.mem_of_mem_take hr)
      · exact hrkY r hr
    have hd2 : dataL (rows.take len ++ ys).flatten = true := by rw [List.flatten_append, dataL_append, hdY, flatten_take _ hrk, dataL_take hd]; rfl
    have hlen2 : (rows.take len ++ ys).length = len + ys.length := by simp; omega
    have hR2 : RepL w Pr σ γ (rows.take len ++ ys).flatten (vs.take (len * k') ++ news) := by rw [List.flatten_append, flatten_take _ hrk]; exact (hR.take _).append hRn
    have h12 : ∀ u ∈ vs.take (len * k') ++ news, u.oneCell' = true := fun u hu => by
      rcases List.mem_append.1 hu with hu | hu
      · exact hone u (List.mem_of_mem_take hu)
      · exact h1n u hu
    have hlk : len * k' ≤ rows.length * k' := Nat.mul_le_mul_right _ hlr
    have hxl : (vs.take (len * k')).length = len * k' := by simp; omega
    have fin : ∀ v' w', (execOp a.eval o).run P w = .ok (.value v') w' → Evo U [] w Pr w' Pr → (∀ b, b < w.heap.size → blkOf gh.v ≠ some b → w'.heap[b]? = w.heap[b]?) → (∀ b, blkOf v' = some b → blkOf gh.v = some b ∨ w.heap.size ≤ b) → LstV w' e' k' v' (len + ys.length) (vs.take (len * k') ++ news) →
        MutIs v' k' 0 (len + ys.length) v' → OpRes P U ls w Pr σ γ o a (.lis id (g + 1) 0 (len + ys.length)) (σ.set id (.lst 0 (g + 1) e' k' (rows.take len ++ ys))) := fun v' w' hrun hE hsame hblk hV' hM' => by
      obtain ⟨h3, h4⟩ := hI.growLst hid hg (rows.take len ++ ys) v' _ hE hsame hblk hrk2 hd2 (by rw [hlen2]; exact hV') hR2 h12
      refine ⟨_, _, w', Pr, _, hrun, .inl rfl, ?_, h3, h4, hE⟩
      exact .lis id 0 _ 0 (g + 1) e' k' _ ⟨0, v'⟩ _ (List.getElem?_set_self hidl) (List.getElem?_set_self hγl) (by rw [hlen2]; omega) hM'
    -- growth into a new block
    have growIt : ys ≠ [] → cap < len + ys.length → (base = none → cap = 0) → (len ≠ 0 → ∃ b off, base = some ⟨b, off, none⟩ ∧ ∀ j u, (vs.take (len * k'))[j]? = some u → w.cell? ((⟨b, off, none⟩ : Addr).add j) = some u) →
        OpRes P U ls w Pr σ γ o a (.lis id (g + 1) 0 (len + ys.length)) (σ.set id (.lst 0 (g + 1) e' k' (rows.take len ++ ys))) := fun hne hcap hb0 hxs => by
      have hm0 : 0 < ys.length := List.length_pos_iff.2 hne
      have hge := grownCap_ge w (len + ys.length) cap e'
      refine fin _ _ (grow hne base len cap _ ex hxl hxs hcap hb0 hbb hll) (Evo.drewAlloc hI.new _) (fun b hb _ => alloc_old w.drew _ hb) (fun b hb => ?_) (grown_lst (e := e') hzs _ news hxl hnl cap (by omega) hll) ?_
      · obtain ⟨c, hc⟩ : ∃ c, grownCap w (len + ys.length) cap e' = c + 1 := ⟨_, (Nat.succ_pred_eq_of_pos (by omega)).symm⟩
        rw [hc] at hb; cases hb; exact .inr (Nat.le_refl _)
      · exact ⟨_, _, _, rfl, .inl ⟨rfl, rfl, hge, fun _ => ⟨_, rfl⟩⟩⟩
    rcases hV with ⟨hn0, ad, hv0⟩ | ⟨gb, c, cur, hv, hh, hcl, hcm, hcs, htk⟩
    · rw [hv0] at hgv; cases hgv
      have hl0 : len = 0 := by omega
      subst hl0
      by_cases hy0 : ys = []
      · subst hy0
        refine fin _ w (none0 rfl base 0 ex) (Evo.refl _ _ _ _) (fun _ _ _ => rfl) (fun b hb => by cases base <;> cases hb) ⟨by simp [hxl, hnl], .inl ⟨rfl, base, rfl⟩⟩ ⟨base, 0, 0, rfl, .inl ⟨rfl, rfl, Nat.le_refl _, fun h => absurd rfl h⟩⟩
      · exact growIt hy0 (by have := List.length_pos_iff.2 hy0; omega) (fun _ => rfl) (fun h => absurd rfl h)
    · rw [hv] at hgv; cases hgv
      have hrg : ∀ j u, (vs.take (len * k'))[j]? = some u → w.cell? ((⟨gb, 0, none⟩ : Addr).add j) = some u := fun j u hj => by
        rw [Addr.add_mid]
        have := range_piece (range_cells hh) 0 (rows.length * k')
        rw [List.drop_zero, htk] at this
        rw [List.getElem?_take] at hj
        split at hj
        · exact this j u hj
        · cases hj
      by_cases hroom : len + ys.length ≤ c + 1
      · -- in place
        have hfit : len * k' + news.length ≤ cur.size := by rw [hnl, hcs, ← Nat.add_mul]; exact Nat.mul_le_mul_right _ hroom
        have hmem : memB σ γ id = some gb := by rw [memB_lst hid hg, hv]; rfl
        obtain ⟨hU, hP⟩ := hI.free id _ gb hid (fun h => by cases h) hmem
        have hrun : ∃ cur', (execOp a.eval o).run P w = .ok (.value (.slice (some ⟨gb, 0, none⟩) (len + ys.length) (c + 1))) (w.setRow gb cur') ∧ cur'.size = cur.size ∧ cur'.toList.take ((len + ys.length) * k') = vs.take (len * k') ++ news := by
          by_cases hy0 : ys = []
          · subst hy0
            have hn0 : news = [] := List.eq_nil_of_length_eq_zero (by simpa using hnl)
            subst hn0
            refine ⟨cur, ?_, rfl, ?_⟩
            · refine run0 _ _ ?_
              rw [ex, eY]
              have hf0 : (Builtin.firstCells k' 0 (.slice baseY 0 cY)).run P w = .ok #[] w := by cases baseY <;> simp [Builtin.firstCells, loadCells, loadCellsFrom]
              rw [setRow_self w gb cur e' (0, 0) hh]
              simp [Builtin.append_, run_underlying hu, run_sizeOf' hsz, Builtin.lenOf, hf0, storeCells, hlc]
            · simp only [List.length_nil, Nat.add_zero, List.append_nil]
              rw [← htk, List.take_take, Nat.min_eq_left hlk]
          · obtain ⟨by_, offY, rfl, hcY⟩ := hsrc hy0
            have hr := run_append_room (P := P) w t o.type e' i hu hi gb len (c + 1) cur hh ⟨by_, offY, none⟩ ys.length cY news (by rw [hik]; exact hnl) hcY h1n hroom (by rw [hik]; exact hfit)
            refine ⟨_, run0 _ _ (by rw [ex, eY]; exact hr), ?_, ?_⟩
            · rw [hik]; simp; omega
            · rw [hik, List.append_assoc]
              have h5 : (cur.toList.take (len * k') ++ news).length = (len + ys.length) * k' := by
                simp only [List.length_append, List.length_take, Array.length_toList, hnl, Nat.add_mul]; omega
              show List.take _ (List.take (len * k') cur.toList ++ (news ++ _)) = _
              rw [← List.append_assoc, ← h5, List.take_left, ← htk, List.take_take, Nat.min_eq_left hlk]
        obtain ⟨cur', hrun, hcs', htk'⟩ := hrun
        refine fin _ _ hrun (setRow_evo hh cur' hU hP) (fun b hb hne => setRow_other w gb b cur' (fun e => hne (by rw [e, hv]; rfl))) (fun b hb => by cases hb; exact .inl (by rw [hv]; rfl)) ?_ ?_
        · exact ⟨by simp only [List.length_append, hxl, hnl, Nat.add_mul], .inr ⟨gb, c, cur', rfl, setRow_heap w gb cur cur' e' (0, 0) hh, hroom, hcm, by rw [hcs', hcs], htk'⟩⟩
        · exact ⟨_, _, _, rfl, .inl ⟨rfl, rfl, hroom, fun _ => ⟨_, rfl⟩⟩⟩
      · have hy0 : ys ≠ [] := by
          intro hy; subst hy; simp at hroom; omega
        exact growIt hy0 (by omega) (fun h => by cases h) (fun _ => ⟨gb, 0, rfl, hrg⟩)
  · cases h

theorem op_copy {c : Call} {t t2 e : TypeId} {k : Nat} {x y : Operand} {x' y' : Opd} (hop : o.op = .call c) (hc : c.callee = .builtin .copy) (ha : c.args.toList = [x, y]) (hts : c.argTypes.toList = [t, t2]) (ht : sliceEl P t = some (e, k))
    (hx : cOpd G x = some x') (hy : cOpd G y = some y') (h : aop (.copy k x' y') s T σ = some (r, σ')) : OpRes P U ls w Pr σ γ o a r σ' := by
  obtain ⟨hu, hsz, hk⟩ := sliceEl_inv ht
  have h1 := cOpd_rep hG hT hx
  have h2 := cOpd_rep hG hT hy
  simp only [aop] at h
  split at h
  case h_2 => cases h
  rename_i id gen off len ys hX hys
  rw [hX] at h1
  split at h
  case h_2 => cases h
  rename_i g e' k' rows hid
  split at h
  case isFalse => cases h
  rename_i hb
  obtain ⟨rfl, hlr, rfl, hf⟩ := hb
  cases h
  obtain ⟨baseY, cY, news, eY, hnl, hsrc, hRn, h1n, hrkY, hdY⟩ := src_rows hI h2 hys hf
  obtain ⟨cs, hrunB⟩ := run_builtin (P := P) (w := w) (a := a) hop hc
  obtain ⟨n, hn⟩ : ∃ n, n = Nat.min ys.length len := ⟨_, rfl⟩
  rw [← hn]
  have hny : n ≤ ys.length := by rw [hn]; exact Nat.min_le_left _ _
  have hnlen : n ≤ len := by rw [hn]; exact Nat.min_le_right _ _
  have run0 : ∀ baseX cX w', a.eval x = .slice baseX len cX → (match baseX with | some ad => (storeCells ad (news.take (n * k'))) | none => pure ()).run P w = .ok () w' → (execOp a.eval o).run P w = .ok (.value (.int .i64 n)) w' := fun baseX cX w' ex hst => by
    rw [hrunB, toList_two ha, toList_two hts, show (#[x, y] : Array Operand).map a.eval = #[a.eval x, a.eval y] from by simp]
    show (do let q ← Builtin.copy_ #[t, t2] o.type #[a.eval x, a.eval y]; pure (Next.value q) : Sem Next).run P w = _
    rw [Sem.run_bind, ex, eY]
    have hf0 : (Builtin.firstCells k' n (.slice baseY ys.length cY)).run P w = .ok (news.take (n * k')).toArray w := by
      by_cases hy0 : ys = []
      · subst hy0
        have hn0 : n = 0 := by simpa using hny
        subst hn0
        cases baseY <;> simp [Builtin.firstCells, loadCells, loadCellsFrom]
      · obtain ⟨b, off', rfl, hcY⟩ := hsrc hy0
        refine run_firstCells_some w k' n _ _ _ _ ?_ (fun j v hj => ?_)
        · have : n * k' ≤ ys.length * k' := Nat.mul_le_mul_right _ hny
          simp; omega
        · rw [List.getElem?_take] at hj
          split at hj
          · exact hcY j v hj
          · cases hj
    cases baseX with
    | none => simp only [Sem.run_pure] at hst; cases hst; simp [Builtin.copy_, run_underlying hu, run_sizeOf' hsz, Builtin.lenOf, ← hn, hf0, goInt]
    | some ad => simp [Builtin.copy_, run_underlying hu, run_sizeOf' hsz, Builtin.lenOf, ← hn, hf0, goInt, hst]
  obtain ⟨gh, vs, hg, hk', hrk, hd, hV, hR, hone⟩ := hI.lst id 0 g e' k' rows hid
  have hM : MutIs gh.v k' off len (a.eval x) := by
    generalize a.eval x = u at h1
    cases h1 with
    | lisOld id gen off len lk g2 e k rows u h3 h4 ho => rw [hid] at h3; cases h3; omega
    | lis id off len lk g2 e k rows gh2 u h3 h4 h5 h6 => rw [hid] at h3; cases h3; rw [hg] at h4; cases h4; exact h6
  have hsame0 : n = 0 → rows.take off ++ ys.take n ++ rows.drop (off + n) = rows := fun h0 => by subst h0; simp
  by_cases h0 : n = 0
  · obtain ⟨base, cX, ex, _⟩ := hM.shape
    rw [hsame0 h0, set_self hid]
    refine .pure hI ?_ (.int _ _)
    refine run0 base cX w ex ?_
    subst h0
    cases base <;> simp [storeCells]
  · have hmem : ∃ gb, blkOf gh.v = some gb ∧ ∃ cX, a.eval x = .slice (some ⟨gb, off * k', none⟩) len cX := by
      obtain ⟨hvl, ⟨hr0, ad, hv0⟩ | ⟨gb, c, cur, hv, _⟩⟩ := hV
      · omega
      · refine ⟨gb, by rw [hv]; rfl, ?_⟩
        obtain ⟨base, n', cap, hgv, ⟨rfl, ex, _, _⟩ | ⟨_, c', ⟨hl0, a', ex⟩ | ⟨_, g2, hb2, ex⟩⟩⟩ := hM
        · rw [hv] at hgv; cases hgv; exact ⟨c + 1, by rw [ex]; simp⟩
        · omega
        · rw [hv] at hgv; cases hgv; cases hb2; exact ⟨_, ex⟩
    obtain ⟨gb, hb, cX, ex⟩ := hmem
    have hyl : (ys.take n).flatten = ys.flatten.take (n * k') := flatten_take _ hrkY n
    have hks : ∀ r ∈ rows.take off ++ ys.take n ++ rows.drop (off + n), r.length = k' := fun r hr => by
      simp only [List.mem_append] at hr
      rcases hr with (hr | hr) | hr
      · exact hrk r (List.mem_of_mem_take hr)
      · exact hrkY r (List.mem_of_mem_take hr)
      · exact hrk r (List.mem_of_mem_drop hr)
    have hlen' : (rows.take off ++ ys.take n ++ rows.drop (off + n)).length = rows.length := by simp; omega
    have hofs : off * k' + n * k' ≤ rows.length * k' := by rw [← Nat.add_mul]; exact Nat.mul_le_mul_right _ (by omega)
    have hyn : n * k' ≤ ys.length * k' := Nat.mul_le_mul_right _ hny
    have hfl : A.ovr rows.flatten (off * k') (ys.flatten.take (n * k')) = some (rows.take off ++ ys.take n ++ rows.drop (off + n)).flatten := by
      have hl : (ys.flatten.take (n * k')).length = n * k' := by rw [List.length_take, flatten_length _ hrkY]; omega
      unfold A.ovr
      rw [if_pos (by rw [hl, flatten_length _ hrk]; exact hofs), List.flatten_append, List.flatten_append, flatten_take _ hrk, hyl, flatten_drop _ hrk, hl, Nat.add_mul]
    obtain ⟨w', h14, h15, h16, h17⟩ := lst_write (P := P) hI hid hg hb (off * k') (ys.flatten.take (n * k')) (news.take (n * k')) (hRn.take _) (fun u hu => h1n u (List.mem_of_mem_take hu)) (dataL_take hdY _) _ hlen' hks hfl
    exact ⟨_, _, w', Pr, γ, run0 _ _ w' ex h14, .inl rfl, .int _ _, h15, h16, h17⟩

omit hI hG hT in
theorem zeroCells_list {z : Array Value} {k : Nat} (hk : 0 < k) (hz : z.size = k) (n : Nat) : (Builtin.zeroCells z n).toList = (List.replicate n z.toList).flatten := by
  unfold Builtin.zeroCells
  rw [hz] 
  have := range_rep hk hz n
  rwa [hz] at this

theorem op_clear {c : Call} {t e : TypeId} {k : Nat} {zero : List AV} {x : Operand} {x' : Opd} (hop : o.op = .call c) (hc : c.callee = .builtin .clear) (ha : c.args.toList = [x]) (hts : c.argTypes.toList = [t]) (ht : sliceEl P t = some (e, k)) (hz : zeroL P e = some zero)
    (hx : cOpd G x = some x') (h : aop (.clear zero x') s T σ = some (r, σ')) : OpRes P U ls w Pr σ γ o a r σ' := by
  obtain ⟨hu, hsz, hk⟩ := sliceEl_inv ht
  obtain ⟨i, z, hi, hzz, hcc, hzl⟩ := zeroL_inv hz
  have hik : i.size = k := by unfold tsize at hsz; rw [hi] at hsz; simpa using hsz
  have h1 := cOpd_rep hG hT hx
  simp only [aop] at h
  split at h
  case h_2 => cases h
  rename_i id gen off len hX
  rw [hX] at h1
  split at h
  case h_2 => cases h
  rename_i g e' k' rows hid
  split at h
  case isFalse => cases h
  rename_i hb
  obtain ⟨rfl, hlr, hkz, hzd⟩ := hb
  cases h
  obtain rfl : k' = k := by rw [hkz, hzl, hik]
  obtain ⟨cs, hrunB⟩ := run_builtin (P := P) (w := w) (a := a) hop hc
  obtain ⟨gh, vs, hg, hk', hrk, hd, hV, hR, hone⟩ := hI.lst id 0 g e' k' rows hid
  obtain ⟨hr0, hz1⟩ := const1L_rep (w := w) (Pr := Pr) (σ := σ) (γ := γ) hcc
  have hzs : z.cells.size = k' := by have := hr0.1; rw [Array.length_toList] at this; omega
  have hM : MutIs gh.v k' off len (a.eval x) := by
    generalize a.eval x = u at h1
    cases h1 with
    | lisOld id gen off len lk g2 e k rows u h3 h4 ho => rw [hid] at h3; cases h3; omega
    | lis id off len lk g2 e k rows gh2 u h3 h4 h5 h6 => rw [hid] at h3; cases h3; rw [hg] at h4; cases h4; exact h6
  have run0 : ∀ w', (Builtin.clear_ #[t] o.type #[a.eval x]).run P w = .ok (.tuple #[]) w' → (execOp a.eval o).run P w = .ok (.value (.tuple #[])) w' := fun w' hr => by
    rw [hrunB, toList_one ha, toList_one hts, show (#[x] : Array Operand).map a.eval = #[a.eval x] from by simp]
    show (do let q ← Builtin.clear_ #[t] o.type #[a.eval x]; pure (Next.value q) : Sem Next).run P w = _
    rw [Sem.run_bind, hr]; rfl
  have tup0 : ∀ {w' : World} {Pr' : Nat → Nat → Prop} {σ' : List Blk} {γ' : List Ghost}, Rep w' Pr' σ' γ' ls (.tup []) (.tuple #[]) := fun {w' Pr' σ' γ'} => by
    have := Rep.tup (w := w') (Pr := Pr') (σ := σ') (γ := γ') (ls := ls) [] [] rfl (fun i a v ha => by simp at ha)
    exact this
  by_cases h0 : len = 0
  · subst h0
    have hsame : rows.take off ++ List.replicate 0 zero ++ rows.drop (off + 0) = rows := by simp
    rw [hsame, set_self hid]
    obtain ⟨base, cX, ex, _⟩ := hM.shape
    refine .pure hI (run0 w ?_) tup0
    rw [ex]
    cases base <;> simp [Builtin.clear_, run_underlying hu]
  · have hmem : ∃ gb, blkOf gh.v = some gb ∧ ∃ cX, a.eval x = .slice (some ⟨gb, off * k', none⟩) len cX := by
      obtain ⟨hvl, ⟨hr0, ad, hv0⟩ | ⟨gb, c, cur, hv, _⟩⟩ := hV
      · omega
      · refine ⟨gb, by rw [hv]; rfl, ?_⟩
        obtain ⟨base, n', cap, hgv, ⟨rfl, ex, _, _⟩ | ⟨_, c', ⟨hl0, a', ex⟩ | ⟨_, g2, hb2, ex⟩⟩⟩ := hM
        · rw [hv] at hgv; cases hgv; exact ⟨c + 1, by rw [ex]; simp⟩
        · omega
        · rw [hv] at hgv; cases hgv; cases hb2; exact ⟨_, ex⟩
    obtain ⟨gb, hb, cX, ex⟩ := hmem
    have hzl' : zero.length = k' := hkz.symm
    have hks : ∀ r ∈ rows.take off ++ List.replicate len zero ++ rows.drop (off + len), r.length = k' := fun r hr => by
      simp only [List.mem_append] at hr
      rcases hr with (hr | hr) | hr
      · exact hrk r (List.mem_of_mem_take hr)
      · rw [List.eq_of_mem_replicate hr, hzl']
      · exact hrk r (List.mem_of_mem_drop hr)
    have hlen' : (rows.take off ++ List.replicate len zero ++ rows.drop (off + len)).length = rows.length := by simp; omega
    have hofs : off * k' + len * k' ≤ rows.length * k' := by rw [← Nat.add_mul]; exact Nat.mul_le_mul_right _ (by omega)
    have hrl : ∀ r ∈ List.replicate len zero, r.length = k' := fun r hr => by rw [List.eq_of_mem_replicate hr, hzl']
    have hfl : A.ovr rows.flatten (off * k') (List.replicate len zero).flatten = some (rows.take off ++ List.replicate len zero ++ rows.drop (off + len)).flatten := by
      have hl : (List.replicate len zero).flatten.length = len * k' := by rw [flatten_length _ hrl]; simp
      unfold A.ovr
      rw [if_pos (by rw [hl, flatten_length _ hrk]; exact hofs), List.flatten_append, List.flatten_append, flatten_take _ hrk, flatten_drop _ hrk, hl, Nat.add_mul]
    have hdz : dataL (List.replicate len zero).flatten = true := by
      unfold dataL; rw [List.all_flatten]; exact List.all_eq_true.2 fun r hr => by rw [List.eq_of_mem_replicate hr]; exact hzd
    have h1z : ∀ u ∈ (List.replicate len z.cells.toList).flatten, u.oneCell' = true := fun u hu => by
      obtain ⟨l', hl', hu'⟩ := List.mem_flatten.1 hu
      rw [List.eq_of_mem_replicate hl'] at hu'; exact hz1 u hu'
    obtain ⟨w', h14, h15, h16, h17⟩ := lst_write (P := P) hI hid hg hb (off * k') _ (List.replicate len z.cells.toList).flatten (hr0.replicate len) h1z hdz _ hlen' hks hfl
    refine ⟨_, _, w', Pr, γ, run0 w' ?_, .inl rfl, tup0, h15, h16, h17⟩
    rw [ex]
    have hzc := zeroCells_list hk' hzs len
    cases len with
    | zero => exact absurd rfl h0
    | succ m => simp [Builtin.clear_, run_underlying hu, zeroValue, typeInfo, hi, hzz, hzc, h14]

theorem op_slarr {t e : TypeId} {k n : Nat} {x : Operand} {lo hi : Option Operand} {y : Opd} {lo' hi' : Option Opd} (hop : o.op = .slice t x lo hi none) (hu : P.underlying t = some (.array n e)) (hk : tsize P e = some k) (hy : cOpd G x = some y)
    (hlo : cOpt G lo = some lo') (hhi : cOpt G hi = some hi') (h : aop (.slarr k n y lo' hi') s T σ = some (r, σ')) : OpRes P U ls w Pr σ γ o a r σ' := by
  have h1 := cOpd_rep hG hT hy
  simp only [aop] at h
  split at h
  case h_2 => cases h
  rename_i id gen row off hX
  rw [hX] at h1
  split at h
  case h_2 => cases h
  rename_i l hh hl hhb
  split at h
  case isFalse => cases h
  rename_i hb
  split at h
  case h_2 => cases h
  rename_i lk e' rr hid
  split at h
  case isFalse => cases h
  rename_i hg
  obtain ⟨rfl, rfl, rfl, hlk⟩ := hg
  split at h
  case h_2 => cases h
  rename_i cs hcs
  split at h
  case isFalse => cases h
  rename_i hd
  cases h
  generalize hv : a.eval x = v at h1
  cases h1 with
  | ptrOld id gen row off lk g e k rows b o h3 h4 => rw [hid] at h3; cases h3
  | ptrL id row off lk g e k rows gh gb h3 h4 h5 h6 => rw [hid] at h3; cases h3
  | ptrB id off lk2 e2 row2 gh h3 h4 =>
    rw [hid] at h3; cases h3
    obtain ⟨Pr', h5, h6, h7, h8⟩ := hI.lock hid (.inl ⟨lk, e', rr, rfl, rfl⟩)
    obtain ⟨gh', cur, h9, h10, h11, h12⟩ := h5.box id 2 e' rr (List.getElem?_set_self (List.getElem?_eq_some_iff.1 hid).1)
    rw [h4] at h9; cases h9
    have hbr := bounds_run (P := P) (w := w) hG hT hlo hhi (mx := none) (mx' := none) rfl hl hhb (c := n) (m := n) rfl hb.1 hb.2 (Nat.le_refl _) (fun h => absurd rfl h) false
    simp only [Option.map_none] at hbr
    obtain ⟨hpl, hpe, hpk⟩ := piece_inv hcs
    have hrun : (execOp a.eval o).run P w = .ok (.value (.slice (some (if n = l then ⟨gh.b, off, none⟩ else (⟨gh.b, off, none⟩ : Addr).add (l * 1))) (hh - l) (n - l))) w := by
      unfold execOp
      simp only [hop, Instr.sliceAt, Sem.run_bind, run_underlying hu, Result.andThen_ok, hv, Instr.sureAddr, Sem.run_pure, Option.map_none, hbr, run_sizeOf' hk]
    refine ⟨_, _, w, Pr', γ, hrun, .inl rfl, ?_, h5, h6, h7⟩
    by_cases hz : hh - l = 0
    · have : cs = [] := List.eq_nil_of_length_eq_zero (by omega)
      subst this
      rw [hz]; exact .ro0 _ _
    · rw [if_neg (by omega), Nat.mul_one, Addr.add_mid]
      have hlen : (cs.map fun c => [c]).length = hh - l := by simpa using hpk
      have hfl : (cs.map fun c => [c]).flatten = cs := sing_flatten cs
      have hRp := h11.piece hcs
      have hmem : memB σ γ id = some gh.b := memB_box hid h4
      have := Rep.ro (w := w) (Pr := Pr') (σ := σ.set id (.box 2 e' rr)) (γ := γ) (ls := ls) (cs.map fun c => [c]) gh.b (off + l) 1 (n - l) _ (by omega) (fun r hr => by obtain ⟨c, _, rfl⟩ := List.mem_map.1 hr; rfl) (by rw [hlen]; omega) (by rw [hRp.1, hlen, hpk]; omega) ?_ (by rw [hfl]; exact hd) (by rw [hfl]; exact hRp.2)
      · rw [hlen] at this; exact this
      · intro i v hi
        have hlt := (List.getElem?_eq_some_iff.1 hi).1
        simp only [List.length_take, List.length_drop, Array.length_toList] at hlt
        have hcl : cur.size = rr.length := by have := h11.1; simpa using this
        refine ⟨h8 gh.b hmem _ (by show _ < rr.length; omega), ?_⟩
        have := range_piece (range_cells h10) (off + l) (hh - l) i v hi
        rwa [Nat.zero_add] at this
end
end Go.Proofs.YtgajekpigkknnaaDoor.A

/- One operation of the evaluator is one of the model: literals of lists, make, slices of lists in their modes, appends that fit, bytes as strings. No condition. -/
namespace Go.Proofs.YtgajekpigkknnaaDoor.A
open Go
variable {U : Nat → Prop} {w w' : World} {Pr Pr' : Nat → Nat → Prop} {σ σ' : List Blk} {γ γ' : List Ghost} {ls : List Nat} {P : Program} {G : Nat → Option (List AV)}

theorem fillRf_rep {T : Tm} {a : Act} {k : Nat} (hG : GOk G w Pr) (hT : TOk w Pr σ γ ls T a.tmps) : ∀ {ps : List (Nat × Operand)} {l : List (Nat × Opd)} {rows rows' : List (List AV)} {arr : Array Value},
    slParts G ps = some l → fillRf T k l rows = some rows' → RepL w Pr σ γ rows.flatten arr.toList → (∀ u ∈ arr.toList, u.oneCell' = true) → (∀ r ∈ rows, r.length = k) →
    ∃ arr', Instr.fill (fun i => some (i * k, k)) arr (ps.map fun x => (x.1, a.eval x.2)) = some arr' ∧ RepL w Pr σ γ rows'.flatten arr'.toList ∧
      (∀ u ∈ arr'.toList, u.oneCell' = true) ∧ (∀ r ∈ rows', r.length = k) ∧ rows'.length = rows.length
  | [], l, rows, rows', arr, hp, hf, hr, h1, hk => by cases hp; cases hf; exact ⟨arr, rfl, hr, h1, hk, rfl⟩
  | (i, x) :: ps, l, rows, rows', arr, hp, hf, hr, h1, hk => by
    unfold slParts at hp
    split at hp
    · rename_i y r hy hrest
      cases hp
      unfold fillRf at hf
      split at hf
      · rename_i cs hcs
        split at hf
        · rename_i hlen
          obtain ⟨hlen, hlt⟩ := hlen
          obtain ⟨hc1, hc2⟩ := cells_rep (cOpd_rep hG hT hy) hcs
          have hrow : rows[i]? = some rows[i] := List.getElem?_eq_getElem hlt
          have hfs := flatten_set hk hrow (r' := cs)
          have hik : i * k + k ≤ rows.length * k := by rw [← Nat.succ_mul]; exact Nat.mul_le_mul_right _ hlt
          have hov : A.ovr rows.flatten (i * k) cs = some (rows.set i cs).flatten := by
            unfold A.ovr
            rw [if_pos (by rw [flatten_length _ hk, hlen]; exact hik), hfs, hlen]
          have hov' := hr.ovr hc1 hov
          have hsz : (a.eval x).cells.size = k := by rw [← hlen, ← hc1.1]; simp
          have hasz : arr.size = rows.length * k := by have := hr.1; rw [Array.length_toList, flatten_length _ hk] at this; exact this
          have hfold := foldl_set (a.eval x).cells.toList 0 (i * k) arr (by simp; omega)
          simp only [Nat.add_zero] at hfold
          have harr : ((a.eval x).cells.zipIdx.foldl (fun cs (c, j) => cs.setIfInBounds (i * k + j) c) arr).toList = arr.toList.take (i * k) ++ (a.eval x).cells.toList ++ arr.toList.drop (i * k + (a.eval x).cells.toList.length) := by
            rw [← hfold, ← Array.foldl_toList, Array.toList_zipIdx]
          have hks : ∀ r ∈ rows.set i cs, r.length = k := fun r hr => by
            rcases List.mem_or_eq_of_mem_set hr with hr | rfl
            · exact hk r hr
            · exact hlen
          obtain ⟨arr', h11, h12, h13, h14, h15⟩ := fillRf_rep (a := a) hG hT (arr := (a.eval x).cells.zipIdx.foldl (fun cs (c, j) => cs.setIfInBounds (i * k + j) c) arr) hrest hf (by rw [harr]; exact hov') (by rw [harr]; exact one_ovr h1 hc2 _ _) hks
          refine ⟨arr', ?_, h12, h13, h14, by rw [h15]; simp⟩
          simp only [List.map_cons, Instr.fill]
          have hcond : ¬ ((a.eval x).cells.size ≠ k ∨ i * k + (a.eval x).cells.size > arr.size) := by rintro (h | h) <;> omega
          rw [if_neg (by rw [Bool.or_eq_true, decide_eq_true_eq, decide_eq_true_eq]; exact hcond)]
          exact h11
        · cases hf
      · cases hf
    · cases hp

theorem bytesOf_inv : ∀ {rows : List (List AV)} {l : List UInt8}, bytesOf rows = some l → ∃ ns : List Int, rows = ns.map (fun n => [AV.int .u8 n]) ∧ l = ns.map fun n => UInt8.ofNat n.toNat
  | [], l, h => by cases h; exact ⟨[], rfl, rfl⟩
  | r :: rows, l, h => by
    unfold bytesOf at h
    split at h
    · rename_i he; cases he
    · rename_i n l' he
      cases he
      obtain ⟨l2, h1, h2⟩ := Option.map_eq_some_iff.1 h
      obtain ⟨ns, h3, h4⟩ := bytesOf_inv h1
      exact ⟨n :: ns, by rw [h3]; rfl, by rw [← h2, h4]; rfl⟩
    · cases h
theorem flat_one : ∀ ns : List Int, (ns.map fun n => [AV.int .u8 n]).flatten = ns.map (AV.int .u8)
  | [] => rfl
  | n :: ns => by simp only [List.map_cons, List.flatten_cons, flat_one ns]; rfl
theorem foldl_bytes : ∀ (ns : List Int) (s : ByteArray), ns.foldl (fun r n => r.push (UInt8.ofNat n.toNat)) s = ⟨(s.data.toList ++ ns.map fun n => UInt8.ofNat n.toNat).toArray⟩
  | [], s => by cases s; simp
  | n :: ns, s => by
    rw [List.foldl_cons, foldl_bytes ns]
    simp [ByteArray.push]

section
variable (hI : Inv U w Pr σ γ) (hG : GOk G w Pr) {T : Tm} {a : Act} (hT : TOk w Pr σ γ ls T a.tmps) {o : Oper} {s : Nat} {r : AV}
include hI hG hT

theorem op_buildRf {t e : TypeId} {n k : Nat} {zero : List AV} {ps : Array (Nat × Operand)} {l : List (Nat × Opd)} (hop : o.op = .buildSlice t n ps) (ht : sliceEl P t = some (e, k)) (hp : slParts G ps.toList = some l) (hz : zeroL P e = some zero) (hn : n * k ≤ 16777216)
    (h : aop (.buildRf e k zero n l) s T σ = some (r, σ')) : OpRes P U ls w Pr σ γ o a r σ' := by
  obtain ⟨hu, hsz, hk⟩ := sliceEl_inv ht
  obtain ⟨i, z, hi, hzz, hc, hzl⟩ := zeroL_inv hz
  have hik : i.size = k := by unfold tsize at hsz; rw [hi] at hsz; simpa using hsz
  obtain ⟨hr, h1⟩ := const1L_rep (w := w) (Pr := Pr) (σ := σ) (γ := γ) hc
  have hzs : z.cells.size = k := by have := hr.1; rw [Array.length_toList, hzl, hik] at this; exact this
  have hrk : ∀ r ∈ List.replicate n zero, r.length = k := fun r hr => by rw [List.eq_of_mem_replicate hr, hzl, hik]
  simp only [aop] at h
  split at h
  · rename_i rows hf
    cases h
    obtain ⟨arr0, he0, ha0⟩ : ∃ arr0 : Array Value, arr0 = (Array.range (n * k)).map (fun j => z.cells[j % z.cells.size]!) ∧ arr0.toList = (List.replicate n z.cells.toList).flatten := ⟨_, rfl, range_rep hk hzs n⟩
    have hR0 : RepL w Pr σ γ (List.replicate n zero).flatten arr0.toList := by rw [ha0]; exact hr.replicate n
    have h10 : ∀ u ∈ arr0.toList, u.oneCell' = true := fun u hu => by
      rw [ha0] at hu
      obtain ⟨l', hl', hu'⟩ := List.mem_flatten.1 hu
      rw [List.eq_of_mem_replicate hl'] at hu'; exact h1 u hu'
    obtain ⟨arr', h6, h7, h8, h9, h11⟩ := fillRf_rep (a := a) hG hT hp hf hR0 h10 hrk
    have hlen : rows.length = n := by rw [h11]; simp
    have hrun : (execOp a.eval o).run P w = .ok (.value (.slice (some ⟨w.heap.size, 0, none⟩) n n)) (w.alloc (.cells arr' e)) := by
      have hfill : Instr.fill (fun i => some (i * k, k)) arr0 (ps.map fun (i, x) => (i, a.eval x)).toList = some arr' := by rw [Array.toList_map]; exact h6
      unfold execOp
      simp only [hop, Sem.run_bind]
      have hb : (Instr.buildSlice t n (ps.map fun (i, x) => (i, a.eval x))).run P w = .ok (.slice (some ⟨w.heap.size, 0, none⟩) n n) (w.alloc (.cells arr' e)) := by
        have h24 : ¬ (n * k > 2 ^ 24) := by omega
        by_cases hn0 : n * k = 0
        · have : arr0 = #[] := by rw [he0, hn0]; simp
          rw [this] at hfill
          have hmp : ∀ f : Nat → Value, (Array.range 0).map f = #[] := fun f => by simp
          simp only [Instr.buildSlice, Sem.run_bind, run_underlying hu, Result.andThen_ok, run_sizeOf' hsz, hn0, show ¬ ((0 : Nat) > 2 ^ 24) from by decide, if_false, if_true, Sem.run_pure, hmp, hfill]
          rfl
        · simp only [Instr.buildSlice, Sem.run_bind, run_underlying hu, Result.andThen_ok, run_sizeOf' hsz, h24, if_false, hn0, zeroValue, typeInfo, run_program, hi, hzz, Sem.run_pure, Sem.run_map, ← he0, hfill]
          rfl
      rw [hb]; rfl
    have hvs : arr'.toList.length = n * k := by rw [h7.1, flatten_length _ h9, hlen]
    obtain ⟨Pr2, h13, h14, h15⟩ := hI.newRo (.cells arr' e) (n * k)
    refine ⟨_, _, _, Pr2, γ, hrun, .inl rfl, ?_, h13, Keeps.refl _ _, h14⟩
    have hr7 := h7.mono h14.stays (Keeps.refl _ _) (fun _ _ h => h)
    have : Rep (w.alloc (.cells arr' e)) Pr2 σ γ ls (.refs rows) (.slice (some ⟨w.heap.size, 0, none⟩) rows.length rows.length) := by
      refine .refs rows w.heap.size 0 k rows.length arr'.toList hk h9 (Nat.le_refl _) (by rw [hvs, hlen]) (fun i v hv => ⟨?_, ?_⟩) h8 hr7.2
      · rw [Nat.zero_add]; exact h15 i (by rw [← hvs]; exact (List.getElem?_eq_some_iff.1 hv).1)
      · exact range_cells (World.alloc_heap_new w _) i v hv
    rw [hlen] at this; exact this
  · cases h

theorem op_boxY {t : TypeId} {x : Operand} {y : Opd} (hop : o.op = .box t x) (hy : cOpd G x = some y) (h : aop (.boxY y) s T σ = some (r, σ')) : OpRes P U ls w Pr σ γ o a r σ' := by
  have h1 := cOpd_rep hG hT hy
  simp only [aop] at h
  split at h
  case h_2 => cases h
  rename_i d e1
  cases h
  rw [e1] at h1
  generalize hv : a.eval x = v at h1
  cases h1 with
  | yld d l hl =>
    obtain ⟨Pr2, h13, h14, h15⟩ := hI.newRo (.cells #[.func (.yield l) #[] #[]] t) 1
    refine ⟨.value (.pointer (some ⟨w.heap.size, 0, none⟩)), _, _, Pr2, γ, ?_, .inl rfl, ?_, h13, Keeps.refl _ _, h14⟩
    · unfold execOp
      simp [hop, Instr.box, run_newVar', hv, Value.cells]
    · exact .yp d l _ _ hl ⟨h15 0 (by decide), range_cells (World.alloc_heap_new w _) 0 _ rfl⟩
theorem op_loadY {t : TypeId} {k : Nat} {x : Operand} {y : Opd} (hop : o.op = .load t x) (hk : ksize P t = some (k, false)) (hy : cOpd G x = some y) (h : aop (.loadY y) s T σ = some (r, σ')) : OpRes P U ls w Pr σ γ o a r σ' := by
  have h1 := cOpd_rep hG hT hy
  obtain ⟨hs, hg, hone⟩ := ksize_inv hk
  obtain ⟨td, hu, hd, hrun⟩ := tagg_inv hg
  simp only [aop] at h
  split at h
  case h_2 => cases h
  rename_i d e1
  cases h
  rw [e1] at h1
  generalize hv : a.eval x = v at h1
  cases h1 with
  | yp d l b o hl hc =>
    refine .pure hI ?_ (.yld d l hl)
    unfold execOp
    simp [hop, hv, Instr.loadAt, Instr.sureAddr, loadVar, hrun, hc.2]

theorem op_mk {t e : TypeId} {k : Nat} {i : TypeInfo} {zero : List AV} {x y : Operand} {x' y' : Opd} (hop : o.op = .makeSlice t x y) (ht : sliceEl P t = some (e, k)) (hz : zeroL P e = some zero) (hi : P.info? e = some i) (hx : cOpd G x = some x') (hy : cOpd G y = some y')
    (h : aop (.mk e k i.bytes zero x' y') s T σ = some (r, σ')) : OpRes P U ls w Pr σ γ o a r σ' := by
  obtain ⟨hu, hsz, hk⟩ := sliceEl_inv ht
  obtain ⟨i', z, hi', hzz, hc, hzl⟩ := zeroL_inv hz
  rw [hi] at hi'; cases hi'
  have hik : i.size = k := by unfold tsize at hsz; rw [hi] at hsz; simpa using hsz
  obtain ⟨hr, h1⟩ := const1L_rep (w := w) (Pr := Pr) (σ := σ) (γ := γ) hc
  have hzs : z.cells.size = k := by have := hr.1; rw [Array.length_toList, hzl, hik] at this; exact this
  have e1 := cOpd_rep hG hT hx
  have e2 := cOpd_rep hG hT hy
  simp only [aop] at h
  split at h
  case h_2 => cases h
  rename_i n c hn hcc
  rw [hn] at e1; rw [hcc] at e2
  split at h
  case isFalse => cases h
  rename_i hb
  obtain ⟨h0, hnc, hby, hc62, hdz⟩ := hb
  obtain ⟨bs', hnew, he⟩ := Option.map_eq_some_iff.1 h
  cases he
  obtain ⟨hd, rfl⟩ := newAt_inv hnew
  have hls := (List.getElem?_eq_some_iff.1 hd).1
  have hrun := run_make (P := P) w t e i z hu hi hzz .i64 .i64 n c h0 hnc (by
    have : (i.bytes : Int) * c = c * (i.bytes : Int) := Int.mul_comm _ _
    omega) (by omega)
  rw [hik] at hrun
  have hcur : (madeCells z.cells (c.toNat * k)).toList = (List.replicate c.toNat z.cells.toList).flatten := by
    unfold madeCells
    have := range_rep hk hzs c.toNat
    exact this
  have hrun' : (execOp a.eval o).run P w = .ok (.value (.slice (some ⟨w.heap.size, 0, none⟩) n.toNat c.toNat)) (w.alloc (.cells (madeCells z.cells (c.toNat * k)) e)) := by
    unfold execOp
    simp only [hop, int_inv e1, int_inv e2, Sem.run_bind, hrun]
    rfl
  have hzk : ∀ r ∈ List.replicate c.toNat z.cells.toList, r.length = k := fun r hr => by rw [List.eq_of_mem_replicate hr, Array.length_toList, hzs]
  have hrk : ∀ r ∈ List.replicate n.toNat zero, r.length = k := fun r hr => by rw [List.eq_of_mem_replicate hr, hzl, hik]
  have hR : RepL w Pr σ γ (List.replicate n.toNat zero).flatten (List.replicate n.toNat z.cells.toList).flatten := hr.replicate _
  have hone : ∀ u ∈ (List.replicate n.toNat z.cells.toList).flatten, u.oneCell' = true := fun u hu => by
    obtain ⟨l', hl', hu'⟩ := List.mem_flatten.1 hu
    rw [List.eq_of_mem_replicate hl'] at hu'; exact h1 u hu'
  have hdd : dataL (List.replicate n.toNat zero).flatten = true := by
    unfold dataL; rw [List.all_flatten]
    exact List.all_eq_true.2 fun x hx => by rw [List.eq_of_mem_replicate hx]; exact hdz
  have hE := Evo.alloc (ls := []) (Pr := Pr) hI.new (.cells (madeCells z.cells (c.toNat * k)) e)
  have hlen : (List.replicate n.toNat zero).length = n.toNat := by simp
  have hV : LstV (w.alloc (.cells (madeCells z.cells (c.toNat * k)) e)) e k (.slice (some ⟨w.heap.size, 0, none⟩) n.toNat c.toNat) (List.replicate n.toNat zero).length (List.replicate n.toNat z.cells.toList).flatten := by
    rw [hlen]
    refine ⟨by rw [flatten_length (k := k) _ (fun r hr => by rw [List.eq_of_mem_replicate hr, Array.length_toList, hzs])]; simp, ?_⟩
    by_cases hc0 : c.toNat = 0
    · have : n.toNat = 0 := by omega
      rw [hc0, this]; exact .inl ⟨rfl, _, rfl⟩
    · obtain ⟨m, hm⟩ : ∃ m, c.toNat = m + 1 := ⟨c.toNat - 1, by omega⟩
      refine .inr ⟨w.heap.size, m, _, by rw [hm], World.alloc_heap_new w _, by omega, by unfold maxLen; omega, by rw [size_madeCells, hm], ?_⟩
      rw [hcur, ← flatten_take _ hzk, List.take_replicate, Nat.min_eq_left (by omega)]
  obtain ⟨h13, h14⟩ := hI.newLst hd hE (fun b hb => alloc_old w _ hb) e k _ _ _ hk hrk hdd hV hR hone (fun b hb => by
    cases hcn : c.toNat with
    | zero => rw [hcn] at hb; cases hb
    | succ m => rw [hcn] at hb; cases hb; exact Nat.le_refl _)
  refine ⟨_, _, _, Pr, _, hrun', .inl rfl, ?_, h13, h14, hE⟩
  refine .lis s 0 _ 0 0 e k _ ⟨0, _⟩ _ (List.getElem?_set_self hls) (List.getElem?_set_self (by rw [hI.len]; exact hls)) (by rw [hlen]; omega) ?_
  exact ⟨_, _, _, rfl, .inl ⟨rfl, rfl, by omega, fun _ => ⟨_, rfl⟩⟩⟩

theorem op_strof {src dst e : TypeId} {x : Operand} {y : Opd} (hop : o.op = .convert src dst x) (hs : P.underlying src = some (.slice e)) (he : P.underlying e = some (.int .u8)) (hd : P.underlying dst = some .string) (hy : cOpd G x = some y)
    (h : aop (.strof y) s T σ = some (r, σ')) : OpRes P U ls w Pr σ γ o a r σ' := by
  have h1 := cOpd_rep hG hT hy
  simp only [aop] at h
  split at h
  case h_2 => cases h
  rename_i rows hr
  split at h
  case h_2 => cases h
  rename_i l hl
  cases h
  obtain ⟨ns, rfl, rfl⟩ := bytesOf_inv hl
  obtain ⟨base, c, hv, hx⟩ := rowsOf_rep hI h1 hr
  refine .pure hI ?_ (.str _)
  have key : ∀ b off, base = some ⟨b, off, none⟩ → w.rangeAt b off (ns.map (Value.int .u8)) → (execOp a.eval o).run P w = .ok (.value (.string ⟨(ns.map fun n => UInt8.ofNat n.toNat).toArray⟩)) w := fun b off hb hrg => by
    have hlc : (loadCells ⟨b, off, none⟩ ns.length).run P w = .ok (ns.map (Value.int .u8)).toArray w := by
      have := run_loadCells_list (P := P) w ⟨b, off, none⟩ (ns.map (Value.int .u8)) (fun j v hj => by rw [Addr.add_mid]; exact hrg j v hj)
      simpa using this
    unfold execOp
    simp only [hop, hv, hb, List.length_map, Sem.run_bind, run_convert_bytes_string w src dst e _ _ _ hs he hd, run_bytesToString w _ _ _ ns hlc, foldl_bytes]
    simp [ByteArray.empty, ByteArray.emptyWithCapacity]
    rfl
  rcases hx with h0 | ⟨b, off, k, vs, rfl, hk, hrk, hdd, hrg, hR⟩
  · have : ns = [] := by simpa using h0
    subst this
    cases base with
    | none =>
      unfold execOp
      simp only [hop, hv, List.map_nil, List.length_nil, Sem.run_bind, run_convert_bytes_string w src dst e _ _ _ hs he hd]
      simp [Conv.bytesToString]
      rfl
    | some ad =>
      have hlc : (loadCells ad 0).run P w = .ok (([] : List Int).map (Value.int .u8)).toArray w := by simp [loadCells, loadCellsFrom]
      unfold execOp
      simp only [hop, hv, List.map_nil, List.length_nil, Sem.run_bind, run_convert_bytes_string w src dst e _ _ _ hs he hd, run_bytesToString w _ _ _ [] hlc]
      rfl
  · refine key b off rfl ?_
    have hfl : (ns.map fun n => [AV.int .u8 n]).flatten = ns.map (AV.int .u8) := by
      exact flat_one ns
    rw [hfl] at hR
    have hvs : vs = ns.map (Value.int .u8) := by
      apply List.ext_getElem?
      intro j
      by_cases hj : j < ns.length
      · have h2 : (ns.map (AV.int .u8))[j]? = some (AV.int .u8 ns[j]) := by simp [hj]
        obtain ⟨v, h3, h4⟩ := hR.get h2
        rw [h3, int_inv h4]; simp [hj]
      · rw [List.getElem?_eq_none (by rw [hR.1]; simpa using hj), List.getElem?_eq_none (by simpa using hj)]
    rw [← hvs]; exact hrg

theorem op_appIn {c : Call} {t e : TypeId} {k : Nat} {i : TypeInfo} {z : Value} {x y : Operand} {x' y' : Opd} (hop : o.op = .call c) (hc : c.callee = .builtin .append) (ha : c.args.toList = [x, y]) (hts : c.argTypes.toList = [t, t]) (ht : sliceEl P t = some (e, k))
    (hi : P.info? e = some i) (hz : i.zero = some z) (hzs : z.cells.size = k) (hx : cOpd G x = some x') (hy : cOpd G y = some y') (h : aop (.appIn e k x' y') s T σ = some (r, σ')) : OpRes P U ls w Pr σ γ o a r σ' := by
  obtain ⟨hu, hsz, hk⟩ := sliceEl_inv ht
  have hik : i.size = k := by unfold tsize at hsz; rw [hi] at hsz; simpa using hsz
  have h1 := cOpd_rep hG hT hx
  have h2 := cOpd_rep hG hT hy
  simp only [aop] at h
  split at h
  case h_2 => cases h
  rename_i ys hys
  split at h
  case isFalse => cases h
  rename_i hf
  obtain ⟨baseY, cY, news, eY, hnl, hsrc, hRn, h1n, hrkY, hdY⟩ := src_rows hI h2 hys hf
  obtain ⟨cs, hrunB⟩ := run_builtin (P := P) (w := w) (a := a) hop hc
  have run0 : ∀ v w', (Builtin.append_ #[t, t] o.type #[a.eval x, a.eval y]).run P w = .ok v w' → (execOp a.eval o).run P w = .ok (.value v) w' := fun v w' hr => by
    rw [hrunB, toList_two ha, toList_two hts, show (#[x, y] : Array Operand).map a.eval = #[a.eval x, a.eval y] from by simp]
    show (do let q ← Builtin.append_ #[t, t] o.type #[a.eval x, a.eval y]; pure (Next.value q) : Sem Next).run P w = _
    rw [Sem.run_bind, hr]; rfl
  unfold aappIn at h
  split at h
  case h_2 => cases h
  rename_i id gen off len hX
  rw [hX] at h1
  split at h
  case h_2 => cases h
  rename_i g e' k' rows hid
  split at h
  case isFalse => cases h
  rename_i hb
  obtain ⟨rfl, rfl, rfl, rfl, hfit⟩ := hb
  cases h
  obtain ⟨gh, vs, hg, hk', hrk, hd, hV, hR, hone⟩ := hI.lst id 0 g e' k' rows hid
  obtain ⟨hvl, hV⟩ := hV
  have hM : MutIs gh.v k' 0 len (a.eval x) := by
    generalize a.eval x = u at h1
    cases h1 with
    | lisOld id gen off len lk g2 e k rows u h3 h4 ho => rw [hid] at h3; cases h3; omega
    | lis id off len lk g2 e k rows gh2 u h3 h4 h5 h6 => rw [hid] at h3; cases h3; rw [hg] at h4; cases h4; exact h6
  obtain ⟨base, n, cap, hgv, ⟨_, ex, hlc, hbs⟩ | ⟨h0, _⟩⟩ := hM
  case inr => exact absurd h0 (Nat.lt_irrefl 0)
  by_cases hy0 : ys = []
  · subst hy0
    have hs0 : rows.take len ++ [] ++ rows.drop (len + ([] : List (List AV)).length) = rows := by simp
    have hrun : (execOp a.eval o).run P w = .ok (.value (.slice base len cap)) w := by
      refine run0 _ _ ?_
      rw [ex, eY]
      have hf0 : (Builtin.firstCells k' 0 (.slice baseY 0 cY)).run P w = .ok #[] w := by cases baseY <;> simp [Builtin.firstCells, loadCells, loadCellsFrom]
      cases base with
      | none =>
        have : cap = 0 ∧ len = 0 := by
          rcases hV with ⟨hn0, ad, hv0⟩ | ⟨gb, c', cur, hv, _⟩
          · rw [hv0] at hgv; cases hgv; omega
          · rw [hv] at hgv; cases hgv
        obtain ⟨rfl, rfl⟩ := this
        simp [Builtin.append_, run_underlying hu, run_sizeOf' hsz, Builtin.lenOf, hf0, storeCells]
      | some ad => simp [Builtin.append_, run_underlying hu, run_sizeOf' hsz, Builtin.lenOf, hf0, storeCells, hlc]
    rw [hs0, set_self hid, List.length_nil, Nat.add_zero]
    exact .pure hI hrun (.lis id 0 len 0 g e' k' rows gh _ hid hg (by simpa using hfit) ⟨base, n, cap, hgv, .inl ⟨rfl, rfl, hlc, hbs⟩⟩)
  · have hm0 : 0 < ys.length := List.length_pos_iff.2 hy0
    obtain ⟨by_, offY, rfl, hcY⟩ := hsrc hy0
    rcases hV with ⟨hn0, ad, hv0⟩ | ⟨gb, c', cur, hv, hh, hcl, hcm, hcs, htk⟩
    · omega
    · rw [hv] at hgv; cases hgv
      have hroom : len + ys.length ≤ c' + 1 := by omega
      have hlk : len * k' + ys.length * k' ≤ rows.length * k' := by rw [← Nat.add_mul]; exact Nat.mul_le_mul_right _ hfit
      have hrc : rows.length * k' ≤ cur.size := by rw [hcs]; exact Nat.mul_le_mul_right _ hcl
      have hr := run_append_room (P := P) w t o.type e' i hu hi gb len (c' + 1) cur hh ⟨by_, offY, none⟩ ys.length cY news (by rw [hik]; exact hnl) hcY h1n hroom (by rw [hik, hnl]; omega)
      rw [hik] at hr
      have hks : ∀ r ∈ rows.take len ++ ys ++ rows.drop (len + ys.length), r.length = k' := fun r hr => by
        simp only [List.mem_append] at hr
        rcases hr with (hr | hr) | hr
        · exact hrk r (List.mem_of_mem_take hr)
        · exact hrkY r hr
        · exact hrk r (List.mem_of_mem_drop hr)
      have hlen' : (rows.take len ++ ys ++ rows.drop (len + ys.length)).length = rows.length := by simp; omega
      have hfl : (rows.take len ++ ys ++ rows.drop (len + ys.length)).flatten = rows.flatten.take (len * k') ++ ys.flatten ++ rows.flatten.drop (len * k' + ys.length * k') := by
        rw [List.flatten_append, List.flatten_append, flatten_take _ hrk, flatten_drop _ hrk, Nat.add_mul]
      have hR' : RepL w Pr σ γ (rows.take len ++ ys ++ rows.drop (len + ys.length)).flatten (vs.take (len * k') ++ news ++ vs.drop (len * k' + ys.length * k')) := by
        rw [hfl]; exact ((hR.take _).append hRn).append (hR.drop _)
      have hone' : ∀ u ∈ vs.take (len * k') ++ news ++ vs.drop (len * k' + ys.length * k'), u.oneCell' = true := fun u hu => by
        simp only [List.mem_append] at hu
        rcases hu with (hu | hu) | hu
        · exact hone u (List.mem_of_mem_take hu)
        · exact h1n u hu
        · exact hone u (List.mem_of_mem_drop hu)
      obtain ⟨h3, h4, h5⟩ := hI.setLst (ls := []) hid hg (b := gb) (by rw [hv]; rfl) (rows.take len ++ ys ++ rows.drop (len + ys.length)) (vs.take (len * k') ++ news ++ vs.drop (len * k' + ys.length * k')) hlen' hks
        (by rw [hfl, dataL_append, dataL_append, dataL_take hd, dataL_drop hd, hdY]; rfl) (by simp only [List.length_append, List.length_take, List.length_drop, hnl, hvl]; omega) hR' hone' hh
      have hcells : cur.toList.take (len * k') ++ news ++ cur.toList.drop (len * k' + news.length) = vs.take (len * k') ++ news ++ vs.drop (len * k' + ys.length * k') ++ cur.toList.drop (rows.length * k') := by
        rw [← htk, List.take_take, Nat.min_eq_left (by omega), List.append_assoc, List.append_assoc, List.append_assoc]
        congr 2
        rw [List.drop_take, hnl]
        conv => lhs; rw [← List.take_append_drop (rows.length * k' - (len * k' + ys.length * k')) (cur.toList.drop (len * k' + ys.length * k'))]
        rw [List.drop_drop, show len * k' + ys.length * k' + (rows.length * k' - (len * k' + ys.length * k')) = rows.length * k' from by omega]
      have hrun : (execOp a.eval o).run P w = .ok (.value (.slice (some ⟨gb, 0, none⟩) (len + ys.length) (c' + 1))) (w.setRow gb (vs.take (len * k') ++ news ++ vs.drop (len * k' + ys.length * k') ++ cur.toList.drop (rows.length * k')).toArray) := by
        refine run0 _ _ ?_
        rw [ex, eY, hr, hcells]
      refine ⟨_, _, _, Pr, γ, hrun, .inl rfl, ?_, h3, h4, h5⟩
      refine .lis id 0 _ 0 g e' k' _ gh _ (List.getElem?_set_self (List.getElem?_eq_some_iff.1 hid).1) hg (by rw [hlen']; omega) ?_
      exact ⟨_, _, _, hv, .inl ⟨rfl, rfl, hroom, fun _ => ⟨_, rfl⟩⟩⟩

theorem op_sliceL {t e : TypeId} {mode k : Nat} {x : Operand} {lo hi mx : Option Operand} {y : Opd} {lo' hi' mx' : Option Opd} (hop : o.op = .slice t x lo hi mx) (hu : P.underlying t = some (.slice e)) (hk : tsize P e = some k) (hy : cOpd G x = some y)
    (hlo : cOpt G lo = some lo') (hhi : cOpt G hi = some hi') (hmx : cOpt G mx = some mx') (hmh : mx' ≠ none → hi ≠ none) (h : aop (.sliceL mode k y lo' hi' mx') s T σ = some (r, σ')) : OpRes P U ls w Pr σ γ o a r σ' := by
  have h1 := cOpd_rep hG hT hy
  simp only [aop] at h
  unfold asliceL at h
  split at h
  case h_2 => cases h
  rename_i id gen off len hX
  rw [hX] at h1
  split at h
  · cases h
  rename_i rows hrows
  split at h
  case h_2 => cases h
  rename_i l hh hl hhb
  split at h
  case isFalse => cases h
  rename_i hb
  obtain ⟨hfit, hlh⟩ := hb
  obtain ⟨base, c, e1, hnc, hbase⟩ := slice_shape h1 (n := len) rfl
  have run : ∀ m, boundOf T c mx' = some m → hh ≤ m → m ≤ c → (execOp a.eval o).run P w = .ok (.value (.slice (if m = l then base else base.map (·.add (l * k))) (hh - l) (m - l))) w := fun m hm h2 h3 => by
    have hbr := bounds_run (P := P) (w := w) hG hT hlo hhi hmx hl hhb hm hlh h2 h3 hmh true
    unfold execOp
    simp only [hop, Instr.sliceAt, Instr.slice, Sem.run_bind, run_underlying hu, Result.andThen_ok, e1, hbr, run_sizeOf' hk, Sem.run_pure]
  -- the list's block
  obtain ⟨lk, g, e2, k2, all, hid⟩ : ∃ lk g e k all, σ[id]? = some (.lst lk g e k all) := by
    simp only [rowsOf] at hrows
    split at hrows
    · exact ⟨_, _, _, _, _, by assumption⟩
    · cases hrows
  have mxs : ∀ m, mx'.isSome = true → boundOf T 0 mx' = some m → boundOf T c mx' = some m := fun m h1 h2 => by
    cases mx' with
    | none => cases h1
    | some x => exact h2
  split at h
  · rename_i m hs hm
    have hm := mxs m hs hm
    split at h
    case isFalse => cases h
    rename_i hc
    obtain ⟨rfl, hmlen⟩ := hc
    cases h
    obtain ⟨Pr', h2, h3, h4, h5, h6⟩ := lockAt_step (ls := ([] : List Nat)) hI hid
    have hro := lis_ro h2 (h1.mono h4.stays h3 (fun _ _ h => h)) (by rw [rowsOf_lock]; exact hrows) h6
    rw [e1] at hro
    obtain ⟨hro, hrl⟩ := hro
    have hkk : k2 = k := by unfold lisFits at hfit; rw [hid] at hfit; simpa using hfit
    subst hkk
    have hfits : rowFits k2 l m rows = true := by
      unfold rowFits
      cases hr : rows[l]? with
      | none =>
        have := List.getElem?_eq_none_iff.1 hr
        have : l = m := by omega
        simp [this]
      | some r =>
        have : r.length = k2 := by
          obtain ⟨gh, vs, _, _, hrk, _⟩ := hI.lst _ _ _ _ _ _ hid
          simp only [rowsOf, hid] at hrows
          split at hrows
          · cases hrows
            exact hrk r (List.mem_of_mem_drop (List.mem_of_mem_take (List.mem_of_getElem? hr)))
          · cases hrows
        simp [this]
    have hsub := ro_sub hro hlh (by omega) hfits rfl (Nat.le_refl m)
    have hlen : ((rows.take m).drop l).length = m - l := by simp; omega
    have h9 := Rep.clip (w := w) (Pr := Pr') (σ := lockAt σ id) (γ := γ) (ls := ls) ((rows.take m).drop l) (if m = l then base else base.map (·.add (l * k2))) (by rw [hlen]; exact hsub.base rfl)
    rw [hlen] at h9
    exact ⟨_, _, w, Pr', γ, run m hm (Nat.le_refl _) (by omega), .inl rfl, h9, h2, h3, h4⟩
  · rename_i m hs hm
    have hm := mxs m hs hm
    split at h
    case isFalse => cases h
    rename_i hc
    cases h
    exact .pure hI (run m hm hc.1 (by omega)) (.undef _)
  · rename_i hs
    have hmx0 : mx' = none := by
      cases mx' with
      | none => rfl
      | some x => cases hs
    subst hmx0
    rw [hid] at h
    dsimp only at h
    split at h
    case isFalse => cases h
    rename_i hc
    obtain ⟨rfl, hall⟩ := hc
    cases h
    rw [e1] at h1
    have hkk : k2 = k := by unfold lisFits at hfit; rw [hid] at hfit; simpa using hfit
    subst hkk
    cases h1 with
    | lisOld id gen off len lk g e k rows u h2 h3 h4 =>
      rw [hid] at h2; cases h2
      simp only [rowsOf, hid] at hrows
      rw [if_neg (by omega)] at hrows; cases hrows
    | lis id off len lk g e k' rows' gh u h2 h3 h4 h5 =>
      rw [hid] at h2; cases h2
      obtain ⟨gh', vs, hg, hk', hrk, hd, hV, hR, hone⟩ := hI.lst _ _ _ _ _ _ hid
      rw [h3] at hg; cases hg
      obtain ⟨base', n0, cap, hv, ⟨_, he, h6, h7⟩ | ⟨ho0, _⟩⟩ := h5
      case inr => exact absurd ho0 (Nat.lt_irrefl 0)
      cases he
      obtain ⟨hvl, ⟨hn0, ad, hv0⟩ | ⟨gb, c', cur, hv1, hh1, hcl, hcm, hcs, htk⟩⟩ := hV
      · rw [hv0] at hv; cases hv
        have : hh = 0 := by omega
        subst this
        have : l = 0 := by omega
        subst this
        refine .pure hI (run _ rfl (by omega) (Nat.le_refl _)) ?_
        refine .lis _ _ _ _ _ _ _ _ gh _ hid h3 (by omega) ⟨base, 0, 0, hv0, .inl ⟨rfl, ?_, Nat.zero_le _, fun h => absurd rfl h⟩⟩
        simp
      · rw [hv1] at hv; cases hv
        refine .pure hI (run _ rfl (by omega) (Nat.le_refl _)) ?_
        refine .lis _ _ _ _ _ _ _ _ gh _ hid h3 (by omega) ⟨_, _, _, hv1, ?_⟩
        by_cases hl0 : l = 0
        · subst hl0
          left
          refine ⟨rfl, ?_, by omega, fun _ => ⟨_, rfl⟩⟩
          simp [Addr.add_mid]
        · right
          refine ⟨by omega, c' + 1 - l, ?_⟩
          by_cases hz : hh - l = 0
          · exact .inl ⟨hz, _, by rw [hz]⟩
          · exact .inr ⟨by omega, gb, rfl, by rw [if_neg (by omega)]; simp [Addr.add_mid]⟩
  · cases h
end
end Go.Proofs.YtgajekpigkknnaaDoor.A

/- One operation of the evaluator is one of the model: whatever operation but a call. No condition. -/
namespace Go.Proofs.YtgajekpigkknnaaDoor.A
open Go
variable {U : Nat → Prop} {w w' : World} {Pr Pr' : Nat → Nat → Prop} {σ σ' : List Blk} {γ γ' : List Ghost} {ls : List Nat} {P : Program} {G : Nat → Option (List AV)}

theorem aop_sound (hI : Inv U w Pr σ γ) (hG : GOk G w Pr) {T : Tm} {a : Act} (hT : TOk w Pr σ γ ls T a.tmps) {o : Oper} {s : Nat} {r : AV} {g ao : AOp} (hc : cOp P G g o = some ao) (h : aop ao s T σ = some (r, σ')) : OpRes P U ls w Pr σ γ o a r σ' := by
  unfold cOp at hc
  split at hc
  · rename_i x hop
    obtain ⟨y, hy, rfl⟩ := Option.map_eq_some_iff.1 hc
    exact op_mv hI hG hT (.inl hop) hy h
  · rename_i x hop
    split at hc
    · split at hc
      · rename_i hk; cases hc
        exact op_newl hI hop hk.1 h
      · cases hc
    · obtain ⟨y, hy, rfl⟩ := Option.map_eq_some_iff.1 hc
      exact op_mv hI hG hT (.inr hop) hy h
  · rename_i c x y hop
    split at hc
    · rename_i c' x' y' h1 h2 h3; cases hc
      exact op_pick hI hG hT hop h1 h2 h3 h
    · cases hc
  · rename_i t hop
    split at hc
    · rename_i z hz
      split at hc
      · rename_i hl; cases hc; exact op_alloc hI hop hz hl h
      · cases hc
    · cases hc
  · rename_i t x hop
    split at hc
    · rename_i y k hy hk
      split at hc
      · rename_i hl; cases hc; exact op_box hI hG hT hop hl hy h
      · cases hc
    · rename_i y hy; cases hc; exact op_boxY hI hG hT hop hy h
    · cases hc
  · rename_i t ps hop
    split at hc
    · rename_i z l hz hl ht
      split at hc
      · rename_i hb; cases hc; exact op_build hI hG hT hop hz hl hb.2 hb.1 h
      · cases hc
    · cases hc
  · rename_i t n ps hop
    split at hc
    · rename_i e k l ht hl
      split at hc
      · rename_i z hz
        split at hc
        · rename_i hn; cases hc; exact op_buildSl hI hG hT hop ht hl hz hn h
        · cases hc
      · cases hc
    · rename_i e k l ht hl
      split at hc
      · rename_i z hz
        split at hc
        · rename_i hn; cases hc; exact op_buildSl (grows := false) (s := s) hI hG hT hop ht hl hz hn (by simpa only [aop, Bool.false_eq_true, if_false] using h)
        · cases hc
      · cases hc
    · rename_i e k l ht hl
      split at hc
      · rename_i z hz
        split at hc
        · rename_i hn; cases hc; exact op_buildRf hI hG hT hop ht hl hz hn h
        · cases hc
      · cases hc
    · cases hc
  · rename_i t x y hop
    split at hc
    · rename_i e k x' y' ht hx hy
      split at hc
      · rename_i z i hz hi; cases hc
        exact op_mk hI hG hT hop ht hz hi hx hy h
      · cases hc
    · cases hc
  · rename_i t x hop
    split at hc
    · rename_i k agg y hk hy
      split at hc
      · split at hc
        · rename_i ha; cases hc; subst ha; exact op_loadY hI hG hT hop hk hy h
        · cases hc
      · cases hc; exact op_load hI hG hT hop hk hy h
    · cases hc
  · rename_i t x y hop
    split at hc
    · rename_i k agg x' y' hk hx hy
      split at hc
      · cases hc; exact op_storeF hI hG hT hop hk hx hy h
      · cases hc; exact op_store hI hG hT hop hk hx hy h
    · cases hc
  · rename_i x hop
    obtain ⟨y, hy, rfl⟩ := Option.map_eq_some_iff.1 hc
    exact op_nilck hI hG hT hop hy h
  · rename_i op t x y u hop
    split at hc
    · split at hc
      · rename_i e x' hu
        obtain ⟨y', hy, rfl⟩ := Option.map_eq_some_iff.1 hc
        exact op_isnil hI hG hT hop rfl hu hy h
      · rename_i e x' hu
        obtain ⟨y', hy, rfl⟩ := Option.map_eq_some_iff.1 hc
        exact op_isnil hI hG hT hop rfl hu hy h
      · cases hc
    · split at hc
      · rename_i e x' hu
        obtain ⟨y', hy, rfl⟩ := Option.map_eq_some_iff.1 hc
        exact op_pnil hI hG hT hop rfl hu hy h
      · rename_i e x' hu
        obtain ⟨y', hy, rfl⟩ := Option.map_eq_some_iff.1 hc
        exact op_pnil hI hG hT hop rfl hu hy h
      · cases hc
    · split at hc
      · rename_i ks x' y' h1 h2 h3 h4 h5; cases hc
        exact op_eqagg hI hG hT hop rfl h1 h4 h5 h2 h3 h
      · rename_i ks x' y' h1 h2 h3 h4 h5; cases hc
        exact op_eqagg hI hG hT hop rfl h1 h4 h5 h2 h3 h
      · cases hc
    · split at hc
      · rename_i x' y' d hx hy hu
        split at hc
        · cases hc; exact op_eqb hI hG hT hop rfl hu hx hy h
        · cases hc; exact op_eqb hI hG hT hop rfl hu hx hy h
        · cases hc; exact op_bin hI hG hT hop hx hy h
        · cases hc; exact op_bin hI hG hT hop hx hy h
        · cases hc; exact op_bin hI hG hT hop hx hy h
        · cases hc; exact op_bin hI hG hT hop hx hy h
        · cases hc
        · cases hc
        · cases hc; exact op_bin hI hG hT hop hx hy h
      · cases hc
  · rename_i t x hop
    obtain ⟨y, hy, rfl⟩ := Option.map_eq_some_iff.1 hc
    exact op_not hI hG hT hop hy h
  · rename_i t x hop
    obtain ⟨y, hy, rfl⟩ := Option.map_eq_some_iff.1 hc
    exact op_neg hI hG hT hop hy h
  · rename_i t u x hop
    split at hc
    · rename_i d k y h1 h2 h3; cases hc
      exact op_conv hI hG hT hop h1 h2 h3 h
    · rename_i e y h1 h2 h3
      split at hc
      · rename_i he; cases hc
        exact op_strof hI hG hT hop h1 he h2 h3 h
      · cases hc
    · cases hc
  · rename_i f first caps hop
    split at hc
    · rename_i hf
      obtain ⟨ys, hy, rfl⟩ := Option.map_eq_some_iff.1 hc
      exact op_clo hI hG hT hop hf hy h
    · cases hc
  · rename_i t x lo hi mx hop
    split at hc
    · rename_i e y lo' hi' mx' h1 h2 h3 h4 h5
      split at hc
      · rename_i hm
        split at hc
        · obtain ⟨k, hk, rfl⟩ := Option.map_eq_some_iff.1 hc
          exact op_sliceL hI hG hT hop h1 hk h2 h3 h4 h5 (fun hne hhi => by subst hhi; cases h4; cases mx' <;> simp at hm hne) h
        · obtain ⟨k, hk, rfl⟩ := Option.map_eq_some_iff.1 hc
          exact op_slice hI hG hT hop h1 hk h2 h3 h4 h5 (fun hne hhi => by subst hhi; cases h4; cases mx' <;> simp at hm hne) h
      · cases hc
    · rename_i y lo' hi' h1 h2 h3 h4 h5; cases hc
      have hmx : mx = none := by
        cases mx with
        | none => rfl
        | some x => unfold cOpt at h5; obtain ⟨_, _, h6⟩ := Option.map_eq_some_iff.1 h5; cases h6
      subst hmx
      exact op_sslice hI hG hT hop h1 h2 h3 h4 h
    · rename_i n e y lo' hi' h1 h2 h3 h4 h5
      obtain ⟨k, hk, rfl⟩ := Option.map_eq_some_iff.1 hc
      have hmx : mx = none := by
        cases mx with
        | none => rfl
        | some x => unfold cOpt at h5; obtain ⟨_, _, h6⟩ := Option.map_eq_some_iff.1 h5; cases h6
      subst hmx
      exact op_slarr hI hG hT hop h1 hk h2 h3 h4 h
    · cases hc
  · rename_i t x f hop
    split at hc
    · rename_i off ft y h1 h2
      obtain ⟨k, hk, rfl⟩ := Option.map_eq_some_iff.1 hc
      exact op_fld hI hG hT hop h1 hk h2 h
    · cases hc
  · rename_i t x f hop
    split at hc
    · rename_i off ft y h1 h2
      split at hc
      · rename_i k hk
        split at hc
        · cases hc
        · rename_i hk0; cases hc
          exact op_faddr hI hG hT hop h1 hk hk0 h2 h
      · cases hc
    · cases hc
  · rename_i t x i hop
    split at hc
    · rename_i e y j h1 h2 h3
      obtain ⟨k, hk, rfl⟩ := Option.map_eq_some_iff.1 hc
      exact op_iaddrS hI hG hT hop h1 hk h2 h3 h
    · rename_i n e y j h1 h2 h3
      obtain ⟨k, hk, rfl⟩ := Option.map_eq_some_iff.1 hc
      exact op_iaddrA hI hG hT hop h1 hk h2 h3 h
    · cases hc
  · rename_i t x i hop
    split at hc
    · rename_i y j h1 h2 h3; cases hc
      exact op_sidx hI hG hT hop h1 h2 h3 h
    · rename_i n e y j h1 h2 h3
      obtain ⟨k, hk, rfl⟩ := Option.map_eq_some_iff.1 hc
      exact op_idx hI hG hT hop h1 hk h2 h3 h
    · cases hc
  · rename_i x i hop
    obtain ⟨y, hy, rfl⟩ := Option.map_eq_some_iff.1 hc
    exact op_extr hI hG hT hop hy h
  · rename_i c hop
    split at hc
    · rename_i x t hcl ha ht
      split at hc
      · rename_i e y hu hy; cases hc; exact op_len hI hG hT hop hcl ha ht hu hy h
      · rename_i y hu hy; cases hc; exact op_slen hI hG hT hop hcl ha ht hu hy h
      · rename_i n e y hu hy; cases hc; exact op_lenc hI hop hcl ha ht (.inl ⟨_, hu⟩) h
      · rename_i b y hu hy
        split at hc
        · rename_i n e hb; cases hc; exact op_lenc hI hop hcl ha ht (.inr ⟨_, _, hu, hb⟩) h
        · cases hc
      · cases hc
    · rename_i x y t u hcl ha ht
      split at hc
      · rename_i htu; subst htu
        split at hc
        · rename_i e k x' y' h1 h2 h3
          split at hc
          · rename_i i hi
            split at hc
            · rename_i z hz
              split at hc
              · rename_i hzs
                split at hc
                · cases hc
                  exact op_appIn hI hG hT hop hcl ha ht h1 hi hz hzs.1 h2 h3 h
                · cases hc
                  exact op_append hI hG hT hop hcl ha ht h1 hi hz hzs.1 rfl h2 h3 h
              · cases hc
            · cases hc
          · cases hc
        · cases hc
      · cases hc
    · rename_i x y t u hcl ha ht
      split at hc
      · rename_i e k x' y' h1 h2 h3; cases hc
        exact op_copy hI hG hT hop hcl ha ht h1 h2 h3 h
      · cases hc
    · rename_i x t hcl ha ht
      split at hc
      · rename_i e k y h1 h2
        obtain ⟨z, hz, rfl⟩ := Option.map_eq_some_iff.1 hc
        exact op_clear hI hG hT hop hcl ha ht h1 hz h2 h
      · cases hc
    · rename_i x l hcl ha
      split at hc
      · rename_i x' l' h1 h2; cases hc; exact op_min hI hG hT hop hcl ha h1 h2 h
      · cases hc
    · rename_i x l hcl ha
      split at hc
      · rename_i x' l' h1 h2; cases hc; exact op_max hI hG hT hop hcl ha h1 h2 h
      · cases hc
    · split at hc
      · cases hc; simp [aop] at h
      · cases hc; simp [aop] at h
      · cases hc
    · split at hc
      · cases hc; simp [aop] at h
      · cases hc
    · cases hc
  · cases hc
end Go.Proofs.YtgajekpigkknnaaDoor.A

/- Blocks that are dropped, lists that are never written again, a call's result on its way. No condition. -/
namespace Go.Proofs.YtgajekpigkknnaaDoor.A
open Go
variable {U : Nat → Prop} {w w' : World} {Pr Pr' : Nat → Nat → Prop} {σ σ' : List Blk} {γ γ' : List Ghost} {ls : List Nat} {P : Program} {G : Nat → Option (List AV)}

/-! ### Blocks that are dropped -/
theorem belowL_get {m : Nat} : ∀ {cs : List AV}, belowL m cs = true → ∀ {i : Nat} {a : AV}, cs[i]? = some a → a.refsLt m = true
  | [], _, i, a, h => by simp at h
  | c :: cs, hb, i, a, h => by
    simp only [belowL, Bool.and_eq_true] at hb
    cases i with
    | zero => cases h; exact hb.1
    | succ i => exact belowL_get hb.2 (by simpa using h)
theorem belowR_get {m : Nat} : ∀ {rows : List (List AV)}, belowR m rows = true → ∀ {r : List AV}, r ∈ rows → belowL m r = true
  | [], _, r, h => by cases h
  | x :: rows, hb, r, h => by
    simp only [belowR, Bool.and_eq_true] at hb
    rcases List.mem_cons.1 h with rfl | h
    · exact hb.1
    · exact belowR_get hb.2 h
theorem belowL_mem {m : Nat} {cs : List AV} (hb : belowL m cs = true) {a : AV} (h : a ∈ cs) : a.refsLt m = true := by
  obtain ⟨i, hi, he⟩ := List.mem_iff_getElem.1 h
  exact belowL_get hb (i := i) (by rw [List.getElem?_eq_getElem hi, he])
theorem take_get {α : Type} {l : List α} {m i : Nat} {a : α} (h : (l.take m)[i]? = some a) : i < m ∧ l[i]? = some a := by
  rw [List.getElem?_take] at h
  split at h
  · rename_i hi; exact ⟨hi, h⟩
  · cases h
theorem get_take {α : Type} {l : List α} {m i : Nat} {a : α} (hi : i < m) (h : l[i]? = some a) : (l.take m)[i]? = some a := by
  rw [List.getElem?_take, if_pos hi]; exact h
theorem get_take' {α : Type} {l : List α} {m i : Nat} (hi : i < m) : (l.take m)[i]? = l[i]? := by rw [List.getElem?_take, if_pos hi]

theorem Rep.trunc {m : Nat} {a : AV} {v : Value} (h : Rep w Pr σ γ ls a v) (hr : a.refsLt m = true) : Rep w Pr (σ.take m) (γ.take m) ls a v := by
  induction h with
  | undef v => exact .undef v
  | bool b => exact .bool b
  | int k n => exact .int k n
  | str s => exact .str s
  | nilp => exact .nilp
  | nilf => exact .nilf
  | ro0 a c => exact .ro0 a c
  | ro rows b off k c vs h1 h2 h3 h4 h5 h6 h7 _ => exact .ro rows b off k c vs h1 h2 h3 h4 h5 h6 (fun i a v ha hv => (h7 i a v ha hv).data (List.all_eq_true.1 h6 a (List.mem_of_getElem? ha)))
  | clip rows a h _ => exact .clip rows a (h.data rfl)
  | lisOld id gen off len lk g e k rows u h1 h2 ho =>
    simp only [AV.refsLt, decide_eq_true_eq] at hr
    exact .lisOld id gen off len lk g e k rows u (get_take hr h1) h2 ho
  | lis id off len lk g e k rows gh u h1 h2 h3 h4 =>
    simp only [AV.refsLt, decide_eq_true_eq] at hr
    exact .lis id off len lk g e k rows gh u (get_take hr h1) (get_take hr h2) h3 h4
  | ptrB id off lk e row gh h1 h2 =>
    simp only [AV.refsLt, decide_eq_true_eq] at hr
    exact .ptrB id off lk e row gh (get_take hr h1) (get_take hr h2)
  | ptrOld id gen row off lk g e k rows b o h1 h2 =>
    simp only [AV.refsLt, decide_eq_true_eq] at hr
    exact .ptrOld id gen row off lk g e k rows b o (get_take hr h1) h2
  | ptrL id row off lk g e k rows gh gb h1 h2 h3 h4 =>
    simp only [AV.refsLt, decide_eq_true_eq] at hr
    exact .ptrL id row off lk g e k rows gh gb (get_take hr h1) (get_take hr h2) h3 h4
  | rp row off b o vs h1 h2 h3 h4 _ => exact .rp row off b o vs h1 h2 h3 (fun i a v ha hv => (h4 i a v ha hv).data (List.all_eq_true.1 h3 a (List.mem_of_getElem? ha)))
  | refs rows b off k c vs h1 h2 h3 h4 h5 h6 h7 ih =>
    refine .refs rows b off k c vs h1 h2 h3 h4 h5 h6 (fun i a v ha hv => ih i a v ha hv ?_)
    obtain ⟨r, hr1, hr2⟩ := List.mem_flatten.1 (List.mem_of_getElem? ha)
    exact belowL_mem (belowR_get (by simpa [AV.refsLt] using hr) hr1) hr2
  | rq row off b o vs h1 h2 h3 h4 ih => exact .rq row off b o vs h1 h2 h3 (fun i a v ha hv => ih i a v ha hv (belowL_get (by simpa [AV.refsLt] using hr) ha))
  | clo f caps vs h1 h2 ih => exact .clo f caps vs h1 (fun i a v ha hv => ih i a v ha hv (belowL_get (by simpa [AV.refsLt] using hr) ha))
  | yld d l h => exact .yld d l h
  | yp d l b o h hv => exact .yp d l b o h hv
  | agg cs vs h1 h2 h3 ih => exact .agg cs vs h1 h2 (fun i a v ha hv => ih i a v ha hv (belowL_get (by simpa [AV.refsLt] using hr) ha))
  | tup cs vs h1 h2 ih => exact .tup cs vs h1 (fun i a v ha hv => ih i a v ha hv (belowL_get (by simpa [AV.refsLt] using hr) ha))

theorem memB_take {m id : Nat} : memB (σ.take m) (γ.take m) id = if id < m then memB σ γ id else none := by
  by_cases hi : id < m
  · rw [if_pos hi]; unfold memB; rw [get_take' hi, get_take' hi]
  · rw [if_neg hi]; unfold memB; rw [List.getElem?_take, if_neg hi]
theorem memB_take' {m id b : Nat} (h : memB (σ.take m) (γ.take m) id = some b) : id < m ∧ memB σ γ id = some b := by
  rw [memB_take] at h
  split at h
  · rename_i hi; exact ⟨hi, h⟩
  · cases h
theorem belowAll_box {m : Nat} (hb : belowAll m (σ.take m) = true) {id lk : Nat} {e : TypeId} {row : List AV} (h : (σ.take m)[id]? = some (.box lk e row)) : belowL m row = true :=
  List.all_eq_true.1 hb _ (List.mem_of_getElem? h)
theorem Inv.trunc (h : Inv U w Pr σ γ) {m : Nat} (hb : belowAll m (σ.take m) = true) : Inv U w Pr (σ.take m) (γ.take m) := by
  refine ⟨by simp [h.len], fun id lk e row hi => ?_, fun id lk g e k rows hi => ?_, fun id blk b hi hlk hm => ?_, fun id blk b hi hlk hm => ?_, fun i j b hi hj => ?_, h.old, h.new⟩
  · obtain ⟨hlt, hi'⟩ := take_get hi
    obtain ⟨gh, cs, h1, h2, h3, h4⟩ := h.box id lk e row hi'
    exact ⟨gh, cs, get_take hlt h1, h2, ⟨h3.1, fun i a v ha hv => (h3.2 i a v ha hv).trunc (belowL_get (belowAll_box hb hi) ha)⟩, h4⟩
  · obtain ⟨hlt, hi'⟩ := take_get hi
    obtain ⟨gh, vs, h1, h2, h3, h4, h5, h6, h7⟩ := h.lst id lk g e k rows hi'
    exact ⟨gh, vs, get_take hlt h1, h2, h3, h4, h5, h6.data h4, h7⟩
  · exact h.free id blk b (take_get hi).2 hlk (memB_take' hm).2
  · exact h.fix id blk b (take_get hi).2 hlk (memB_take' hm).2
  · exact h.inj i j b (memB_take' hi).2 (memB_take' hj).2
theorem Keeps.trunc {σ0 : List Blk} {γ0 : List Ghost} (h : Keeps σ0 γ0 σ γ) {m : Nat} (hm : σ0.length ≤ m) : Keeps σ0 γ0 (σ.take m) (γ.take m) := by
  refine ⟨fun id lk e row hi => ?_, fun id lk g e k rows hi => ?_⟩
  · have hlt : id < m := Nat.lt_of_lt_of_le (List.getElem?_eq_some_iff.1 hi).1 hm
    obtain ⟨lk', row', h1, h2⟩ := h.box id lk e row hi
    exact ⟨lk', row', get_take hlt h1, by rw [get_take' hlt]; exact h2⟩
  · have hlt : id < m := Nat.lt_of_lt_of_le (List.getElem?_eq_some_iff.1 hi).1 hm
    obtain ⟨lk', g', rows', h1, h2⟩ := h.lst id lk g e k rows hi
    exact ⟨lk', g', rows', get_take hlt h1, by rw [get_take' hlt]; exact h2⟩

/-! ### Lists that are never written again -/
def lockB : Blk → Blk
  | .lst _ g e k rows => .lst 2 g e k rows
  | b => b
theorem lockAt_get (σ : List Blk) (id j : Nat) : (lockAt σ id)[j]? = if j = id then (σ[j]?).map lockB else σ[j]? := by
  unfold lockAt
  split
  · rename_i lk g e k rows hi
    have hl := (List.getElem?_eq_some_iff.1 hi).1
    by_cases hj : j = id
    · subst hj; rw [if_pos rfl, List.getElem?_set_self hl, hi]; rfl
    · rw [if_neg hj, List.getElem?_set_ne (Ne.symm hj)]
  · rename_i hn
    split
    · rename_i hj; subst hj
      cases hs : σ[j]? with
      | none => rfl
      | some b =>
        cases b with
        | lst lk g e k rows => exact (hn _ _ _ _ _ hs).elim
        | _ => rfl
    · rfl
theorem lockB_lockB (b : Blk) : lockB (lockB b) = lockB b := by cases b <;> rfl
theorem lockAll_get : ∀ (ids : List Nat) (σ : List Blk) (j : Nat), (lockAll ids σ)[j]? = if j ∈ ids then (σ[j]?).map lockB else σ[j]?
  | [], σ, j => by simp [lockAll]
  | i :: ids, σ, j => by
    rw [lockAll, lockAll_get ids, lockAt_get]
    by_cases hji : j = i
    · subst hji
      simp only [if_true, List.mem_cons, true_or]
      split
      · rw [Option.map_map]; congr 1; funext b; exact lockB_lockB b
      · rfl
    · simp only [hji, if_false, List.mem_cons, false_or]
theorem Inv.lockAll : ∀ (ids : List Nat) {σ : List Blk} {Pr : Nat → Nat → Prop}, Inv U w Pr σ γ →
    ∃ Pr', Inv U w Pr' (A.lockAll ids σ) γ ∧ Keeps σ γ (A.lockAll ids σ) γ ∧ Evo U ls w Pr w Pr'
  | [], σ, Pr, h => ⟨Pr, h, Keeps.refl _ _, Evo.refl _ _ _ _⟩
  | i :: ids, σ, Pr, h => by
    have key : ∃ Pr1, Inv U w Pr1 (lockAt σ i) γ ∧ Keeps σ γ (lockAt σ i) γ ∧ Evo U ls w Pr w Pr1 := by
      cases hi : σ[i]? with
      | none => rw [show lockAt σ i = σ from by unfold lockAt; rw [hi]]; exact ⟨Pr, h, Keeps.refl _ _, Evo.refl _ _ _ _⟩
      | some b =>
        cases b with
        | lst lk g e k rows => obtain ⟨Pr', h1, h2, h3, _⟩ := lockAt_step (ls := ls) h hi; exact ⟨Pr', h1, h2, h3⟩
        | dead => rw [show lockAt σ i = σ from by unfold lockAt; rw [hi]]; exact ⟨Pr, h, Keeps.refl _ _, Evo.refl _ _ _ _⟩
        | box lk e row => rw [show lockAt σ i = σ from by unfold lockAt; rw [hi]]; exact ⟨Pr, h, Keeps.refl _ _, Evo.refl _ _ _ _⟩
    obtain ⟨Pr1, h1, h2, h3⟩ := key
    obtain ⟨Pr2, h4, h5, h6⟩ := Inv.lockAll ids h1
    exact ⟨Pr2, h4, h2.trans h5, h3.trans h6⟩
theorem rowsOf_lockAll {id gen off len : Nat} : ∀ (ids : List Nat) (σ : List Blk), rowsOf (lockAll ids σ) (.lis id gen off len) = rowsOf σ (.lis id gen off len)
  | [], σ => rfl
  | i :: ids, σ => by rw [lockAll, rowsOf_lockAll ids, rowsOf_lock]
/-- Of a locked list, rows. -/
theorem lis_locked {ids : List Nat} (h : Inv U w Pr (lockAll ids σ) γ) {id gen off len : Nat} {v : Value} (ha : Rep w Pr (lockAll ids σ) γ ls (.lis id gen off len) v) {rows : List (List AV)} (hr : rowsOf σ (.lis id gen off len) = some rows) (hid : id ∈ ids) :
    Rep w Pr (lockAll ids σ) γ ls (.ro rows) v := by
  refine (lis_ro h ha (by rw [rowsOf_lockAll]; exact hr) (fun b blk hb hm => ?_)).1
  obtain ⟨lk, g, e, k, rr, hi⟩ : ∃ lk g e k rr, σ[id]? = some (.lst lk g e k rr) := by
    simp only [rowsOf] at hr
    split at hr
    · rename_i lk g e k rr hi; exact ⟨_, _, _, _, _, hi⟩
    · cases hr
  have h2 : blk.lock = 2 := by rw [lockAll_get, if_pos hid, hi] at hb; cases hb; rfl
  exact h.fix id blk b hb h2 hm
end Go.Proofs.YtgajekpigkknnaaDoor.A

/- A call's result by value: what it is in memory; how it comes to the caller. No condition. -/
namespace Go.Proofs.YtgajekpigkknnaaDoor.A
open Go
variable {U : Nat → Prop} {w w' : World} {Pr Pr' : Nat → Nat → Prop} {σ σ' : List Blk} {γ γ' : List Ghost} {ls : List Nat} {P : Program} {G : Nat → Option (List AV)}

/-- What one value of a result is. n: from that block on, all is new. -/
def OutC (w : World) (Pr : Nat → Nat → Prop) (n : Nat) (a : AV) (v : Value) : Prop :=
  match a with
  | .fresh e k rows => 0 < k ∧ (∀ r ∈ rows, r.length = k) ∧ dataL rows.flatten = true ∧ ∃ vs, LstV w e k v rows.length vs ∧ RepL w Pr [] [] rows.flatten vs ∧ (∀ u ∈ vs, u.oneCell' = true) ∧ ∀ b, blkOf v = some b → n ≤ b ∧ ∀ i, ¬ Pr b i
  | a => Rep w Pr [] [] [] a v
def frBlk (a : AV) (v : Value) : List Nat :=
  match a with
  | .fresh _ _ _ => (blkOf v).toList
  | _ => []
/-- Values of which no two share a list that may grow; D: lists that are taken. -/
def OutL (w : World) (Pr : Nat → Nat → Prop) (n : Nat) : List Nat → List AV → List Value → Prop
  | _, [], [] => True
  | D, a :: as, v :: vs => OutC w Pr n a v ∧ (∀ b ∈ frBlk a v, b ∉ D) ∧ OutL w Pr n (D ++ frBlk a v) as vs
  | _, _, _ => False
def Out (w : World) (Pr : Nat → Nat → Prop) (n : Nat) (r : AV) (v : Value) : Prop :=
  match r with
  | .tup as => ∃ vs, v = .tuple vs.toArray ∧ OutL w Pr n [] as vs
  | .agg as => ∃ vs, v = .agg vs.toArray ∧ (∀ u ∈ vs, u.oneCell' = true) ∧ OutL w Pr n [] as vs
  | a => OutC w Pr n a v

theorem mapM_cons_inv {α β : Type} {f : α → Option β} {a : α} {l : List α} {ys : List β} (h : (a :: l).mapM f = some ys) : ∃ y r, f a = some y ∧ l.mapM f = some r ∧ ys = y :: r := by
  rw [List.mapM_cons] at h
  cases hy : f a with
  | none => rw [hy] at h; cases h
  | some y =>
    cases hr : l.mapM f with
    | none => rw [hy, hr] at h; cases h
    | some r => rw [hy, hr] at h; cases h; exact ⟨y, r, rfl, rfl, rfl⟩
theorem mapM_nil_inv {α β : Type} {f : α → Option β} {ys : List β} (h : ([] : List α).mapM f = some ys) : ys = [] := by
  rw [List.mapM_nil] at h; cases h; rfl

/-- The lists of a value that go out as rows. -/
def roC (fr : Bool) (σ : List Blk) (a : AV) : List Nat :=
  match a with
  | .lis id _ _ _ => match expCell fr σ a with
    | some (.fresh _ _ _) => []
    | _ => [id]
  | _ => []
theorem Rep.ofData {a : AV} {v : Value} (h : Rep w Pr σ γ ls a v) (hd : a.isData = true) (hs : Stays w Pr w Pr') : Rep w Pr' [] [] [] a v := (h.mono hs (Keeps.refl _ _) (fun _ _ h => h)).data hd

/-- One value on its way out. -/
theorem exp_cell (h : Inv U w Pr σ γ) {ids : List Nat} (h' : Inv U w Pr' (lockAll ids σ) γ) (hK : Keeps σ γ (lockAll ids σ) γ) (hE : Evo U ls w Pr w Pr') {n : Nat} (hU : ∀ b, U b → n ≤ b) {fr : Bool} {a r : AV} {v : Value} (ha : Rep w Pr σ γ [] a v) (he : expCell fr σ a = some r)
    (hro : ∀ id ∈ roC fr σ a, id ∈ ids) (hfr : ∀ id gen off len, a = .lis id gen off len → roC fr σ a = [] → id ∉ ids) :
    OutC w Pr' n r v ∧ ∀ b ∈ frBlk r v, fr = true ∧ ∃ id gen off len, a = .lis id gen off len ∧ memB σ γ id = some b := by
  unfold expCell at he
  split at he
  · rename_i rows; cases he
    cases ha with
    | clip rows a hc => exact ⟨hc.ofData rfl hE.stays, fun b hb => by cases hb⟩
  · rename_i id gen off len
    split at he
    · rename_i lk g e k rows hi
      split at he
      · rename_i l hl
        cases he
        split
        · rename_i hc
          obtain ⟨hf, hlk, ho, hlen⟩ := hc
          subst ho; subst hlk; subst hlen
          have hr0 : roC fr σ (.lis id gen 0 rows.length) = [] := by
            simp [roC, expCell, hi, hl, hf]
          have hni := hfr id gen 0 rows.length rfl hr0
          have hi' : (lockAll ids σ)[id]? = some (.lst 0 g e k rows) := by rw [lockAll_get, if_neg hni]; exact hi
          cases ha with
          | lisOld id gen off len lk' g' e' k' rows' u h1 h2 ho =>
            simp only [rowsOf, h1] at hl
            rw [if_neg (by omega)] at hl; cases hl
          | lis id off len lk' g' e' k' rows' gh u h1 h2 h3 h4 =>
            rw [hi] at h1; cases h1
            simp only [rowsOf, hi] at hl
            rw [if_pos (by simp)] at hl
            have hl' : l = rows := by have := (Option.some.inj hl).symm; rw [this]; simp
            subst hl'
            obtain ⟨gh', vs, h5, h6, h7, h8, h9, h10, h11⟩ := h'.lst _ _ _ _ _ _ hi'
            rw [h2] at h5; cases h5
            have hu : v = gh.v := by
              obtain ⟨base, n0, cap, hv, ⟨_, he1, _, _⟩ | ⟨h0, _⟩⟩ := h4
              · obtain ⟨_, ⟨hn, a', hx⟩ | ⟨g2, c, cur, hx, _⟩⟩ := h9
                · rw [hx] at hv; cases hv; rw [he1, hx]; rw [hn]
                · rw [hx] at hv; cases hv; rw [he1, hx]
              · omega
            subst hu
            refine ⟨⟨h6, h7, h8, vs, h9, h10.data h8, h11, fun b hb => ?_⟩, fun b hb => ?_⟩
            · have hm : memB (lockAll ids σ) γ id = some b := (memB_lst hi' h2).trans hb
              obtain ⟨h12, h13⟩ := h'.free id _ b hi' (by simp [Blk.lock]) hm
              exact ⟨hU b h12, h13⟩
            · exact ⟨hf, id, gen, 0, _, rfl, (memB_lst hi h2).trans (by simpa [frBlk] using hb)⟩
        · rename_i hc
          have hr1 : roC fr σ (.lis id gen off len) = [id] := by
            simp only [roC, expCell, hi, hl]; rw [if_neg hc]
          have := lis_locked h' (ha.mono hE.stays hK (fun _ _ h => h)) hl (hro id (by rw [hr1]; simp))
          exact ⟨this.data rfl, fun b hb => by cases hb⟩
      · cases he
    · cases he
  · rename_i hn1 hn2
    split at he
    · rename_i hd; cases he
      have := ha.ofData hd hE.stays
      refine ⟨?_, ?_⟩
      · cases a <;> first | exact this | cases hd
      · intro b hb; cases a <;> first | cases hb | cases hd
    · cases he

/-! ### Rows of values on their way out -/
theorem outL_of {f : AV → Option AV} {I : AV → List Nat} {n : Nat} {fr : Bool} (hinj : ∀ id id' b, memB σ γ id = some b → memB σ γ id' = some b → id = id') : ∀ {as rs : List AV} {vs : List Value} {D : List Nat},
    RepL w Pr σ γ as vs → as.mapM f = some rs →
    (∀ a ∈ as, ∀ v r, Rep w Pr σ γ [] a v → f a = some r → OutC w Pr' n r v ∧ ∀ b ∈ frBlk r v, fr = true ∧ ∃ id ∈ I a, memB σ γ id = some b) →
    (fr = true → (as.flatMap I).Nodup) → (∀ b ∈ D, ∀ id ∈ as.flatMap I, memB σ γ id ≠ some b) → OutL w Pr' n D rs vs
  | [], rs, vs, D, hr, hm, hs, hn, hD => by
    have := mapM_nil_inv hm; subst this
    rw [hr.nil_inv]; trivial
  | a :: as, rs, vs, D, hr, hm, hs, hn, hD => by
    obtain ⟨r, rs', h1, h2, rfl⟩ := mapM_cons_inv hm
    obtain ⟨v, vs', rfl, h3, h4⟩ := hr.cons_inv
    obtain ⟨h5, h6⟩ := hs a (by simp) v r h3 h1
    refine ⟨h5, fun b hb hbD => ?_, outL_of hinj h4 h2 (fun a ha => hs a (by simp [ha])) (fun hf => ?_) (fun b hb id hid hm' => ?_)⟩
    · obtain ⟨_, id, hid, hm'⟩ := h6 b hb
      exact hD b hbD id (by simp only [List.flatMap_cons, List.mem_append]; exact .inl hid) hm'
    · have := hn hf
      simp only [List.flatMap_cons, List.nodup_append] at this
      exact this.2.1
    · rcases List.mem_append.1 hb with hb | hb
      · exact hD b hb id (by simp only [List.flatMap_cons, List.mem_append]; exact .inr hid) hm'
      · obtain ⟨hf, id', hid', hm2⟩ := h6 b hb
        have := hinj _ _ _ hm' hm2
        subst this
        have hnd := hn hf
        simp only [List.flatMap_cons, List.nodup_append] at hnd
        exact hnd.2.2 _ hid' _ hid rfl
theorem notIn_ro {I ro : AV → List Nat} (hsub : ∀ x, ∀ i ∈ ro x, i ∈ I x) : ∀ {as : List AV}, (as.flatMap I).Nodup → ∀ {a : AV} {id : Nat}, a ∈ as → id ∈ I a → ro a = [] → id ∉ as.flatMap ro
  | [], _, a, id, ha, _, _ => by cases ha
  | x :: l, hn, a, id, ha, hid, hro => by
    simp only [List.flatMap_cons, List.nodup_append] at hn
    intro hm
    simp only [List.flatMap_cons, List.mem_append] at hm
    have inl : id ∈ l.flatMap ro → id ∈ l.flatMap I := fun h => by
      obtain ⟨y, hy, hi⟩ := List.mem_flatMap.1 h
      exact List.mem_flatMap.2 ⟨y, hy, hsub y id hi⟩
    cases ha with
    | head =>
      rcases hm with hm | hm
      · rw [hro] at hm; cases hm
      · exact hn.2.2 _ hid _ (inl hm) rfl
    | tail _ ha =>
      rcases hm with hm | hm
      · exact hn.2.2 _ (hsub x id hm) _ (List.mem_flatMap.2 ⟨a, ha, hid⟩) rfl
      · exact notIn_ro hsub hn.2.1 ha hid hro hm

def lisId : AV → List Nat
  | .lis id _ _ _ => [id]
  | _ => []
def itemIds : AV → List Nat
  | .lis id _ _ _ => [id]
  | .agg cs => if dataL cs then [] else mutIds cs
  | _ => []
theorem mutIds_eq : ∀ (l : List AV), mutIds l = l.flatMap lisId
  | [] => rfl
  | a :: l => by cases a <;> simp [mutIds, lisId, mutIds_eq l]
theorem argIds_eq : ∀ (l : List AV), argIds l = l.flatMap itemIds
  | [] => rfl
  | a :: l => by cases a <;> simp [argIds, itemIds, argIds_eq l]
theorem roC_sub (fr : Bool) (σ : List Blk) (a : AV) : ∀ i ∈ roC fr σ a, i ∈ lisId a := by
  intro i hi
  cases a <;> simp only [roC] at hi <;> first | (cases hi; done) | skip
  split at hi
  · cases hi
  · exact hi
theorem roC_fr {fr : Bool} {σ : List Blk} {id gen off len : Nat} (h : roC fr σ (.lis id gen off len) = []) : fr = true := by
  unfold roC at h
  simp only [expCell] at h
  cases fr with
  | true => rfl
  | false =>
    exfalso
    revert h
    split
    · rename_i heq
      intro _
      revert heq
      repeat' split
      all_goals (intro hq; first | (cases hq; done) | (cases hq; simp_all))
    · intro h; cases h
def roI' (fr : Bool) (σ : List Blk) (a : AV) : List Nat :=
  match a with
  | .agg cs => if dataL cs then [] else cs.flatMap (roC false σ)
  | a => roC fr σ a
theorem roI_sub (fr : Bool) (σ : List Blk) (a : AV) : ∀ i ∈ roI' fr σ a, i ∈ itemIds a := by
  intro i hi
  cases a with
  | agg cs =>
    simp only [roI'] at hi
    split at hi
    · cases hi
    · rename_i hd
      simp only [itemIds, hd, if_false, Bool.false_eq_true, mutIds_eq]
      obtain ⟨c, hc, h⟩ := List.mem_flatMap.1 hi
      exact List.mem_flatMap.2 ⟨c, hc, roC_sub _ _ _ _ h⟩
  | lis id gen off len => exact roC_sub fr σ (.lis id gen off len) i hi
  | _ => cases hi
theorem expCell_noFresh {σ : List Blk} {a r : AV} (h : expCell false σ a = some r) : ∀ e k rows, r ≠ .fresh e k rows := by
  rintro e k rows rfl
  unfold expCell at h
  split at h
  · cases h
  · repeat' split at h
    all_goals first | (cases h; done) | (cases h; simp_all)
  · split at h
    · rename_i hd; cases h; cases hd
    · cases h
theorem OutC.rep {n : Nat} {r : AV} {v : Value} (h : OutC w Pr n r v) (hn : ∀ e k rows, r ≠ .fresh e k rows) : Rep w Pr [] [] [] r v := by
  cases r <;> first | exact h | exact absurd rfl (hn _ _ _)

theorem expCell_shape {fr : Bool} {σ : List Blk} {a r : AV} (h : expCell fr σ a = some r) : (∀ as, r ≠ .tup as) ∧ ∀ as, r ≠ .agg as := by
  unfold expCell at h
  split at h
  · cases h; exact ⟨fun _ h => (by cases h), fun _ h => (by cases h)⟩
  · repeat' split at h
    all_goals first | (cases h; done) | (cases h; exact ⟨fun _ h => (by cases h), fun _ h => (by cases h)⟩)
  · split at h
    · rename_i hd; cases h
      exact ⟨fun _ h => (by subst h; cases hd), fun _ h => (by subst h; cases hd)⟩
    · cases h
theorem OutC.out {n : Nat} {r : AV} {v : Value} (h : OutC w Pr n r v) (hn : (∀ as, r ≠ .tup as) ∧ ∀ as, r ≠ .agg as) : Out w Pr n r v := by
  cases r <;> first | exact h | exact absurd rfl (hn.1 _) | exact absurd rfl (hn.2 _)

/-- A result on its way out. -/
theorem exp_res (h : Inv U w Pr σ γ) {n : Nat} (hU : ∀ b, U b → n ≤ b) {fr : Bool} {a r : AV} {v : Value} (ha : Rep w Pr σ γ [] a v) (he : expRes fr σ a = some r) :
    ∃ Pr', Evo U ls w Pr w Pr' ∧ (∀ b i, Pr' b i → b < w.heap.size) ∧ Out w Pr' n r v := by
  have aggData : ∀ {cs : List AV} {v : Value} {Pr' : Nat → Nat → Prop}, Stays w Pr w Pr' → Rep w Pr σ γ [] (.agg cs) v → dataL cs = true → ∃ vs, v = .agg vs.toArray ∧ (∀ u ∈ vs, u.oneCell' = true) ∧ RepL w Pr' [] [] cs vs := fun {cs v Pr'} hs ha hd => by
    obtain ⟨vs, rfl, h1, h2⟩ := agg_inv ha
    exact ⟨vs, rfl, h2, (h1.mono hs (Keeps.refl _ _)).data hd⟩
  cases a with
  | tup as =>
    simp only [expRes] at he
    split at he
    · cases he
    rename_i hn
    obtain ⟨rs, hm, rfl⟩ := Option.map_eq_some_iff.1 he
    obtain ⟨vs, rfl, hr⟩ := tup_inv ha
    obtain ⟨Pr', h', hK, hE⟩ := Inv.lockAll (ls := ls) (as.flatMap (roI' fr σ)) h
    have hnd : fr = true → (as.flatMap itemIds).Nodup := fun hf => by
      rw [← argIds_eq]; exact Classical.byContradiction fun hx => hn ⟨hf, hx⟩
    refine ⟨Pr', hE, h'.old, vs, rfl, outL_of (I := itemIds) (fr := fr) h.inj hr hm ?_ hnd (fun b hb => by cases hb)⟩
    intro a hma v r hav har
    have hroIn : ∀ id ∈ roI' fr σ a, id ∈ as.flatMap (roI' fr σ) := fun id hid => List.mem_flatMap.2 ⟨a, hma, hid⟩
    have plain : ∀ a, a ∈ as → Rep w Pr σ γ [] a v → expCell fr σ a = some r → roI' fr σ a = roC fr σ a → itemIds a = lisId a → OutC w Pr' n r v ∧ ∀ b ∈ frBlk r v, fr = true ∧ ∃ id ∈ itemIds a, memB σ γ id = some b := fun a hma hav har hro hit => by
      obtain ⟨h1, h2⟩ := exp_cell h h' hK hE hU hav har (fun id hid => List.mem_flatMap.2 ⟨a, hma, by rw [hro]; exact hid⟩) (fun id gen off len e hr0 => by
        subst e
        exact notIn_ro (roI_sub fr σ) (hnd (roC_fr hr0)) hma (by simp [itemIds]) (by rw [hro]; exact hr0))
      refine ⟨h1, fun b hb => ?_⟩
      obtain ⟨hf, id, gen, off, len, rfl, hm⟩ := h2 b hb
      exact ⟨hf, id, by simp [itemIds], hm⟩
    cases a with
    | agg cs =>
      simp only [expIn] at har
      split at har
      · rename_i hd; cases har
        obtain ⟨us, rfl, h2, h3⟩ := aggData hE.stays hav hd
        exact ⟨.agg cs us h3.1 h2 h3.2, fun b hb => by cases hb⟩
      · rename_i hd
        obtain ⟨rs', hm', rfl⟩ := Option.map_eq_some_iff.1 har
        obtain ⟨us, rfl, h1, h2⟩ := agg_inv hav
        refine ⟨?_, fun b hb => by cases hb⟩
        have key : ∀ {cs : List AV} {us : List Value} {rs' : List AV}, RepL w Pr σ γ cs us → cs.mapM (expCell false σ) = some rs' → (∀ id ∈ cs.flatMap (roC false σ), id ∈ as.flatMap (roI' fr σ)) → RepL w Pr' [] [] rs' us := by
          intro cs
          induction cs with
          | nil => intro us rs' h1 hm _; have := mapM_nil_inv hm; subst this; rw [h1.nil_inv]; exact RepL.nil
          | cons c cs ih =>
            intro us rs' h1 hm hids
            obtain ⟨r1, rs1, e1, e2, rfl⟩ := mapM_cons_inv hm
            obtain ⟨u1, us1, rfl, e3, e4⟩ := h1.cons_inv
            refine RepL.cons ?_ (ih e4 e2 (fun id hid => hids id (by simp only [List.flatMap_cons, List.mem_append]; exact .inr hid)))
            have := (exp_cell h h' hK hE hU e3 e1 (fun id hid => hids id (by simp only [List.flatMap_cons, List.mem_append]; exact .inl hid)) (fun id gen off len e hr0 => by
              subst e; have := roC_fr hr0; cases this)).1
            exact this.rep (expCell_noFresh e1)
        have h3 := key h1 hm' (fun id hid => hroIn id (by simp only [roI', hd, if_false, Bool.false_eq_true]; exact hid))
        exact .agg rs' us h3.1 h2 h3.2
    | _ => exact plain _ hma hav har rfl rfl
  | agg cs =>
    simp only [expRes] at he
    split at he
    · rename_i hd; cases he
      obtain ⟨us, rfl, h2, h3⟩ := aggData (Stays.refl w Pr) ha hd
      refine ⟨Pr, Evo.refl _ _ _ _, h.old, us, rfl, h2, ?_⟩
      have key : ∀ {cs : List AV} {us : List Value} {D : List Nat}, RepL w Pr [] [] cs us → dataL cs = true → OutL w Pr n D cs us := by
        intro cs
        induction cs with
        | nil => intro us D h1 _; rw [h1.nil_inv]; trivial
        | cons c cs ih =>
          intro us D h1 hd
          obtain ⟨u1, us1, rfl, e3, e4⟩ := h1.cons_inv
          simp only [dataL, List.all_cons, Bool.and_eq_true] at hd
          refine ⟨?_, ?_, ih e4 hd.2⟩
          · cases c <;> first | exact e3 | cases hd.1
          · intro b hb; cases c <;> first | cases hb | cases hd.1
      exact key h3 hd
    · rename_i hd
      split at he
      · cases he
      rename_i hn
      obtain ⟨rs, hm, rfl⟩ := Option.map_eq_some_iff.1 he
      obtain ⟨vs, rfl, hr, h1⟩ := agg_inv ha
      obtain ⟨Pr', h', hK, hE⟩ := Inv.lockAll (ls := ls) (cs.flatMap (roC fr σ)) h
      have hnd : fr = true → (cs.flatMap lisId).Nodup := fun hf => by
        rw [← mutIds_eq]; exact Classical.byContradiction fun hx => hn ⟨hf, hx⟩
      refine ⟨Pr', hE, h'.old, vs, rfl, h1, outL_of (I := lisId) (fr := fr) h.inj hr hm ?_ hnd (fun b hb => by cases hb)⟩
      intro a hma v r hav har
      obtain ⟨h1, h2⟩ := exp_cell h h' hK hE hU hav har (fun id hid => List.mem_flatMap.2 ⟨a, hma, hid⟩) (fun id gen off len e hr0 => by
        subst e
        exact notIn_ro (roC_sub fr σ) (hnd (roC_fr hr0)) hma (by simp [lisId]) hr0)
      refine ⟨h1, fun b hb => ?_⟩
      obtain ⟨hf, id, gen, off, len, rfl, hm⟩ := h2 b hb
      exact ⟨hf, id, by simp [lisId], hm⟩
  | _ =>
    simp only [expRes] at he
    obtain ⟨Pr', h', hK, hE⟩ := Inv.lockAll (ls := ls) (roC fr σ _) h
    have h9 := (exp_cell h h' hK hE hU ha he (fun id hid => hid) (fun id gen off len e hr0 => by rw [hr0]; simp)).1
    exact ⟨Pr', hE, h'.old, h9.out (expCell_shape he)⟩
end Go.Proofs.YtgajekpigkknnaaDoor.A

/- A call's result comes to the caller. No condition. -/
namespace Go.Proofs.YtgajekpigkknnaaDoor.A
open Go
variable {U : Nat → Prop} {w w' : World} {Pr Pr' : Nat → Nat → Prop} {σ σ' : List Blk} {γ γ' : List Ghost} {ls : List Nat} {P : Program} {G : Nat → Option (List AV)}

theorem Keeps.nil (σ : List Blk) (γ : List Ghost) : Keeps [] [] σ γ := ⟨fun id lk e row h => by simp at h, fun id lk g e k rows h => by simp at h⟩

/-- A list that a callee has made. -/
theorem Inv.adopt (h : Inv U w Pr σ γ) {s : Nat} (hs : σ[s]? = some .dead) (e : TypeId) (k : Nat) (rows : List (List AV)) (v : Value) (vs : List Value)
    (hk : 0 < k) (hrk : ∀ r ∈ rows, r.length = k) (hd : dataL rows.flatten = true) (hv : LstV w e k v rows.length vs) (hr : RepL w Pr σ γ rows.flatten vs) (h1 : ∀ u ∈ vs, u.oneCell' = true)
    (hb : ∀ b, blkOf v = some b → U b ∧ (∀ i, ¬ Pr b i) ∧ ∀ j, memB σ γ j ≠ some b) :
    Inv U w Pr (σ.set s (.lst 0 0 e k rows)) (γ.set s ⟨0, v⟩) ∧ Keeps σ γ (σ.set s (.lst 0 0 e k rows)) (γ.set s ⟨0, v⟩) := by
  have hl := (List.getElem?_eq_some_iff.1 hs).1
  have hK := Keeps.dead (γ := γ) hs (.lst 0 0 e k rows) ⟨0, v⟩
  have hm := memB_set_eq (blk := .lst 0 0 e k rows) (gh := ⟨0, v⟩) hl (by rw [h.len]; exact hl)
  refine ⟨h.step (ls' := []) s _ _ (Evo.refl _ _ _ _) hl hK (fun _ _ _ _ => rfl) (fun _ _ _ _ _ hp => hp) h.old ?_ ?_ ?_ ?_ ?_, hK⟩
  · rintro lk e' row' ⟨⟩
  · rintro lk g e' k' rows' ⟨rfl, rfl, rfl, rfl, rfl⟩
    exact ⟨vs, hk, hrk, hd, hv, hr.mono (Stays.refl _ _) hK, h1⟩
  · intro b _ hb'
    rw [hm] at hb'
    exact ⟨(hb b hb').1, (hb b hb').2.1⟩
  · intro b hb; cases hb
  · intro j b _ hj hb'
    rw [hm] at hb'
    exact (hb b hb').2.2 j hj

/-- A list's cells as rows. -/
theorem lst_ro {e : TypeId} {k : Nat} {rows : List (List AV)} {v : Value} {vs : List Value} (hk : 0 < k) (hrk : ∀ r ∈ rows, r.length = k) (hd : dataL rows.flatten = true) (hv : LstV w e k v rows.length vs) (hr : RepL w Pr σ γ rows.flatten vs)
    (hp : ∀ b, blkOf v = some b → ∀ i, i < rows.length * k → Pr b i) : Rep w Pr σ γ ls (.ro rows) v := by
  obtain ⟨hl, ⟨h0, a, rfl⟩ | ⟨g, c, cur, rfl, h2, h3, h4, h5, h6⟩⟩ := hv
  · have : rows = [] := List.eq_nil_of_length_eq_zero h0
    subst this; exact .ro0 a 0
  · refine .ro rows g 0 k (c + 1) vs hk hrk h3 hl (fun i u hu => ?_) hd hr.2
    have hi : i < vs.length := (List.getElem?_eq_some_iff.1 hu).1
    rw [hl] at hi
    rw [Nat.zero_add]
    refine ⟨hp g rfl i hi, ?_⟩
    have := range_cells h2 i u
    rw [Nat.zero_add] at this
    refine this ?_
    rw [← h6, List.getElem?_take, if_pos hi] at hu
    exact hu

theorem take_list {n : Nat} {keeps : Bool} {Pr0 : Nat → Nat → Prop} (hU : ∀ b, n ≤ b → U b) : ∀ {as : List AV} {vs : List Value} {D : List Nat} {s : Nat} {σ σ' : List Blk} {γ : List Ghost} {Pr : Nat → Nat → Prop} {as' : List AV},
    Inv U w Pr σ γ → (∀ b, n ≤ b → b ∉ D → (∀ j, memB σ γ j ≠ some b) ∧ ∀ i, Pr b i → Pr0 b i) → Stays w Pr0 w Pr → OutL w Pr0 n D as vs → takeL keeps s as σ = some (as', σ') →
    ∃ Pr'' γ', Inv U w Pr'' σ' γ' ∧ Keeps σ γ σ' γ' ∧ Evo U ls w Pr w Pr'' ∧ RepL w Pr'' σ' γ' as' vs
  | [], vs, D, s, σ, σ', γ, Pr, as', hI, hD, hs, ho, ht => by
    cases ht
    cases vs with
    | nil => exact ⟨Pr, γ, hI, Keeps.refl _ _, Evo.refl _ _ _ _, RepL.nil⟩
    | cons v vs => exact ho.elim
  | a :: as, [], D, s, σ, σ', γ, Pr, as', hI, hD, hs, ho, ht => ho.elim
  | a :: as, v :: vs, D, s, σ, σ', γ, Pr, as', hI, hD, hs, ho, ht => by
    obtain ⟨h1, h2, h3⟩ := ho
    by_cases hfr : ∃ e k rows, a = .fresh e k rows
    · obtain ⟨e, k, rows, rfl⟩ := hfr
      obtain ⟨hk, hrk, hd, us, hv, hr, hone, hb⟩ := h1
      have hbD : ∀ b, blkOf v = some b → b ∉ D := fun b hb' => h2 b (by simp [frBlk, hb'])
      have hbI : ∀ b, blkOf v = some b → U b ∧ (∀ i, ¬ Pr b i) ∧ ∀ j, memB σ γ j ≠ some b := fun b hb' =>
        ⟨hU b (hb b hb').1, fun i hp => (hb b hb').2 i ((hD b (hb b hb').1 (hbD b hb')).2 i hp), (hD b (hb b hb').1 (hbD b hb')).1⟩
      unfold takeL at ht
      split at ht
      · split at ht
        · rename_i bs' hn
          obtain ⟨hdead, rfl⟩ := newAt_inv hn
          obtain ⟨q, hq, he⟩ := Option.map_eq_some_iff.1 ht
          cases he
          have hl := (List.getElem?_eq_some_iff.1 hdead).1
          obtain ⟨h4, h5⟩ := hI.adopt hdead e k rows v us hk hrk hd hv ((hr.mono hs (Keeps.refl _ _)).data hd) hone hbI
          have hm := memB_set_eq (blk := .lst 0 0 e k rows) (gh := ⟨0, v⟩) hl (by rw [hI.len]; exact hl)
          obtain ⟨Pr2, γ2, h6, h7, h8, h9⟩ := take_list hU h4 (fun b hnb hbd => by
            refine ⟨fun j hj => ?_, (hD b hnb (fun hx => hbd (List.mem_append_left _ hx))).2⟩
            by_cases hjs : j = s
            · subst hjs; rw [hm] at hj
              exact hbd (List.mem_append_right _ (by simpa [frBlk] using hj))
            · rw [memB_set_ne _ _ hjs] at hj
              exact (hD b hnb (fun hx => hbd (List.mem_append_left _ hx))).1 j hj) hs h3 hq
          refine ⟨Pr2, γ2, h6, h5.trans h7, h8, RepL.cons ?_ h9⟩
          refine Rep.mono h8.stays h7 (fun _ _ h => h) (.lis s 0 rows.length 0 0 e k rows ⟨0, v⟩ v (List.getElem?_set_self hl) (List.getElem?_set_self (by rw [hI.len]; exact hl)) (by omega) ?_)
          obtain ⟨_, ⟨hn0, a', hx⟩ | ⟨g, c, cur, hx, _, hc, _⟩⟩ := hv
          · rw [hx, hn0]; exact ⟨a', 0, 0, rfl, .inl ⟨rfl, rfl, Nat.le_refl _, fun h => absurd rfl h⟩⟩
          · rw [hx]; exact ⟨_, _, _, rfl, .inl ⟨rfl, rfl, hc, fun _ => ⟨g, rfl⟩⟩⟩
        · cases ht
      · obtain ⟨q, hq, he⟩ := Option.map_eq_some_iff.1 ht
        cases he
        have hE : Evo U ls w Pr w (fun b i => Pr b i ∨ (blkOf v = some b ∧ i < rows.length * k)) :=
          ⟨rfl, rfl, rfl, Nat.le_refl _, fun _ _ => rfl, fun _ _ h _ _ => h, fun b i hp => ⟨.inl hp, fun v hv => hv⟩, fun b i hb' hp => hp.resolve_right fun hx => hb' (hbI b hx.1).1, Nat.le_refl _⟩
        have hI1 := hI.world hE (fun _ _ _ => rfl) (fun j b i hj hp => hp.resolve_right fun hx => (hbI b hx.1).2.2 j hj) (fun b i hp => hp.elim (hI.old b i) fun hx => by
          obtain ⟨_, ⟨_, a', hx'⟩ | ⟨g, c, cur, hx', hh, _⟩⟩ := hv
          · rw [hx'] at hx; cases a' <;> cases hx.1
          · rw [hx'] at hx; cases hx.1; exact (Array.getElem?_eq_some_iff.1 hh).1)
        obtain ⟨Pr2, γ2, h6, h7, h8, h9⟩ := take_list hU hI1 (fun b hnb hbd => by
            have hbd' : b ∉ D := fun hx => hbd (List.mem_append_left _ hx)
            refine ⟨(hD b hnb hbd').1, fun i hp => hp.elim ((hD b hnb hbd').2 i) fun hx => ?_⟩
            exact (hbd (List.mem_append_right _ (by simp [frBlk, hx.1]))).elim) (hs.trans hE.stays) h3 hq
        refine ⟨Pr2, γ2, h6, h7, hE.trans h8, RepL.cons ?_ h9⟩
        exact Rep.mono h8.stays h7 (fun _ _ h => h) (lst_ro hk hrk hd hv ((hr.mono (hs.trans hE.stays) (Keeps.refl _ _)).data hd) (fun b hb' i hi => .inr ⟨hb', hi⟩))
    · have hn : ∀ e k rows, a ≠ .fresh e k rows := fun e k rows h => hfr ⟨e, k, rows, h⟩
      have ht' : (takeL keeps s as σ).map (fun r => (a :: r.1, r.2)) = some (as', σ') := by
        cases a <;> first | exact ht | exact absurd rfl (hn _ _ _)
      obtain ⟨q, hq, he⟩ := Option.map_eq_some_iff.1 ht'
      cases he
      have h3' : OutL w Pr0 n D as vs := by
        have : frBlk a v = [] := by cases a <;> first | rfl | exact absurd rfl (hn _ _ _)
        rw [this, List.append_nil] at h3; exact h3
      obtain ⟨Pr2, γ2, h6, h7, h8, h9⟩ := take_list hU hI hD hs h3' hq
      exact ⟨Pr2, γ2, h6, h7, h8, RepL.cons ((h1.rep hn).mono (hs.trans h8.stays) (Keeps.nil _ _) (fun _ _ h => h)) h9⟩

theorem outL_plain {n : Nat} : ∀ {as : List AV} {vs : List Value} {D : List Nat}, OutL w Pr n D as vs → freshIn as = false → RepL w Pr [] [] as vs
  | [], [], D, h, hf => RepL.nil
  | [], v :: vs, D, h, hf => h.elim
  | a :: as, [], D, h, hf => h.elim
  | a :: as, v :: vs, D, h, hf => by
    have hn : ∀ e k rows, a ≠ .fresh e k rows := by rintro e k rows rfl; cases hf
    have hf' : freshIn as = false := by cases a <;> first | exact hf | exact absurd rfl (hn _ _ _)
    exact RepL.cons (h.1.rep hn) (outL_plain h.2.2 hf')
theorem outL_data {n : Nat} : ∀ {as : List AV} {vs : List Value} {D : List Nat}, OutL w Pr n D as vs → dataL as = true → RepL w Pr [] [] as vs
  | [], [], D, h, hf => RepL.nil
  | [], v :: vs, D, h, hf => h.elim
  | a :: as, [], D, h, hf => h.elim
  | a :: as, v :: vs, D, h, hf => by
    simp only [dataL, List.all_cons, Bool.and_eq_true] at hf
    exact RepL.cons (h.1.rep (by rintro e k rows rfl; cases hf.1)) (outL_data h.2.2 hf.2)

/-- A result comes to the caller. -/
theorem take_res {n : Nat} {keeps : Bool} {s : Nat} {r r' : AV} {v : Value} (hI : Inv U w Pr σ γ) (hU : ∀ b, n ≤ b → U b) (hn : ∀ j b, memB σ γ j = some b → b < n) (ho : Out w Pr n r v) (ht : takeRes keeps s r σ = some (r', σ')) :
    ∃ Pr'' γ', Inv U w Pr'' σ' γ' ∧ Keeps σ γ σ' γ' ∧ Evo U ls w Pr w Pr'' ∧ Rep w Pr'' σ' γ' [] r' v := by
  have hD : ∀ b, n ≤ b → b ∉ ([] : List Nat) → (∀ j, memB σ γ j ≠ some b) ∧ ∀ i, Pr b i → Pr b i := fun b hb _ => ⟨fun j hj => by have := hn j b hj; omega, fun _ h => h⟩
  have plain : ∀ {r : AV}, Rep w Pr [] [] [] r v → takeRes keeps s r σ = some (r, σ) → takeRes keeps s r σ = some (r', σ') → ∃ Pr'' γ', Inv U w Pr'' σ' γ' ∧ Keeps σ γ σ' γ' ∧ Evo U ls w Pr w Pr'' ∧ Rep w Pr'' σ' γ' [] r' v := fun h1 h2 h3 => by
    rw [h2] at h3; cases h3
    exact ⟨Pr, γ, hI, Keeps.refl _ _, Evo.refl _ _ _ _, h1.mono (Stays.refl _ _) (Keeps.nil _ _) (fun _ _ h => h)⟩
  cases r with
  | tup as =>
    obtain ⟨vs, rfl, hl⟩ := ho
    simp only [takeRes] at ht
    split at ht
    · obtain ⟨q, hq, he⟩ := Option.map_eq_some_iff.1 ht
      cases he
      obtain ⟨Pr2, γ2, h1, h2, h3, h4⟩ := take_list (ls := ls) hU hI hD (Stays.refl _ _) hl hq
      exact ⟨Pr2, γ2, h1, h2, h3, .tup _ _ h4.1 h4.2⟩
    · rename_i hf
      cases ht
      have h4 := outL_plain hl (by simpa using hf)
      exact ⟨Pr, γ, hI, Keeps.refl _ _, Evo.refl _ _ _ _, Rep.mono (Stays.refl _ _) (Keeps.nil _ _) (fun _ _ h => h) (.tup _ _ h4.1 h4.2)⟩
  | agg as =>
    obtain ⟨vs, rfl, hone, hl⟩ := ho
    simp only [takeRes] at ht
    split at ht
    · rename_i hd
      cases ht
      have h4 := outL_data hl hd
      exact ⟨Pr, γ, hI, Keeps.refl _ _, Evo.refl _ _ _ _, Rep.mono (Stays.refl _ _) (Keeps.nil _ _) (fun _ _ h => h) (.agg _ _ h4.1 hone h4.2)⟩
    · obtain ⟨q, hq, he⟩ := Option.map_eq_some_iff.1 ht
      cases he
      obtain ⟨Pr2, γ2, h1, h2, h3, h4⟩ := take_list (ls := ls) hU hI hD (Stays.refl _ _) hl hq
      exact ⟨Pr2, γ2, h1, h2, h3, .agg _ _ h4.1 hone h4.2⟩
  | fresh e k rows =>
    have hl : OutL w Pr n [] [.fresh e k rows] [v] := ⟨ho, (fun b _ hb => by cases hb), trivial⟩
    have ht' : takeL keeps s [.fresh e k rows] σ = some ([r'], σ') := by
      simp only [takeRes] at ht
      unfold takeL
      split at ht
      · rename_i hk
        rw [if_pos hk]
        obtain ⟨bs, hq, he⟩ := Option.map_eq_some_iff.1 ht
        cases he
        simp [hq, takeL]
      · rename_i hk
        rw [if_neg hk]; cases ht; simp [takeL]
    obtain ⟨Pr2, γ2, h1, h2, h3, h4⟩ := take_list (ls := ls) hU hI hD (Stays.refl _ _) hl ht'
    exact ⟨Pr2, γ2, h1, h2, h3, h4.2 0 _ _ rfl rfl⟩
  | _ => exact plain ho rfl ht
end Go.Proofs.YtgajekpigkknnaaDoor.A

/- More fuel, more: the evaluator grows with its fuel, its handlers, its callees. No condition. -/
namespace Go.Proofs.YtgajekpigkknnaaDoor.A
open Go

def Ole {α : Type} (x y : Option α) : Prop := ∀ r, x = some r → y = some r
theorem Ole.refl {α : Type} (x : Option α) : Ole x x := fun _ h => h
theorem Ole.trans {α : Type} {x y z : Option α} (h : Ole x y) (k : Ole y z) : Ole x z := fun r hr => k r (h r hr)
theorem Ole.none {α : Type} (y : Option α) : Ole none y := fun _ h => by cases h
theorem Ole.map {α β : Type} {x y : Option α} (h : Ole x y) (f : α → β) : Ole (x.map f) (y.map f) := fun r hr => by
  obtain ⟨a, h1, h2⟩ := Option.map_eq_some_iff.1 hr
  rw [h a h1]; exact congrArg some h2
/-- Handlers, of which the others tell more. -/
structure Hle (ys ys' : List Hd) : Prop where
  len : ys.length = ys'.length
  le : ∀ (d : Nat) y y', ys[d]? = some y → ys'[d]? = some y' → ∀ args hp, Ole (y args hp) (y' args hp)
theorem Hle.refl (ys : List Hd) : Hle ys ys := ⟨rfl, fun d y y' h1 h2 args hp => by rw [h1] at h2; cases h2; exact Ole.refl _⟩
theorem Hle.get {ys ys' : List Hd} (h : Hle ys ys') {d : Nat} {y : Hd} (hy : ys[d]? = some y) : ∃ y', ys'[d]? = some y' ∧ ∀ args hp, Ole (y args hp) (y' args hp) := by
  have hl : d < ys'.length := by rw [← h.len]; exact (List.getElem?_eq_some_iff.1 hy).1
  exact ⟨ys'[d], List.getElem?_eq_getElem hl, h.le d y _ hy (List.getElem?_eq_getElem hl)⟩
theorem Hle.snoc {ys ys' : List Hd} (h : Hle ys ys') {y y' : Hd} (hy : ∀ args hp, Ole (y args hp) (y' args hp)) : Hle (ys ++ [y]) (ys' ++ [y']) := by
  refine ⟨by simp [h.len], fun d u u' h1 h2 => ?_⟩
  by_cases hd : d < ys.length
  · rw [List.getElem?_append_left hd] at h1
    rw [List.getElem?_append_left (by rw [← h.len]; exact hd)] at h2
    exact h.le d u u' h1 h2
  · have hde : d = ys.length := by have := (List.getElem?_eq_some_iff.1 h1).1; simp at this; omega
    subst hde
    simp at h1
    rw [h.len] at h2
    simp at h2
    subst h1; subst h2
    exact hy

theorem quiet_le {cR cR' : FuncId → List AV → Hp → Option (AV × Hp)} {ys ys' : List Hd} (hY : Hle ys ys') (hR : ∀ f args hp, Ole (cR f args hp) (cR' f args hp)) {g : FuncId} {vs : List AV} {hp : Hp} {r : AV × Hp} (h : quietR cR ys g vs hp = some r) : quietR cR' ys' g vs hp = some r := by
  unfold quietR at h ⊢
  split at h
  · have : ys' = [] := List.eq_nil_of_length_eq_zero hY.len.symm
    subst this
    simp only
    split at h
    · cases h
    · rename_i hn
      rw [if_neg hn]
      split at h
      · rename_i p hc
        rw [hR g _ _ _ hc]; exact h
      · cases h
  · cases h
theorem frame0_le {cR cR' : FuncId → List AV → Hp → Option (AV × Hp)} {ys ys' : List Hd} (hY : Hle ys ys') (hR : ∀ f args hp, Ole (cR f args hp) (cR' f args hp)) {g : FuncId} {vs : List AV} {hp : Hp} {r : AV × Hp} (h : frame0 cR ys g vs hp = some r) : frame0 cR' ys' g vs hp = some r := by
  unfold frame0 at h ⊢
  split at h
  · have : ys' = [] := List.eq_nil_of_length_eq_zero hY.len.symm
    subst this
    simp only
    split at h
    · split at h
      · rename_i p hc
        rw [hR g _ _ _ hc]; exact h
      · cases h
    · cases h
  · cases h
theorem frame_le {cR cR' : FuncId → List AV → Hp → Option (AV × Hp)} {ys ys' : List Hd} (hY : Hle ys ys') (hR : ∀ f args hp, Ole (cR f args hp) (cR' f args hp)) {g : FuncId} {vs : List AV} {hp : Hp} {r : AV × Hp} (h : frameR cR ys g vs hp = some r) : frameR cR' ys' g vs hp = some r := by
  unfold frameR at h ⊢
  split at h
  · rename_i p h0
    rw [frame0_le hY hR h0]; exact h
  · cases h
theorem frame1_le {cR cR' : FuncId → List AV → Hp → Option (AV × Hp)} {ys ys' : List Hd} (hY : Hle ys ys') (hR : ∀ f args hp, Ole (cR f args hp) (cR' f args hp)) {g : FuncId} {vs : List AV} {hp : Hp} {r : AV × Hp} (h : frame1 cR ys g vs hp = some r) : frame1 cR' ys' g vs hp = some r := by
  unfold frame1 at h ⊢
  split at h
  · have : ys' = [] := List.eq_nil_of_length_eq_zero hY.len.symm
    subst this
    simp only
    split at h
    · rename_i hs
      rw [if_pos hs]
      split at h
      · split at h
        · rename_i p hc
          rw [hR g _ _ _ hc]; exact h
        · cases h
      · cases h
    · cases h
  · cases h
theorem frameS_le {cR cR' : FuncId → List AV → Hp → Option (AV × Hp)} {ys ys' : List Hd} (hY : Hle ys ys') (hR : ∀ f args hp, Ole (cR f args hp) (cR' f args hp)) {g : FuncId} {vs : List AV} {hp : Hp} {r : AV × Hp} (h : frameS cR ys g vs hp = some r) : frameS cR' ys' g vs hp = some r := by
  unfold frameS at h ⊢
  split at h
  · rename_i p h0
    rw [frame1_le hY hR h0]; exact h
  · cases h
section
variable {cV cV' : FuncId → List AV → Option AV} {cR cR' : FuncId → List AV → Hp → Option (AV × Hp)} {ys ys' : List Hd} (hV : ∀ f args, Ole (cV f args) (cV' f args)) (hR : ∀ f args hp, Ole (cR f args hp) (cR' f args hp)) (hY : Hle ys ys')
include hV hR hY
theorem aexec_mono {q : Bool} {s : Nat} {op : AOp} {T : Tm} {hp : Hp} : Ole (aexec cV cR ys q s op T hp) (aexec cV' cR' ys' q s op T hp) := by
  intro r h
  cases op
  case callV f args keeps =>
    simp only [aexec] at h ⊢
    split at h
    · rename_i vs hm
      split at h
      · rename_i r0 hc
        rw [hV f vs r0 hc]; exact h
      · cases h
    · cases h
  case callR f args keeps =>
    simp only [aexec] at h ⊢
    split at h
    · rename_i g caps hf
      split at h
      · rename_i hk2
        rw [if_pos hk2]
        exact quiet_le hY hR h
      rename_i hk2
      rw [if_neg hk2]
      split at h
      · rename_i hk3
        rw [if_pos hk3]
        exact frame_le hY hR h
      rename_i hk3
      rw [if_neg hk3]
      split at h
      · rename_i hk4
        rw [if_pos hk4]
        exact frameS_le hY hR h
      rename_i hk4
      rw [if_neg hk4]
      split at h
      · rename_i r0 hp1 hc
        rw [hR g _ hp _ hc]; exact h
      · cases h
    · rename_i d hf
      split at h
      · cases h
      · rename_i hn
        rw [if_neg hn]
        split at h
        · rename_i y hy
          obtain ⟨y', hy', hle⟩ := hY.get hy
          rw [hy']
          exact (hle _ _).map _ r h
        · cases h
    · cases h
  all_goals exact h
theorem ainstr_mono {q : Bool} {base : Nat} {i : AInstr} {T : Tm} {hp : Hp} : Ole (ainstr cV cR ys q base i T hp) (ainstr cV' cR' ys' q base i T hp) := by
  unfold ainstr
  cases guardOf T i.guard with
  | none => exact Ole.refl _
  | some b =>
    cases b with
    | false => exact Ole.refl _
    | true => exact (aexec_mono hV hR hY).map _
theorem aops_mono {q : Bool} {base : Nat} : ∀ {l : List AInstr} {T : Tm} {hp : Hp}, Ole (aops cV cR ys q base l T hp) (aops cV' cR' ys' q base l T hp)
  | [], T, hp => Ole.refl _
  | i :: l, T, hp => by
    intro r h
    unfold aops at h ⊢
    split at h
    · rename_i T' hp' h1
      rw [ainstr_mono hV hR hY _ h1]
      exact aops_mono r h
    · cases h
end

/-- The evaluator's handler of a loop, by what it runs. -/
def handlerOf (run : ACode → Tm → Hp → Option (AExit × Tm × Hp)) (d : Nat) (T : Tm) (ps : List Nat) (assign body : ACode) : Hd := fun args hp => match hp.pend[d]? with
  | some none => if args.length = ps.length then match run assign (setAll T ps args) { hp with pend := hp.pend.take d } with
    | some (.normal, T1, hp1) => match run body T1 hp1 with
      | some (.normal, _, hp') => (shrink false hp.bs.length .undef hp').map fun h' => (true, { h' with pend := h'.pend ++ none :: hp.pend.drop (d + 1) })
      | some (ex, _, hp') => (shrink false hp.bs.length .undef hp').map fun h' => (false, { h' with pend := h'.pend ++ some ex :: hp.pend.drop (d + 1) })
      | none => none
    | _ => none else none
  | _ => none
theorem handlerOf_mono {run run' : ACode → Tm → Hp → Option (AExit × Tm × Hp)} (h : ∀ c T hp, Ole (run c T hp) (run' c T hp)) {d : Nat} {T : Tm} {ps : List Nat} {assign body : ACode} : ∀ args hp, Ole (handlerOf run d T ps assign body args hp) (handlerOf run' d T ps assign body args hp) := by
  intro args hp r hr
  unfold handlerOf at hr ⊢
  split at hr
  · rename_i h0
    split at hr
    · rename_i h1
      split at hr
      · rename_i T1 hp1 h2
        rw [if_pos h1, h _ _ _ _ h2]
        dsimp only
        split at hr
        · rename_i h3; rw [h _ _ _ _ h3]; exact hr
        · rename_i ex T2 hp2 hne h3
          rw [h _ _ _ _ h3]
          cases ex with
          | normal => first | exact hne.elim | exact (hne rfl).elim | exact (hne _ rfl).elim | exact (hne _ _ rfl).elim
          | exit i => exact hr
          | ret => exact hr
        · cases hr
      · cases hr
    · cases hr
  · cases hr
/-- The statement 'for .. := range f', by what it runs. -/
def rangeOf (E : Env) (run : ACode → Tm → Hp → Option (AExit × Tm × Hp)) (call : List Hd → FuncId → List AV → Hp → Option (AV × Hp)) (ys : List Hd) (f : Opd) (ps : List Nat) (assign body : ACode) (T : Tm) (hp : Hp) : Option (AExit × Tm × Hp) :=
  match f.ev T with
  | .clo g caps => if (E.prim g).isSome then none else match call (ys ++ [handlerOf run ys.length T ps assign body]) g (.yld ys.length :: caps) { hp with pend := hp.pend ++ [none] } with
    | some (_, hp') => match hp'.pend[ys.length]? with
      | some none => (shrink false hp.bs.length .undef { hp' with pend := hp'.pend.take ys.length }).map (.normal, T, ·)
      | some (some ex) => (shrink false hp.bs.length .undef { hp' with pend := hp'.pend.take ys.length }).map (ex, T, ·)
      | none => none
    | none => none
  | _ => none
theorem acode_range (E : Env) (n : Nat) (ys : List Hd) (f : Opd) (ps : List Nat) (assign body : ACode) (T : Tm) (hp : Hp) : acode E (n + 1) ys (.range f ps assign body) T hp = rangeOf E (acode E n ys) (acall E n) ys f ps assign body T hp := by
  rw [acode]; rfl

/-- What the evaluator comes to with fuel n it comes to with more, and with handlers that tell more. -/
def Mono (E : Env) (n : Nat) : Prop :=
  ∀ m, n ≤ m → (∀ ys ys', Hle ys ys' → ∀ c T hp, Ole (acode E n ys c T hp) (acode E m ys' c T hp)) ∧ (∀ ys ys', Hle ys ys' → ∀ k keep c T hp, Ole (aloop E n ys k keep c T hp) (aloop E m ys' k keep c T hp)) ∧
    (∀ ys ys', Hle ys ys' → ∀ f args hp, Ole (acall E n ys f args hp) (acall E m ys' f args hp)) ∧ (∀ f args, Ole (acallV E n f args) (acallV E m f args))
theorem afin_mono {rs : List ARes} {x y : Option (AExit × Tm × Hp)} (h : Ole x y) : Ole (afin rs x) (afin rs y) := by
  intro r hr
  cases x with
  | none => unfold afin at hr; cases hr
  | some v => rw [h v rfl]; exact hr
theorem mono (E : Env) : ∀ n, Mono E n
  | 0 => fun m _ => ⟨(fun ys ys' _ c T hp r h => by unfold acode at h; cases h), (fun ys ys' _ k keep c T hp r h => by unfold aloop at h; cases h), (fun ys ys' _ f args hp r h => by unfold acall at h; cases h), (fun f args r h => by unfold acallV at h; cases h)⟩
  | n + 1 => by
    intro m hm
    obtain ⟨m, rfl⟩ : ∃ m', m = m' + 1 := ⟨m - 1, by omega⟩
    obtain ⟨h1, h2, h3, h4⟩ := mono E n m (by omega)
    refine ⟨fun ys ys' hY c T hp => ?_, fun ys ys' hY k keep c T hp => ?_, fun ys ys' hY f args hp => ?_, fun f args => ?_⟩
    · cases c with
      | range f ps assign body =>
        rw [acode_range, acode_range]
        unfold rangeOf
        cases f.ev T <;> try exact Ole.refl _
        rename_i g caps
        dsimp only
        split
        · exact Ole.refl _
        · intro r hr
          rw [← hY.len]
          have hh := handlerOf_mono (run := acode E n ys) (run' := acode E m ys') (fun c T hp => h1 ys ys' hY c T hp) (d := ys.length) (T := T) (ps := ps) (assign := assign) (body := body)
          split at hr
          · rename_i h5
            rw [h3 _ _ (hY.snoc hh) _ _ _ _ h5]
            exact hr
          · cases hr
      | region slots ops draw pairs =>
        intro r hr
        rw [acode] at hr ⊢
        try dsimp only at hr ⊢
        split at hr
        · rename_i h5
          rw [aops_mono h4 (fun f args hp => h3 ys ys' hY f args hp) hY _ h5]
          exact hr
        · cases hr
      | seq a b =>
        intro r hr
        rw [acode] at hr ⊢
        try dsimp only at hr ⊢
        split at hr
        · rename_i h5
          rw [h1 ys ys' hY _ _ _ _ h5]
          exact h1 ys ys' hY _ _ _ _ hr
        · rename_i hne
          rw [h1 ys ys' hY _ _ _ _ hr]
          obtain ⟨ex, T', hp'⟩ := r
          cases ex with
          | normal => exact (hne _ _ hr).elim
          | exit i => rfl
          | ret => rfl
      | cond o a b =>
        intro r hr
        rw [acode] at hr ⊢
        try dsimp only at hr ⊢
        split at hr
        · exact h1 ys ys' hY _ _ _ _ hr
        · exact h1 ys ys' hY _ _ _ _ hr
        · cases hr
      | block id a =>
        intro r hr
        rw [acode] at hr ⊢
        try dsimp only at hr ⊢
        split at hr
        · rename_i h5
          rw [h1 ys ys' hY _ _ _ _ h5]
          exact hr
        · rename_i hne
          rw [h1 ys ys' hY _ _ _ _ hr]
          obtain ⟨ex, T', hp'⟩ := r
          cases ex with
          | normal => rfl
          | exit i => exact (hne _ _ _ hr).elim
          | ret => rfl
      | loop keep a =>
        intro r hr
        rw [acode] at hr ⊢
        exact h2 ys ys' hY _ _ _ _ _ _ hr
      | skip => intro r hr; rw [acode] at hr ⊢; exact hr
      | bad => intro r hr; rw [acode] at hr; cases hr
      | exit i => intro r hr; rw [acode] at hr ⊢; exact hr
      | ret => intro r hr; rw [acode] at hr ⊢; exact hr
    · intro r hr
      rw [aloop] at hr ⊢
      split at hr
      · rename_i hb
        rw [if_pos hb]
        split at hr
        · rename_i h5
          rw [h1 ys ys' hY _ _ _ _ h5]
          exact h2 ys ys' hY _ _ _ _ _ _ hr
        · rename_i hne
          rw [h1 ys ys' hY _ _ _ _ hr]
          obtain ⟨ex, T', hp'⟩ := r
          cases ex with
          | normal => exact (hne _ _ hr).elim
          | exit i => rfl
          | ret => rfl
      · cases hr
    · intro r hr
      rw [acall] at hr ⊢
      split at hr
      · exact hr
      · split at hr
        · split at hr
          · rename_i hl
            rw [if_pos hl]
            exact afin_mono (h1 ys ys' hY _ _ _) _ hr
          · cases hr
        · cases hr
    · intro r hr
      rw [acallV] at hr ⊢
      split at hr
      · exact hr
      · split at hr
        · split at hr
          · rename_i hl
            rw [if_pos hl]
            split at hr
            · rename_i h5
              rw [afin_mono (h1 [] [] (Hle.refl _) _ _ _) _ h5]
              exact hr
            · cases hr
          · cases hr
        · cases hr
end Go.Proofs.YtgajekpigkknnaaDoor.A

/- The evaluator without fuel. No condition. -/
namespace Go.Proofs.YtgajekpigkknnaaDoor.A
open Go

theorem Hle.trans {a b c : List Hd} (h : Hle a b) (k : Hle b c) : Hle a c := ⟨h.len.trans k.len, fun d y y' h1 h2 args hp => by
  obtain ⟨u, hu, hle⟩ := h.get h1
  exact (hle args hp).trans (k.le d u y' hu h2 args hp)⟩
/-- Handlers that come to a limit. -/
structure Lim (yk : Nat → List Hd) (yL : List Hd) : Prop where
  up : ∀ i j, i ≤ j → Hle (yk i) (yk j)
  le : ∀ k, Hle (yk k) yL
  ex : ∀ (d : Nat) y args hp r, yL[d]? = some y → y args hp = some r → ∃ k y', (yk k)[d]? = some y' ∧ y' args hp = some r
theorem Lim.const (ys : List Hd) : Lim (fun _ => ys) ys := ⟨fun _ _ _ => Hle.refl _, fun _ => Hle.refl _, fun d y args hp r h1 h2 => ⟨0, y, h1, h2⟩⟩
theorem Lim.snoc {yk : Nat → List Hd} {yL : List Hd} (h : Lim yk yL) {hk : Nat → Hd} {hL : Hd} (up : ∀ i j, i ≤ j → ∀ args hp, Ole (hk i args hp) (hk j args hp)) (le : ∀ k args hp, Ole (hk k args hp) (hL args hp)) (ex : ∀ args hp r, hL args hp = some r → ∃ k, hk k args hp = some r) :
    Lim (fun k => yk k ++ [hk k]) (yL ++ [hL]) := by
  refine ⟨fun i j hij => (h.up i j hij).snoc (up i j hij), fun k => (h.le k).snoc (le k), fun d y args hp r h1 h2 => ?_⟩
  by_cases hd : d < yL.length
  · rw [List.getElem?_append_left hd] at h1
    obtain ⟨k, y', h3, h4⟩ := h.ex d y args hp r h1 h2
    exact ⟨k, y', by rw [List.getElem?_append_left (by rw [(h.le k).len]; exact hd)]; exact h3, h4⟩
  · have hde : d = yL.length := by have := (List.getElem?_eq_some_iff.1 h1).1; simp at this; omega
    subst hde
    simp at h1
    subst h1
    obtain ⟨k, hk'⟩ := ex args hp r h2
    exact ⟨k, hk k, by rw [← (h.le k).len]; simp, hk'⟩

theorem quiet_ex {cRk : Nat → FuncId → List AV → Hp → Option (AV × Hp)} {cR : FuncId → List AV → Hp → Option (AV × Hp)} {yk : Nat → List Hd} {ys : List Hd} (xR : ∀ f args hp r, cR f args hp = some r → ∃ k, cRk k f args hp = some r) (hL : Lim yk ys) {g : FuncId} {vs : List AV} {hp : Hp} {r : AV × Hp}
    (h : quietR cR ys g vs hp = some r) : ∃ k, quietR (cRk k) (yk k) g vs hp = some r := by
  unfold quietR at h
  split at h
  · split at h
    · cases h
    · rename_i hn
      split at h
      · rename_i p hc
        obtain ⟨k, hk⟩ := xR g _ _ _ hc
        have : yk k = [] := List.eq_nil_of_length_eq_zero (hL.le k).len
        refine ⟨k, ?_⟩
        unfold quietR
        rw [this]
        simp only
        rw [if_neg hn, hk]; exact h
      · cases h
  · cases h
theorem frame0_ex {cRk : Nat → FuncId → List AV → Hp → Option (AV × Hp)} {cR : FuncId → List AV → Hp → Option (AV × Hp)} {yk : Nat → List Hd} {ys : List Hd} (xR : ∀ f args hp r, cR f args hp = some r → ∃ k, cRk k f args hp = some r) (hL : Lim yk ys) {g : FuncId} {vs : List AV} {hp : Hp} {r : AV × Hp}
    (h : frame0 cR ys g vs hp = some r) : ∃ k, frame0 (cRk k) (yk k) g vs hp = some r := by
  unfold frame0 at h
  split at h
  · split at h
    · rename_i hb
      split at h
      · rename_i p hc
        obtain ⟨k, hk⟩ := xR g _ _ _ hc
        have : yk k = [] := List.eq_nil_of_length_eq_zero (hL.le k).len
        refine ⟨k, ?_⟩
        unfold frame0
        rw [this]
        simp only [hb]
        rw [hk]; exact h
      · cases h
    · cases h
  · cases h
theorem frame_ex {cRk : Nat → FuncId → List AV → Hp → Option (AV × Hp)} {cR : FuncId → List AV → Hp → Option (AV × Hp)} {yk : Nat → List Hd} {ys : List Hd} (xR : ∀ f args hp r, cR f args hp = some r → ∃ k, cRk k f args hp = some r) (hL : Lim yk ys) {g : FuncId} {vs : List AV} {hp : Hp} {r : AV × Hp}
    (h : frameR cR ys g vs hp = some r) : ∃ k, frameR (cRk k) (yk k) g vs hp = some r := by
  unfold frameR at h
  split at h
  · rename_i p h0
    obtain ⟨k, hk⟩ := frame0_ex xR hL h0
    refine ⟨k, ?_⟩
    unfold frameR
    rw [hk]; exact h
  · cases h
theorem frame1_ex {cRk : Nat → FuncId → List AV → Hp → Option (AV × Hp)} {cR : FuncId → List AV → Hp → Option (AV × Hp)} {yk : Nat → List Hd} {ys : List Hd} (xR : ∀ f args hp r, cR f args hp = some r → ∃ k, cRk k f args hp = some r) (hL : Lim yk ys) {g : FuncId} {vs : List AV} {hp : Hp} {r : AV × Hp}
    (h : frame1 cR ys g vs hp = some r) : ∃ k, frame1 (cRk k) (yk k) g vs hp = some r := by
  unfold frame1 at h
  split at h
  · split at h
    · rename_i hs
      split at h
      · rename_i hb
        split at h
        · rename_i p hc
          obtain ⟨k, hk⟩ := xR g _ _ _ hc
          have : yk k = [] := List.eq_nil_of_length_eq_zero (hL.le k).len
          refine ⟨k, ?_⟩
          unfold frame1
          rw [this]
          simp only [hb]
          rw [if_pos hs, hk]; exact h
        · cases h
      · cases h
    · cases h
  · cases h
theorem frameS_ex {cRk : Nat → FuncId → List AV → Hp → Option (AV × Hp)} {cR : FuncId → List AV → Hp → Option (AV × Hp)} {yk : Nat → List Hd} {ys : List Hd} (xR : ∀ f args hp r, cR f args hp = some r → ∃ k, cRk k f args hp = some r) (hL : Lim yk ys) {g : FuncId} {vs : List AV} {hp : Hp} {r : AV × Hp}
    (h : frameS cR ys g vs hp = some r) : ∃ k, frameS (cRk k) (yk k) g vs hp = some r := by
  unfold frameS at h
  split at h
  · rename_i p h0
    obtain ⟨k, hk⟩ := frame1_ex xR hL h0
    refine ⟨k, ?_⟩
    unfold frameS
    rw [hk]; exact h
  · cases h
section
variable {cVk : Nat → FuncId → List AV → Option AV} {cV : FuncId → List AV → Option AV} {cRk : Nat → FuncId → List AV → Hp → Option (AV × Hp)} {cR : FuncId → List AV → Hp → Option (AV × Hp)} {yk : Nat → List Hd} {ys : List Hd}
variable (uV : ∀ i j, i ≤ j → ∀ f args, Ole (cVk i f args) (cVk j f args)) (uR : ∀ i j, i ≤ j → ∀ f args hp, Ole (cRk i f args hp) (cRk j f args hp)) (hL : Lim yk ys)
variable (xV : ∀ f args r, cV f args = some r → ∃ k, cVk k f args = some r) (xR : ∀ f args hp r, cR f args hp = some r → ∃ k, cRk k f args hp = some r)
include xV xR hL
theorem aexec_cont {q : Bool} {s : Nat} {op : AOp} {T : Tm} {hp : Hp} {r : AV × Hp} (h : aexec cV cR ys q s op T hp = some r) : ∃ k, aexec (cVk k) (cRk k) (yk k) q s op T hp = some r := by
  cases op
  case callV f args keeps =>
    simp only [aexec] at h ⊢
    split at h
    · rename_i vs hm
      split at h
      · rename_i r0 hc
        obtain ⟨k, hk⟩ := xV f vs r0 hc
        exact ⟨k, by rw [hk]; exact h⟩
      · cases h
    · cases h
  case callR f args keeps =>
    simp only [aexec] at h ⊢
    split at h
    · rename_i g caps hf
      split at h
      · rename_i hk2
        obtain ⟨k, hk⟩ := quiet_ex xR hL h
        exact ⟨k, by rw [if_pos hk2]; exact hk⟩
      rename_i hk2
      split at h
      · rename_i hk3
        obtain ⟨k, hk⟩ := frame_ex xR hL h
        exact ⟨k, by rw [if_neg hk2, if_pos hk3]; exact hk⟩
      rename_i hk3
      split at h
      · rename_i hk4
        obtain ⟨k, hk⟩ := frameS_ex xR hL h
        exact ⟨k, by rw [if_neg hk2, if_neg hk3, if_pos hk4]; exact hk⟩
      rename_i hk4
      split at h
      · rename_i r0 hp1 hc
        obtain ⟨k, hk⟩ := xR g _ hp _ hc
        exact ⟨k, by rw [if_neg hk2, if_neg hk3, if_neg hk4, hk]; exact h⟩
      · cases h
    · rename_i d hf
      split at h
      · cases h
      · rename_i hn
        split at h
        · rename_i y hy
          obtain ⟨p, h1, h2⟩ := Option.map_eq_some_iff.1 h
          obtain ⟨k, y', h3, h4⟩ := hL.ex d y _ _ _ hy h1
          refine ⟨k, ?_⟩
          rw [if_neg hn, h3]
          dsimp only
          rw [h4]; exact congrArg some h2
        · cases h
    · cases h
  all_goals exact ⟨0, h⟩
include uV uR
theorem aops_cont {q : Bool} {base : Nat} : ∀ {l : List AInstr} {T : Tm} {hp : Hp} {r : Tm × Hp}, aops cV cR ys q base l T hp = some r → ∃ k, aops (cVk k) (cRk k) (yk k) q base l T hp = some r
  | [], T, hp, r, h => ⟨0, h⟩
  | i :: l, T, hp, r, h => by
    unfold aops at h
    split at h
    · rename_i T1 hp1 h1
      have h2 : ∃ k, ainstr (cVk k) (cRk k) (yk k) q base i T hp = some (T1, hp1) := by
        unfold ainstr at h1 ⊢
        cases hg : guardOf T i.guard with
        | none => rw [hg] at h1; cases h1
        | some b =>
          rw [hg] at h1
          cases b with
          | false => exact ⟨0, h1⟩
          | true =>
            obtain ⟨p, h3, h4⟩ := Option.map_eq_some_iff.1 h1
            obtain ⟨k, hk⟩ := aexec_cont hL xV xR h3
            exact ⟨k, by dsimp only; rw [hk]; exact congrArg some h4⟩
      obtain ⟨k1, hk1⟩ := h2
      obtain ⟨k2, hk2⟩ := aops_cont h
      refine ⟨max k1 k2, ?_⟩
      unfold aops
      rw [ainstr_mono (uV k1 _ (Nat.le_max_left _ _)) (uR k1 _ (Nat.le_max_left _ _)) (hL.up k1 _ (Nat.le_max_left _ _)) _ hk1]
      exact aops_mono (uV k2 _ (Nat.le_max_right _ _)) (uR k2 _ (Nat.le_max_right _ _)) (hL.up k2 _ (Nat.le_max_right _ _)) _ hk2
    · cases h
end

theorem handlerOf_cont {rk : Nat → ACode → Tm → Hp → Option (AExit × Tm × Hp)} {rL : ACode → Tm → Hp → Option (AExit × Tm × Hp)} (up : ∀ i j, i ≤ j → ∀ c T hp, Ole (rk i c T hp) (rk j c T hp)) (ex : ∀ c T hp r, rL c T hp = some r → ∃ k, rk k c T hp = some r)
    {d : Nat} {T : Tm} {ps : List Nat} {assign body : ACode} {args : List AV} {hp : Hp} {r : Bool × Hp} (h : handlerOf rL d T ps assign body args hp = some r) : ∃ k, handlerOf (rk k) d T ps assign body args hp = some r := by
  unfold handlerOf at h
  split at h
  · rename_i h0
    split at h
    · rename_i h1
      split at h
      · rename_i T1 hp1 h2
        obtain ⟨k1, hk1⟩ := ex _ _ _ _ h2
        have main : ∀ x, rL body T1 hp1 = some x → ∃ k, rk k assign (setAll T ps args) { hp with pend := hp.pend.take d } = some (.normal, T1, hp1) ∧ rk k body T1 hp1 = some x := fun x hx => by
          obtain ⟨k2, hk2⟩ := ex _ _ _ _ hx
          exact ⟨max k1 k2, up _ _ (Nat.le_max_left _ _) _ _ _ _ hk1, up _ _ (Nat.le_max_right _ _) _ _ _ _ hk2⟩
        split at h
        · rename_i T2 hp2 h3
          obtain ⟨k, e1, e2⟩ := main _ h3
          refine ⟨k, ?_⟩
          unfold handlerOf
          rw [h0]
          dsimp only
          rw [if_pos h1, e1]
          dsimp only
          rw [e2]
          exact h
        · rename_i ex' T2 hp2 hne h3
          obtain ⟨k, e1, e2⟩ := main _ h3
          refine ⟨k, ?_⟩
          unfold handlerOf
          rw [h0]
          dsimp only
          rw [if_pos h1, e1]
          dsimp only
          rw [e2]
          cases ex' with
          | normal => first | exact hne.elim | exact (hne rfl).elim | exact (hne _ rfl).elim | exact (hne _ _ rfl).elim
          | exit i => exact h
          | ret => exact h
        · cases h
      · cases h
    · cases h
  · cases h

theorem m1 (E : Env) {n m : Nat} (h : n ≤ m) {ys ys' : List Hd} (hY : Hle ys ys') (c : ACode) (T : Tm) (hp : Hp) : Ole (acode E n ys c T hp) (acode E m ys' c T hp) := (mono E n m h).1 ys ys' hY c T hp
theorem m2 (E : Env) {n m : Nat} (h : n ≤ m) {ys ys' : List Hd} (hY : Hle ys ys') (k : Nat) (keep : List Nat) (c : ACode) (T : Tm) (hp : Hp) : Ole (aloop E n ys k keep c T hp) (aloop E m ys' k keep c T hp) := (mono E n m h).2.1 ys ys' hY k keep c T hp
theorem m3 (E : Env) {n m : Nat} (h : n ≤ m) {ys ys' : List Hd} (hY : Hle ys ys') (f : FuncId) (args : List AV) (hp : Hp) : Ole (acall E n ys f args hp) (acall E m ys' f args hp) := (mono E n m h).2.2.1 ys ys' hY f args hp
theorem m4 (E : Env) {n m : Nat} (h : n ≤ m) (f : FuncId) (args : List AV) : Ole (acallV E n f args) (acallV E m f args) := (mono E n m h).2.2.2 f args

/-- What comes of handlers in the limit comes of some ahead of it. -/
def Cont' (E : Env) (n : Nat) : Prop := ∀ yk yL, Lim yk yL →
  (∀ c T hp r, acode E n yL c T hp = some r → ∃ k, acode E n (yk k) c T hp = some r) ∧ (∀ m keep c T hp r, aloop E n yL m keep c T hp = some r → ∃ k, aloop E n (yk k) m keep c T hp = some r) ∧
  (∀ f args hp r, acall E n yL f args hp = some r → ∃ k, acall E n (yk k) f args hp = some r)
theorem afin_some {rs : List ARes} {x : Option (AExit × Tm × Hp)} {r : AV × Hp} (h : afin rs x = some r) : ∃ v, x = some v := by
  cases x with
  | none => unfold afin at h; cases h
  | some v => exact ⟨v, rfl⟩
theorem cont (E : Env) : ∀ n, Cont' E n
  | 0 => fun yk yL _ => ⟨(fun c T hp r h => by unfold acode at h; cases h), (fun m keep c T hp r h => by unfold aloop at h; cases h), (fun f args hp r h => by unfold acall at h; cases h)⟩
  | n + 1 => by
    intro yk yL hL
    obtain ⟨c1, c2, c3⟩ := cont E n yk yL hL
    have up1 : ∀ i j, i ≤ j → ∀ c T hp, Ole (acode E n (yk i) c T hp) (acode E n (yk j) c T hp) := fun i j hij c T hp => m1 E (Nat.le_refl _) (hL.up i j hij) c T hp
    have up2 : ∀ i j, i ≤ j → ∀ m keep c T hp, Ole (aloop E n (yk i) m keep c T hp) (aloop E n (yk j) m keep c T hp) := fun i j hij m keep c T hp => m2 E (Nat.le_refl _) (hL.up i j hij) m keep c T hp
    refine ⟨fun c T hp r h => ?_, fun m keep c T hp r h => ?_, fun f args hp r h => ?_⟩
    · cases c with
      | range f ps assign body =>
        rw [acode_range] at h
        unfold rangeOf at h
        split at h
        · rename_i g caps hf
          split at h
          · cases h
          · rename_i hpr
            split at h
            · rename_i r0 hp1 h5
              have hL' : Lim (fun k => yk k ++ [handlerOf (acode E n (yk k)) yL.length T ps assign body]) (yL ++ [handlerOf (acode E n yL) yL.length T ps assign body]) :=
                hL.snoc (fun i j hij => handlerOf_mono (up1 i j hij)) (fun k => handlerOf_mono (fun c T hp => m1 E (Nat.le_refl _) (hL.le k) c T hp)) (fun args hp r hr => handlerOf_cont up1 c1 hr)
              obtain ⟨k, hk⟩ := (cont E n _ _ hL').2.2 _ _ _ _ h5
              refine ⟨k, ?_⟩
              rw [acode_range]
              unfold rangeOf
              rw [hf]
              dsimp only
              rw [if_neg hpr, (hL.le k).len, hk]
              exact h
            · cases h
        · cases h
      | region slots ops draw pairs =>
        rw [acode] at h
        try dsimp only at h
        split at h
        · rename_i T1 hp1 h5
          obtain ⟨k, hk⟩ := aops_cont (cVk := fun _ => acallV E n) (cRk := fun k => acall E n (yk k)) (yk := yk) (fun _ _ _ _ _ => Ole.refl _) (fun i j hij f args hp => m3 E (Nat.le_refl _) (hL.up i j hij) f args hp) hL (fun f args r h => ⟨0, h⟩) c3 h5
          refine ⟨k, ?_⟩
          rw [acode]
          try dsimp only
          rw [hk]
          exact h
        · cases h
      | seq a b =>
        rw [acode] at h
        split at h
        · rename_i T1 hp1 h5
          obtain ⟨k1, hk1⟩ := c1 _ _ _ _ h5
          obtain ⟨k2, hk2⟩ := c1 _ _ _ _ h
          refine ⟨max k1 k2, ?_⟩
          rw [acode, up1 k1 _ (Nat.le_max_left _ _) _ _ _ _ hk1]
          exact up1 k2 _ (Nat.le_max_right _ _) _ _ _ _ hk2
        · rename_i hne
          obtain ⟨k, hk⟩ := c1 _ _ _ _ h
          refine ⟨k, ?_⟩
          rw [acode, hk]
          obtain ⟨ex, T', hp'⟩ := r
          cases ex with
          | normal => exact (hne _ _ h).elim
          | exit i => rfl
          | ret => rfl
      | cond o a b =>
        rw [acode] at h
        split at h
        · rename_i he
          obtain ⟨k, hk⟩ := c1 _ _ _ _ h
          exact ⟨k, by rw [acode, he]; exact hk⟩
        · rename_i he
          obtain ⟨k, hk⟩ := c1 _ _ _ _ h
          exact ⟨k, by rw [acode, he]; exact hk⟩
        · cases h
      | block id a =>
        rw [acode] at h
        split at h
        · rename_i i T1 hp1 h5
          obtain ⟨k, hk⟩ := c1 _ _ _ _ h5
          exact ⟨k, by rw [acode, hk]; exact h⟩
        · rename_i hne
          obtain ⟨k, hk⟩ := c1 _ _ _ _ h
          refine ⟨k, ?_⟩
          rw [acode, hk]
          obtain ⟨ex, T', hp'⟩ := r
          cases ex with
          | normal => rfl
          | exit i => exact (hne _ _ _ h).elim
          | ret => rfl
      | loop keep a =>
        rw [acode] at h
        obtain ⟨k, hk⟩ := c2 _ _ _ _ _ _ h
        exact ⟨k, by rw [acode]; exact hk⟩
      | skip => rw [acode] at h; exact ⟨0, by rw [acode]; exact h⟩
      | bad => rw [acode] at h; cases h
      | exit i => rw [acode] at h; exact ⟨0, by rw [acode]; exact h⟩
      | ret => rw [acode] at h; exact ⟨0, by rw [acode]; exact h⟩
    · rw [aloop] at h
      split at h
      · rename_i hb
        split at h
        · rename_i T1 hp1 h5
          obtain ⟨k1, hk1⟩ := c1 _ _ _ _ h5
          obtain ⟨k2, hk2⟩ := c2 _ _ _ _ _ _ h
          refine ⟨max k1 k2, ?_⟩
          rw [aloop, if_pos hb, up1 k1 _ (Nat.le_max_left _ _) _ _ _ _ hk1]
          exact up2 k2 _ (Nat.le_max_right _ _) _ _ _ _ _ _ hk2
        · rename_i hne
          obtain ⟨k, hk⟩ := c1 _ _ _ _ h
          refine ⟨k, ?_⟩
          rw [aloop, if_pos hb, hk]
          obtain ⟨ex, T', hp'⟩ := r
          cases ex with
          | normal => exact (hne _ _ h).elim
          | exit i => rfl
          | ret => rfl
      · cases h
    · rw [acall] at h
      split at h
      · rename_i p hp0; exact ⟨0, by rw [acall, hp0]; exact h⟩
      · rename_i hp0
        split at h
        · rename_i fn hfn
          split at h
          · rename_i hl
            obtain ⟨v, hv⟩ := afin_some h
            obtain ⟨k, hk⟩ := c1 _ _ _ _ hv
            refine ⟨k, ?_⟩
            rw [acall, hp0]
            dsimp only
            rw [hfn]
            dsimp only
            rw [if_pos hl, hk, ← hv]; exact h
          · cases h
        · cases h
end Go.Proofs.YtgajekpigkknnaaDoor.A

/- The evaluator without fuel: its equations. No condition. -/
namespace Go.Proofs.YtgajekpigkknnaaDoor.A
open Go

/-- What a growing row of answers comes to. -/
noncomputable def lim {α : Type} (f : Nat → Option α) : Option α := open Classical in if h : ∃ r n, f n = some r then some h.choose else none
theorem lim_iff {α : Type} {f : Nat → Option α} (hm : ∀ i j, i ≤ j → Ole (f i) (f j)) {r : α} : lim f = some r ↔ ∃ n, f n = some r := by
  unfold lim
  constructor
  · intro h
    split at h
    · rename_i hx
      cases h
      exact hx.choose_spec
    · cases h
  · rintro ⟨n, hn⟩
    have hx : ∃ r n, f n = some r := ⟨r, n, hn⟩
    rw [dif_pos hx]
    obtain ⟨m, hm'⟩ := hx.choose_spec
    have h1 := hm n (max n m) (Nat.le_max_left _ _) _ hn
    have h2 := hm m (max n m) (Nat.le_max_right _ _) _ hm'
    rw [h1] at h2
    exact h2.symm
theorem opt_ext {α : Type} {x y : Option α} (h1 : Ole x y) (h2 : Ole y x) : x = y := by
  cases x with
  | none => cases y with
    | none => rfl
    | some b => exact (h2 b rfl).symm ▸ rfl
  | some a => exact (h1 a rfl).symm

noncomputable def LC (E : Env) (ys : List Hd) (c : ACode) (T : Tm) (hp : Hp) : Option (AExit × Tm × Hp) := lim fun n => acode E n ys c T hp
noncomputable def LL (E : Env) (ys : List Hd) (m : Nat) (keep : List Nat) (c : ACode) (T : Tm) (hp : Hp) : Option (AExit × Tm × Hp) := lim fun n => aloop E n ys m keep c T hp
noncomputable def LR (E : Env) (ys : List Hd) (f : FuncId) (args : List AV) (hp : Hp) : Option (AV × Hp) := lim fun n => acall E n ys f args hp
noncomputable def LV (E : Env) (f : FuncId) (args : List AV) : Option AV := lim fun n => acallV E n f args

variable {E : Env} {ys : List Hd} {T : Tm} {hp : Hp}
theorem LC_iff {c : ACode} {r : AExit × Tm × Hp} : LC E ys c T hp = some r ↔ ∃ n, acode E n ys c T hp = some r := lim_iff fun _ _ h => m1 E h (Hle.refl _) c T hp
theorem LL_iff {m : Nat} {keep : List Nat} {c : ACode} {r : AExit × Tm × Hp} : LL E ys m keep c T hp = some r ↔ ∃ n, aloop E n ys m keep c T hp = some r := lim_iff fun _ _ h => m2 E h (Hle.refl _) m keep c T hp
theorem LR_iff {f : FuncId} {args : List AV} {r : AV × Hp} : LR E ys f args hp = some r ↔ ∃ n, acall E n ys f args hp = some r := lim_iff fun _ _ h => m3 E h (Hle.refl _) f args hp
theorem LV_iff {f : FuncId} {args : List AV} {r : AV} : LV E f args = some r ↔ ∃ n, acallV E n f args = some r := lim_iff fun _ _ h => m4 E h f args
theorem LC_of {n : Nat} {c : ACode} : Ole (acode E n ys c T hp) (LC E ys c T hp) := fun _ h => LC_iff.2 ⟨n, h⟩
theorem LL_of {n m : Nat} {keep : List Nat} {c : ACode} : Ole (aloop E n ys m keep c T hp) (LL E ys m keep c T hp) := fun _ h => LL_iff.2 ⟨n, h⟩
theorem LR_of {n : Nat} {f : FuncId} {args : List AV} : Ole (acall E n ys f args hp) (LR E ys f args hp) := fun _ h => LR_iff.2 ⟨n, h⟩
theorem LV_of {n : Nat} {f : FuncId} {args : List AV} : Ole (acallV E n f args) (LV E f args) := fun _ h => LV_iff.2 ⟨n, h⟩

theorem LC_skip : LC E ys .skip T hp = some (.normal, T, hp) := LC_iff.2 ⟨1, by rw [acode]⟩
theorem LC_ret : LC E ys .ret T hp = some (.ret, T, hp) := LC_iff.2 ⟨1, by rw [acode]⟩
theorem LC_exit {i : Nat} : LC E ys (.exit i) T hp = some (.exit i, T, hp) := LC_iff.2 ⟨1, by rw [acode]⟩
theorem LC_seq {a b : ACode} : LC E ys (.seq a b) T hp = match LC E ys a T hp with
    | some (.normal, T', hp') => LC E ys b T' hp'
    | r => r := by
  refine opt_ext (fun r h => ?_) (fun r h => ?_)
  · obtain ⟨n, hn⟩ := LC_iff.1 h
    cases n with
    | zero => unfold acode at hn; cases hn
    | succ n =>
      rw [acode] at hn
      split at hn
      · rename_i h1; rw [LC_of _ h1]; exact LC_of _ hn
      · rename_i hne
        rw [LC_of _ hn]
        obtain ⟨ex, T', hp'⟩ := r
        cases ex with
        | normal => exact (hne _ _ hn).elim
        | exit i => rfl
        | ret => rfl
  · split at h
    · rename_i h1
      obtain ⟨n, hn⟩ := LC_iff.1 h1
      obtain ⟨k, hk⟩ := LC_iff.1 h
      refine LC_iff.2 ⟨max n k + 1, ?_⟩
      rw [acode, m1 E (Nat.le_max_left n k) (Hle.refl _) _ _ _ _ hn]
      exact m1 E (Nat.le_max_right n k) (Hle.refl _) _ _ _ _ hk
    · rename_i hne
      obtain ⟨n, hn⟩ := LC_iff.1 h
      refine LC_iff.2 ⟨n + 1, ?_⟩
      rw [acode, hn]
      obtain ⟨ex, T', hp'⟩ := r
      cases ex with
      | normal => exact (hne _ _ h).elim
      | exit i => rfl
      | ret => rfl
theorem LC_cond {o : Opd} {a b : ACode} : LC E ys (.cond o a b) T hp = match o.ev T with
    | .bool true => LC E ys a T hp
    | .bool false => LC E ys b T hp
    | _ => none := by
  refine opt_ext (fun r h => ?_) (fun r h => ?_)
  · obtain ⟨n, hn⟩ := LC_iff.1 h
    cases n with
    | zero => unfold acode at hn; cases hn
    | succ n =>
      rw [acode] at hn
      split at hn
      · rename_i he; rw [he]; exact LC_of _ hn
      · rename_i he; rw [he]; exact LC_of _ hn
      · cases hn
  · split at h
    · rename_i he
      obtain ⟨n, hn⟩ := LC_iff.1 h
      exact LC_iff.2 ⟨n + 1, by rw [acode, he]; exact hn⟩
    · rename_i he
      obtain ⟨n, hn⟩ := LC_iff.1 h
      exact LC_iff.2 ⟨n + 1, by rw [acode, he]; exact hn⟩
    · cases h
theorem LC_block {id : Nat} {a : ACode} : LC E ys (.block id a) T hp = match LC E ys a T hp with
    | some (.exit i, T', hp') => if i = id then some (.normal, T', hp') else some (.exit i, T', hp')
    | r => r := by
  refine opt_ext (fun r h => ?_) (fun r h => ?_)
  · obtain ⟨n, hn⟩ := LC_iff.1 h
    cases n with
    | zero => unfold acode at hn; cases hn
    | succ n =>
      rw [acode] at hn
      split at hn
      · rename_i h1; rw [LC_of _ h1]; exact hn
      · rename_i hne
        rw [LC_of _ hn]
        obtain ⟨ex, T', hp'⟩ := r
        cases ex with
        | normal => rfl
        | exit i => exact (hne _ _ _ hn).elim
        | ret => rfl
  · split at h
    · rename_i h1
      obtain ⟨n, hn⟩ := LC_iff.1 h1
      exact LC_iff.2 ⟨n + 1, by rw [acode, hn]; exact h⟩
    · rename_i hne
      obtain ⟨n, hn⟩ := LC_iff.1 h
      refine LC_iff.2 ⟨n + 1, ?_⟩
      rw [acode, hn]
      obtain ⟨ex, T', hp'⟩ := r
      cases ex with
      | normal => rfl
      | exit i => exact (hne _ _ _ h).elim
      | ret => rfl
theorem LC_loop {keep : List Nat} {a : ACode} : LC E ys (.loop keep a) T hp = LL E ys hp.bs.length keep a T hp := by
  refine opt_ext (fun r h => ?_) (fun r h => ?_)
  · obtain ⟨n, hn⟩ := LC_iff.1 h
    cases n with
    | zero => unfold acode at hn; cases hn
    | succ n => rw [acode] at hn; exact LL_of _ hn
  · obtain ⟨n, hn⟩ := LL_iff.1 h
    exact LC_iff.2 ⟨n + 1, by rw [acode]; exact hn⟩
theorem LL_eq {m : Nat} {keep : List Nat} {a : ACode} : LL E ys m keep a T hp = if belowL m ((T.mask keep).map (·.2)) ∧ belowAll m (hp.bs.take m) then
      match LC E ys a (T.mask keep) { hp with bs := hp.bs.take m } with
      | some (.normal, T', hp') => LL E ys m keep a T' hp'
      | r => r
    else none := by
  refine opt_ext (fun r h => ?_) (fun r h => ?_)
  · obtain ⟨n, hn⟩ := LL_iff.1 h
    cases n with
    | zero => unfold aloop at hn; cases hn
    | succ n =>
      rw [aloop] at hn
      split at hn
      · rename_i hb
        rw [if_pos hb]
        split at hn
        · rename_i h1; rw [LC_of _ h1]; exact LL_of _ hn
        · rename_i hne
          rw [LC_of _ hn]
          obtain ⟨ex, T', hp'⟩ := r
          cases ex with
          | normal => exact (hne _ _ hn).elim
          | exit i => rfl
          | ret => rfl
      · cases hn
  · split at h
    · rename_i hb
      split at h
      · rename_i h1
        obtain ⟨n, hn⟩ := LC_iff.1 h1
        obtain ⟨k, hk⟩ := LL_iff.1 h
        refine LL_iff.2 ⟨max n k + 1, ?_⟩
        rw [aloop, if_pos hb, m1 E (Nat.le_max_left n k) (Hle.refl _) _ _ _ _ hn]
        exact m2 E (Nat.le_max_right n k) (Hle.refl _) _ _ _ _ _ _ hk
      · rename_i hne
        obtain ⟨n, hn⟩ := LC_iff.1 h
        refine LL_iff.2 ⟨n + 1, ?_⟩
        rw [aloop, if_pos hb, hn]
        obtain ⟨ex, T', hp'⟩ := r
        cases ex with
        | normal => exact (hne _ _ h).elim
        | exit i => rfl
        | ret => rfl
    · cases h
theorem LC_region {slots : Nat} {ops : List AInstr} {draw : Bool} {pairs : List (Opd × Opd × Nat)} : LC E ys (.region slots ops draw pairs) T hp = match aops (LV E) (LR E ys) ys draw hp.bs.length ops T { hp with bs := hp.bs ++ List.replicate slots .dead } with
    | some (T', hp') => if draw && !(pairs.all (pairOk T' hp.bs.length)) then none else some (.normal, T', hp')
    | none => none := by
  refine opt_ext (fun r h => ?_) (fun r h => ?_)
  · obtain ⟨n, hn⟩ := LC_iff.1 h
    cases n with
    | zero => unfold acode at hn; cases hn
    | succ n =>
      rw [acode] at hn
      split at hn
      · rename_i h1
        rw [aops_mono (fun f args => LV_of) (fun f args hp => LR_of) (Hle.refl ys) _ h1]
        exact hn
      · cases hn
  · split at h
    · rename_i h1
      obtain ⟨k, hk⟩ := aops_cont (cVk := fun n => acallV E n) (cRk := fun n => acall E n ys) (yk := fun _ => ys) (fun i j hij f args => m4 E hij f args) (fun i j hij f args hp => m3 E hij (Hle.refl _) f args hp) (Lim.const ys) (fun f args r h => LV_iff.1 h) (fun f args hp r h => LR_iff.1 h) h1
      exact LC_iff.2 ⟨k + 1, by rw [acode]; rw [hk]; exact h⟩
    · cases h
theorem LC_range {f : Opd} {ps : List Nat} {assign body : ACode} : LC E ys (.range f ps assign body) T hp = rangeOf E (LC E ys) (LR E) ys f ps assign body T hp := by
  refine opt_ext (fun r h => ?_) (fun r h => ?_)
  · obtain ⟨n, hn⟩ := LC_iff.1 h
    cases n with
    | zero => unfold acode at hn; cases hn
    | succ n =>
      rw [acode_range] at hn
      unfold rangeOf at hn ⊢
      split at hn
      · rename_i g caps hf
        try rw [hf]
        try dsimp only
        split at hn
        · cases hn
        · rename_i hpr
          rw [if_neg hpr]
          split at hn
          · rename_i r0 hp1 h1
            have h2 := m3 E (Nat.le_refl n) ((Hle.refl ys).snoc (handlerOf_mono (run := acode E n ys) (run' := LC E ys) (fun c T hp => LC_of) (d := ys.length) (T := T) (ps := ps) (assign := assign) (body := body))) _ _ _ _ h1
            rw [LR_of _ h2]
            exact hn
          · cases hn
      · cases hn
  · unfold rangeOf at h
    split at h
    · rename_i g caps hf
      split at h
      · cases h
      · rename_i hpr
        split at h
        · rename_i r0 hp1 h1
          obtain ⟨n, hn⟩ := LR_iff.1 h1
          have up : ∀ i j, i ≤ j → ∀ c T hp, Ole (acode E i ys c T hp) (acode E j ys c T hp) := fun i j hij c T hp => m1 E hij (Hle.refl _) c T hp
          have hL' : Lim (fun k => ys ++ [handlerOf (acode E k ys) ys.length T ps assign body]) (ys ++ [handlerOf (LC E ys) ys.length T ps assign body]) :=
            (Lim.const ys).snoc (fun i j hij => handlerOf_mono (up i j hij)) (fun k => handlerOf_mono (fun c T hp => LC_of)) (fun args hp r hr => handlerOf_cont up (fun c T hp r h => LC_iff.1 h) hr)
          obtain ⟨k, hk⟩ := (cont E n _ _ hL').2.2 _ _ _ _ hn
          refine LC_iff.2 ⟨max n k + 1, ?_⟩
          rw [acode_range]
          unfold rangeOf
          rw [hf]
          dsimp only
          rw [if_neg hpr, m3 E (Nat.le_max_left n k) (hL'.up k _ (Nat.le_max_right n k)) _ _ _ _ hk]
          exact h
        · cases h
    · cases h
theorem LR_eq {f : FuncId} {args : List AV} : LR E ys f args hp = match E.prim f with
    | some p => if args.any AV.isYld then none else (p args hp.bs).map fun r => (r.1, { hp with bs := r.2 })
    | none => match E.fn f with
      | some fn => if args.length = fn.np then afin fn.results (LC E ys fn.body (params 0 args) hp) else none
      | none => none := by
  refine opt_ext (fun r h => ?_) (fun r h => ?_)
  · obtain ⟨n, hn⟩ := LR_iff.1 h
    cases n with
    | zero => unfold acall at hn; cases hn
    | succ n =>
      rw [acall] at hn
      split at hn
      · rename_i hp0; rw [hp0]; exact hn
      · rename_i hp0
        rw [hp0]
        dsimp only
        split at hn
        · rename_i fn hfn
          rw [hfn]
          dsimp only
          split at hn
          · rename_i hl
            rw [if_pos hl]
            exact afin_mono LC_of _ hn
          · cases hn
        · cases hn
  · split at h
    · rename_i hp0; exact LR_iff.2 ⟨1, by rw [acall, hp0]; exact h⟩
    · rename_i hp0
      split at h
      · rename_i fn hfn
        split at h
        · rename_i hl
          obtain ⟨v, hv⟩ := afin_some h
          obtain ⟨n, hn⟩ := LC_iff.1 hv
          refine LR_iff.2 ⟨n + 1, ?_⟩
          rw [acall, hp0]
          dsimp only
          rw [hfn]
          dsimp only
          rw [if_pos hl, hn, ← hv]; exact h
        · cases h
      · cases h
theorem LV_eq {f : FuncId} {args : List AV} : LV E f args = match E.prim f with
    | some p => match p args [] with
      | some (r, bs) => expRes true bs r
      | none => none
    | none => match E.fn f with
      | some fn => if args.length = fn.np then match afin fn.results (LC E [] fn.body (params 0 args) ⟨[], []⟩) with
        | some (r, hp') => expRes fn.fresh hp'.bs r
        | none => none else none
      | none => none := by
  refine opt_ext (fun r h => ?_) (fun r h => ?_)
  · obtain ⟨n, hn⟩ := LV_iff.1 h
    cases n with
    | zero => unfold acallV at hn; cases hn
    | succ n =>
      rw [acallV] at hn
      split at hn
      · rename_i hp0; rw [hp0]; exact hn
      · rename_i hp0
        rw [hp0]
        dsimp only
        split at hn
        · rename_i fn hfn
          rw [hfn]
          dsimp only
          split at hn
          · rename_i hl
            rw [if_pos hl]
            split at hn
            · rename_i h1
              rw [afin_mono LC_of _ h1]
              exact hn
            · cases hn
          · cases hn
        · cases hn
  · split at h
    · rename_i hp0; exact LV_iff.2 ⟨1, by rw [acallV, hp0]; exact h⟩
    · rename_i hp0
      split at h
      · rename_i fn hfn
        split at h
        · rename_i hl
          split at h
          · rename_i h1
            obtain ⟨v, hv⟩ := afin_some h1
            obtain ⟨n, hn⟩ := LC_iff.1 hv
            refine LV_iff.2 ⟨n + 1, ?_⟩
            rw [acallV, hp0]
            dsimp only
            rw [hfn]
            dsimp only
            rw [hv] at h1
            rw [if_pos hl, hn, h1]; exact h
          · cases h
        · cases h
      · cases h
end Go.Proofs.YtgajekpigkknnaaDoor.A

/- The evaluator without fuel, as a machine with a stack of what follows: for rewriting. No condition. -/
namespace Go.Proofs.YtgajekpigkknnaaDoor.A
open Go

inductive Fr where
  | code (c : ACode)
  | blk (id : Nat)
  | loop (m : Nat) (keep : List Nat) (c : ACode)

section
variable {β : Type} (E : Env) (ys : List Hd) (Z : AExit → Tm → Hp → Option β)
noncomputable def res : List Fr → AExit → Tm → Hp → Option β
  | [], ex, T, hp => Z ex T hp
  | .code c :: K, .normal, T, hp => (LC E ys c T hp).bind fun r => res K r.1 r.2.1 r.2.2
  | .code _ :: K, .exit i, T, hp => res K (.exit i) T hp
  | .code _ :: K, .ret, T, hp => res K .ret T hp
  | .blk id :: K, .exit i, T, hp => if i = id then res K .normal T hp else res K (.exit i) T hp
  | .blk _ :: K, .normal, T, hp => res K .normal T hp
  | .blk _ :: K, .ret, T, hp => res K .ret T hp
  | .loop m keep c :: K, .normal, T, hp => (LL E ys m keep c T hp).bind fun r => res K r.1 r.2.1 r.2.2
  | .loop _ _ _ :: K, .exit i, T, hp => res K (.exit i) T hp
  | .loop _ _ _ :: K, .ret, T, hp => res K .ret T hp
/-- A code, and what follows. -/
noncomputable def R (c : ACode) (T : Tm) (hp : Hp) (K : List Fr) : Option β := (LC E ys c T hp).bind fun r => res E ys Z K r.1 r.2.1 r.2.2
/-- A loop whose kept temporaries are M. -/
noncomputable def W (m : Nat) (keep : List Nat) (c : ACode) (M : Tm) (hp : Hp) (K : List Fr) : Option β :=
  if belowL m (M.map (·.2)) ∧ belowAll m hp.bs then R E ys Z c M hp (.loop m keep c :: K) else none
/-- The rest of a region. -/
noncomputable def O (q : Bool) (base : Nat) (pairs : List (Opd × Opd × Nat)) (l : List AInstr) (T : Tm) (hp : Hp) (K : List Fr) : Option β :=
  (aops (LV E) (LR E ys) ys q base l T hp).bind fun p => if q && !(pairs.all (pairOk p.1 base)) then none else res E ys Z K .normal p.1 p.2
/-- A value comes to a temporary. -/
noncomputable def V (q : Bool) (base : Nat) (pairs : List (Opd × Opd × Nat)) (d : Option Nat) (x : Option AV) (l : List AInstr) (T : Tm) (hp : Hp) (K : List Fr) : Option β :=
  x.bind fun a => O E ys Z q base pairs l (putD T d a) hp K
noncomputable def VB (q : Bool) (base : Nat) (pairs : List (Opd × Opd × Nat)) (d : Option Nat) (x : Option (AV × List Blk)) (l : List AInstr) (T : Tm) (pend : List (Option AExit)) (K : List Fr) : Option β :=
  x.bind fun a => O E ys Z q base pairs l (putD T d a.1) ⟨a.2, pend⟩ K
/-- Nothing is told; blocks change. -/
noncomputable def VS (q : Bool) (base : Nat) (pairs : List (Opd × Opd × Nat)) (d : Option Nat) (x : Option (List Blk)) (l : List AInstr) (T : Tm) (pend : List (Option AExit)) (K : List Fr) : Option β :=
  x.bind fun bs => O E ys Z q base pairs l (putD T d (.tup [])) ⟨bs, pend⟩ K
noncomputable def VR (q : Bool) (base : Nat) (pairs : List (Opd × Opd × Nat)) (d : Option Nat) (x : Option (AV × Hp)) (l : List AInstr) (T : Tm) (K : List Fr) : Option β :=
  x.bind fun a => O E ys Z q base pairs l (putD T d a.1) a.2 K
/-- A choice that waits for its test. -/
noncomputable def Cd (v : AV) (a b : ACode) (T : Tm) (hp : Hp) (K : List Fr) : Option β := match v with
  | .bool true => R E ys Z a T hp K
  | .bool false => R E ys Z b T hp K
  | _ => none
noncomputable def Ci (t : Bool) (a b : ACode) (T : Tm) (hp : Hp) (K : List Fr) : Option β := if t then R E ys Z a T hp K else R E ys Z b T hp K
/-- An operation with a guard. -/
noncomputable def Gd (v : AV) (want : Bool) (q : Bool) (base : Nat) (pairs : List (Opd × Opd × Nat)) (d : Option Nat) (op : AOp) (s : Nat) (l : List AInstr) (T : Tm) (hp : Hp) (K : List Fr) : Option β := match v with
  | .bool b => if b == want then O E ys Z q base pairs (⟨d, op, none, s⟩ :: l) T hp K else O E ys Z q base pairs l (putD T d (.tup [])) hp K
  | .tup _ => O E ys Z q base pairs l (putD T d (.tup [])) hp K
  | _ => none
noncomputable def Gi (t : Bool) (q : Bool) (base : Nat) (pairs : List (Opd × Opd × Nat)) (d : Option Nat) (op : AOp) (s : Nat) (l : List AInstr) (T : Tm) (hp : Hp) (K : List Fr) : Option β :=
  if t then O E ys Z q base pairs (⟨d, op, none, s⟩ :: l) T hp K else O E ys Z q base pairs l (putD T d (.tup [])) hp K
noncomputable def Gj (t : Bool) (q : Bool) (base : Nat) (pairs : List (Opd × Opd × Nat)) (d : Option Nat) (op : AOp) (s : Nat) (l : List AInstr) (T : Tm) (hp : Hp) (K : List Fr) : Option β :=
  if t then O E ys Z q base pairs l (putD T d (.tup [])) hp K else O E ys Z q base pairs (⟨d, op, none, s⟩ :: l) T hp K
/-- A call by value. -/
noncomputable def CV (f : FuncId) (vs : Option (List AV)) (ids : List Nat) (keeps : Bool) (q : Bool) (base : Nat) (pairs : List (Opd × Opd × Nat)) (d : Option Nat) (s : Nat) (l : List AInstr) (T : Tm) (hp : Hp) (K : List Fr) : Option β :=
  vs.bind fun vs => (LV E f vs).bind fun r => VB E ys Z q base pairs d
    (if ids = [] ∨ scalar r then takeRes keeps s r hp.bs else if q then none else takeRes keeps s r (lockAll ids hp.bs)) l T hp.pend K
/-- A call's result. -/
noncomputable def CW (r : Option AV) (ids : List Nat) (keeps : Bool) (q : Bool) (base : Nat) (pairs : List (Opd × Opd × Nat)) (d : Option Nat) (s : Nat) (l : List AInstr) (T : Tm) (hp : Hp) (K : List Fr) : Option β :=
  r.bind fun r => VB E ys Z q base pairs d (if ids = [] ∨ scalar r then takeRes keeps s r hp.bs else if q then none else takeRes keeps s r (lockAll ids hp.bs)) l T hp.pend K
/-- A call that takes no list, and tells one alone. -/
noncomputable def CX (r : Option AV) (ids : List Nat) (q : Bool) (base : Nat) (pairs : List (Opd × Opd × Nat)) (d : Option Nat) (s : Nat) (l : List AInstr) (T : Tm) (hp : Hp) (K : List Fr) : Option β :=
  r.bind fun r => if ids = [] ∧ r.isFresh = true then CW E ys Z (some r) ids true q base pairs d s l T hp K else none
noncomputable def CVX (f : FuncId) (vs : Option (List AV)) (ids : List Nat) (q : Bool) (base : Nat) (pairs : List (Opd × Opd × Nat)) (d : Option Nat) (s : Nat) (l : List AInstr) (T : Tm) (hp : Hp) (K : List Fr) : Option β :=
  vs.bind fun vs => CX E ys Z (LV E f vs) ids q base pairs d s l T hp K
/-- A call that shares the blocks. -/
noncomputable def CR (f : AV) (args : List AV) (keeps : Nat) (q : Bool) (base : Nat) (pairs : List (Opd × Opd × Nat)) (d : Option Nat) (l : List AInstr) (T : Tm) (hp : Hp) (K : List Fr) : Option β := match f with
  | .clo g caps => VR E ys Z q base pairs d (if keeps = 2 then quietR (LR E ys) ys g (args ++ caps) hp else if keeps = 3 then frameR (LR E ys) ys g (args ++ caps) hp else if keeps = 4 then frameS (LR E ys) ys g (args ++ caps) hp else (LR E ys g (args ++ caps) hp).bind fun p => (shrink (keeps == 1) hp.bs.length p.1 p.2).map fun hp' => (p.1, hp')) l T K
  | .yld n => VR E ys Z q base pairs d (if 2 ≤ keeps ∨ args.any AV.isYld then none else match ys[n]? with
      | some h => (h args hp).map fun p => (.bool p.1, p.2)
      | none => none) l T K
  | _ => none
end

def ZV (rs : List ARes) (fr : Bool) (ex : AExit) (T : Tm) (hp : Hp) : Option AV := match ex with
  | .exit _ => none
  | _ => (aresults rs T hp.bs).bind (expRes fr hp.bs)
def ZR (rs : List ARes) (ex : AExit) (T : Tm) (hp : Hp) : Option (AV × Hp) := match ex with
  | .exit _ => none
  | _ => (aresults rs T hp.bs).map (·, hp)

section
variable {β : Type} {E : Env} {ys : List Hd} {Z : AExit → Tm → Hp → Option β} {T : Tm} {hp : Hp} {K : List Fr}
theorem k_nil {ex : AExit} : res E ys Z [] ex T hp = Z ex T hp := by rw [res]
theorem k_code {c : ACode} : res E ys Z (.code c :: K) .normal T hp = R E ys Z c T hp K := by rw [res]; rfl
theorem k_code_e {c : ACode} {i : Nat} : res E ys Z (.code c :: K) (.exit i) T hp = res E ys Z K (.exit i) T hp := by rw [res]
theorem k_code_r {c : ACode} : res E ys Z (.code c :: K) .ret T hp = res E ys Z K .ret T hp := by rw [res]
theorem k_blk {i : Nat} : res E ys Z (.blk i :: K) .normal T hp = res E ys Z K .normal T hp := by rw [res]
theorem k_blk_e {i j : Nat} : res E ys Z (.blk i :: K) (.exit j) T hp = if j = i then res E ys Z K .normal T hp else res E ys Z K (.exit j) T hp := by rw [res]
theorem k_blk_r {i : Nat} : res E ys Z (.blk i :: K) .ret T hp = res E ys Z K .ret T hp := by rw [res]
theorem k_loop_e {m : Nat} {keep : List Nat} {c : ACode} {i : Nat} : res E ys Z (.loop m keep c :: K) (.exit i) T hp = res E ys Z K (.exit i) T hp := by rw [res]
theorem k_loop_r {m : Nat} {keep : List Nat} {c : ACode} : res E ys Z (.loop m keep c :: K) .ret T hp = res E ys Z K .ret T hp := by rw [res]
theorem LL_bind {m : Nat} {keep : List Nat} {c : ACode} : ((LL E ys m keep c T hp).bind fun r => res E ys Z K r.1 r.2.1 r.2.2) = W E ys Z m keep c (T.mask keep) { hp with bs := hp.bs.take m } K := by
  rw [LL_eq]
  unfold W
  split
  · simp only [R]
    cases h : LC E ys c (T.mask keep) { hp with bs := hp.bs.take m } with
    | none => rfl
    | some r =>
      obtain ⟨ex, T', hp'⟩ := r
      cases ex with
      | normal => simp only [Option.bind_some, res]
      | exit i => simp only [Option.bind_some, res]
      | ret => simp only [Option.bind_some, res]
  · rfl
theorem k_loop {m : Nat} {keep : List Nat} {c : ACode} : res E ys Z (.loop m keep c :: K) .normal T hp = W E ys Z m keep c (T.mask keep) { hp with bs := hp.bs.take m } K := by
  rw [res, LL_bind]
theorem R_skip : R E ys Z .skip T hp K = res E ys Z K .normal T hp := by rw [R, LC_skip]; rfl
theorem R_exit {i : Nat} : R E ys Z (.exit i) T hp K = res E ys Z K (.exit i) T hp := by rw [R, LC_exit]; rfl
theorem R_ret : R E ys Z .ret T hp K = res E ys Z K .ret T hp := by rw [R, LC_ret]; rfl
theorem R_seq {a b : ACode} : R E ys Z (.seq a b) T hp K = R E ys Z a T hp (.code b :: K) := by
  simp only [R, LC_seq]
  cases h : LC E ys a T hp with
  | none => rfl
  | some r =>
    obtain ⟨ex, T', hp'⟩ := r
    cases ex <;> simp only [Option.bind_some, res]
theorem R_block {i : Nat} {a : ACode} : R E ys Z (.block i a) T hp K = R E ys Z a T hp (.blk i :: K) := by
  simp only [R, LC_block]
  cases h : LC E ys a T hp with
  | none => rfl
  | some r =>
    obtain ⟨ex, T', hp'⟩ := r
    cases ex with
    | exit j => simp only [Option.bind_some, res]; split <;> rfl
    | normal => simp only [Option.bind_some, res]
    | ret => simp only [Option.bind_some, res]
theorem R_loop {keep : List Nat} {a : ACode} : R E ys Z (.loop keep a) T hp K = W E ys Z hp.bs.length keep a (T.mask keep) hp K := by
  rw [R, LC_loop, LL_bind, List.take_length]
theorem R_cond {o : Opd} {a b : ACode} : R E ys Z (.cond o a b) T hp K = Cd E ys Z (o.ev T) a b T hp K := by
  rw [R, LC_cond]
  unfold Cd
  cases o.ev T with
  | bool t => cases t <;> rfl
  | _ => rfl
theorem Cd_bool {t : Bool} {a b : ACode} : Cd E ys Z (.bool t) a b T hp K = Ci E ys Z t a b T hp K := by
  unfold Cd Ci; cases t <;> rfl
theorem Ci_true {a b : ACode} : Ci E ys Z true a b T hp K = R E ys Z a T hp K := rfl
theorem Ci_false {a b : ACode} : Ci E ys Z false a b T hp K = R E ys Z b T hp K := rfl
theorem R_region {slots : Nat} {ops : List AInstr} {q : Bool} {pairs : List (Opd × Opd × Nat)} : R E ys Z (.region slots ops q pairs) T hp K = O E ys Z q hp.bs.length pairs ops T ⟨hp.bs ++ List.replicate slots .dead, hp.pend⟩ K := by
  rw [R, LC_region]
  unfold O
  cases h : aops (LV E) (LR E ys) ys q hp.bs.length ops T { hp with bs := hp.bs ++ List.replicate slots .dead } with
  | none => rfl
  | some p =>
    obtain ⟨T', hp'⟩ := p
    simp only [Option.bind_some]
    split <;> rfl
variable {base : Nat} {q : Bool} {pairs : List (Opd × Opd × Nat)} {d : Option Nat} {s : Nat} {l : List AInstr}
theorem O_nil : O E ys Z false base pairs [] T hp K = res E ys Z K .normal T hp := by
  unfold O; simp only [aops, Option.bind_some, Bool.false_and]; rfl
theorem O_nil_q : O E ys Z true base pairs [] T hp K = if pairs.all (pairOk T base) = true then res E ys Z K .normal T hp else none := by
  unfold O; simp only [aops, Option.bind_some, Bool.true_and]
  cases pairs.all (pairOk T base) <;> rfl
theorem O_guard {op : AOp} {t : Nat} {w : Bool} : O E ys Z q base pairs (⟨d, op, some (t, w), s⟩ :: l) T hp K = Gd E ys Z (T.get t) w q base pairs d op s l T hp K := by
  unfold Gd
  cases h : T.get t with
  | bool b =>
    cases hbw : (b == w) <;> simp only [Bool.false_eq_true, if_false, if_true, O, aops, ainstr, guardOf, h, hbw]
  | _ => simp only [O, aops, ainstr, guardOf, h, Option.bind_none]
theorem Gd_bool {b : Bool} {op : AOp} : Gd E ys Z (.bool b) true q base pairs d op s l T hp K = Gi E ys Z b q base pairs d op s l T hp K := by
  cases b <;> rfl
theorem Gd_bool_f {b : Bool} {op : AOp} : Gd E ys Z (.bool b) false q base pairs d op s l T hp K = Gj E ys Z b q base pairs d op s l T hp K := by
  cases b <;> rfl
theorem Gd_tup {w : Bool} {vs : List AV} {op : AOp} : Gd E ys Z (.tup vs) w q base pairs d op s l T hp K = O E ys Z q base pairs l (putD T d (.tup [])) hp K := rfl
theorem Gi_true {op : AOp} : Gi E ys Z true q base pairs d op s l T hp K = O E ys Z q base pairs (⟨d, op, none, s⟩ :: l) T hp K := rfl
theorem Gi_false {op : AOp} : Gi E ys Z false q base pairs d op s l T hp K = O E ys Z q base pairs l (putD T d (.tup [])) hp K := rfl
theorem Gj_false {op : AOp} : Gj E ys Z false q base pairs d op s l T hp K = O E ys Z q base pairs (⟨d, op, none, s⟩ :: l) T hp K := rfl
theorem Gj_true {op : AOp} : Gj E ys Z true q base pairs d op s l T hp K = O E ys Z q base pairs l (putD T d (.tup [])) hp K := rfl
theorem O_cons {op : AOp} (hv : ∀ f l k, op ≠ .callV f l k) (hr : ∀ f l k, op ≠ .callR f l k) (hq : quietOk T op = true) : O E ys Z q base pairs (⟨d, op, none, s⟩ :: l) T hp K = VB E ys Z q base pairs d (aop op (base + s) T hp.bs) l T hp.pend K := by
  unfold O VB
  have key : (if q && !quietOk T op then none else (aop op (base + s) T hp.bs).map fun p => (p.1, ({ hp with bs := p.2 } : Hp))) = (aop op (base + s) T hp.bs).map fun p => (p.1, ({ hp with bs := p.2 } : Hp)) := by
    rw [hq]; cases q <;> rfl
  have k2 : aexec (LV E) (LR E ys) ys q (base + s) op T hp = (aop op (base + s) T hp.bs).map fun p => (p.1, ({ hp with bs := p.2 } : Hp)) := by
    cases op <;> first | exact key | exact absurd rfl (hv _ _ _) | exact absurd rfl (hr _ _ _)
  simp only [aops, ainstr, guardOf, k2]
  cases h : aop op (base + s) T hp.bs with
  | none => rfl
  | some p => rfl
end
end Go.Proofs.YtgajekpigkknnaaDoor.A
