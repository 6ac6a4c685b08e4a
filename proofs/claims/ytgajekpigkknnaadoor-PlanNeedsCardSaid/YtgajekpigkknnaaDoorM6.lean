/- Part 6 of the proofs of these statements. No condition. -/
import Derived.Test.YtgajekpigkknnaaDoorM5
import Derived.Shelf.Spec.SlicesInsertGrow
import Derived.Test.YtgajekpigkknnaaDoorProg
import Derived.KernelRfl
set_option linter.unusedVariables false
set_option linter.unusedSimpArgs false
/- A function of the library that is taken as told: slices.Insert of one element. No condition. -/
set_option linter.unusedVariables false
set_option linter.unusedSimpArgs false
namespace Go.Proofs.YtgajekpigkknnaaDoor.A
open Go Go.RowKit
theorem run_copy_row {P : Program} (w : World) (t ty e : TypeId) (k : Nat) (hu : P.underlying t = some (.slice e)) (hs : (P.info? e).map (·.size) = some k) (b o dLen dCap : Nat) (a : Addr) (sLen sCap : Nat) (cur : Array Value) (fr : TypeId) (hh : w.heap[b]? = some (.cells cur fr (0, 0)))
    (news : List Value) (n : Nat) (hn : n = Nat.min sLen dLen) (hl : news.length = n * k) (hsrc : ∀ j v, news[j]? = some v → w.cell? (a.add j) = some v) (hfit : o + news.length ≤ cur.size) (h1 : ∀ v ∈ news, v.oneCell' = true) :
    (Builtin.copy_ #[t, t] ty #[.slice (some ⟨b, o, none⟩) dLen dCap, .slice (some a) sLen sCap]).run P w = .ok (goInt n) (w.setRow b (cur.toList.take o ++ news ++ cur.toList.drop (o + news.length)).toArray) := by
  have hf := run_firstCells_some (P := P) w k n a sLen sCap news hl hsrc
  have hst := run_storeCells_at P b o fr news 0 cur w hh (by simpa using hfit) h1
  simp only [Nat.add_zero] at hst
  cases hq : P.info? e with
  | none => simp [hq] at hs
  | some i =>
    have hi : i.size = k := by simpa [hq] using hs
    simp [Builtin.copy_, run_underlying hu, Builtin.lenOf, sizeOf, typeInfo, hq, hi, ← hn, hf, hst]
theorem ins_list1 {α : Type} (a b m : Nat) (cur xs M : List α) (hM : M.length = m) (hx : xs.length = b) (hc : a + b + m ≤ cur.length) (R1 R2 : List α) (h1 : R1 = cur.take (a + b) ++ M ++ cur.drop (a + b + m)) (h2 : R2 = R1.take a ++ xs ++ R1.drop (a + b)) :
    R2.take (a + b + m) = cur.take a ++ xs ++ M ∧ R2.length = cur.length := by
  have l1 : (cur.take (a + b)).length = a + b := by rw [List.length_take]; omega
  have e1 : R1.take a = cur.take a := by
    rw [h1, List.append_assoc, List.take_append_of_le_length (by omega), List.take_take, Nat.min_eq_left (by omega)]
  have e2 : R1.drop (a + b) = M ++ cur.drop (a + b + m) := by
    rw [h1, List.append_assoc, List.drop_left' l1]
  rw [h2, e1, e2]
  have l2 : (cur.take a).length = a := by rw [List.length_take]; omega
  constructor
  · rw [← List.append_assoc, List.take_left' (by simp only [List.length_append, l2, hx, hM])]
  · simp only [List.length_append, l2, hx, hM, List.length_drop]; omega
theorem ins_list2 {α : Type} (a b m : Nat) (cur xs M R1 : List α) (hM : M.length = m) (hx : xs.length = b) (hc : a + b + m ≤ R1.length) (hR : R1.take a = cur.take a) (hl : a ≤ cur.length) (R2 R3 : List α) (h2 : R2 = R1.take a ++ xs ++ R1.drop (a + b)) (h3 : R3 = R2.take (a + b) ++ M ++ R2.drop (a + b + m)) :
    R3.take (a + b + m) = cur.take a ++ xs ++ M ∧ R3.length = R1.length := by
  have l1 : (R1.take a).length = a := by rw [List.length_take]; omega
  have e1 : R2.take (a + b) = R1.take a ++ xs := by
    rw [h2]; exact List.take_left' (by simp only [List.length_append, l1, hx])
  have l2 : R2.length = R1.length := by rw [h2]; simp only [List.length_append, l1, hx, List.length_drop]; omega
  rw [h3, e1]
  constructor
  · rw [List.take_left' (by simp only [List.length_append, l1, hx, hM]), hR]
  · simp only [List.length_append, l1, hx, hM, List.length_drop, l2]; omega
/-- One element is set into a slice: what the library's text comes to. -/
def InsMid (P : Program) (f : FuncId) (e : TypeId) (k bytes : Nat) : Prop :=
  ∀ (g n c i vb voff vc : Nat) (cur curv : Array Value) (xs : List Value) (w : World), i < n → n ≤ c → c ≤ maxLen → (n + 1) * bytes ≤ 140737488355328 → vb ≠ g → w.heap[g]? = some (.cells cur e (0, 0)) → cur.size = c * k → w.heap[vb]? = some (.cells curv e (0, 0)) →
    xs.length = k → (∀ j u, xs[j]? = some u → w.cell? ⟨vb, voff + j, none⟩ = some u) → (∀ u ∈ xs, u.oneCell' = true) → (∀ u ∈ cur.toList.take (n * k), u.oneCell' = true) →
    Calls P f #[.slice (some ⟨g, 0, none⟩) n c, .int .i64 i, .slice (some ⟨vb, voff, none⟩) 1 vc] w fun e' w' =>
      ∃ (g' c' : Nat) (cur' : Array Value), e' = .returned (.slice (some ⟨g', 0, none⟩) (n + 1) (c' + 1)) ∧ w'.heap[g']? = some (.cells cur' e (0, 0)) ∧ n + 1 ≤ c' + 1 ∧ c' + 1 ≤ maxLen ∧ cur'.size = (c' + 1) * k ∧
        cur'.toList.take ((n + 1) * k) = cur.toList.take (i * k) ++ xs ++ (cur.toList.take (n * k)).drop (i * k) ∧ (g' = g ∨ w.heap.size ≤ g') ∧ w.grownBy w' (some g) ∧ w.drawn ≤ w'.drawn
def InsEnd (P : Program) (f : FuncId) (t : TypeId) : Prop :=
  ∀ (base : Option Addr) (n c vb voff vc : Nat) (v' : Value) (w w' : World), n ≤ c → (base = none → n = 0) → (Builtin.append_ #[t, t] t #[.slice base n c, .slice (some ⟨vb, voff, none⟩) 1 vc]).run P w = .ok v' w' →
    Calls P f #[.slice base n c, .int .i64 n, .slice (some ⟨vb, voff, none⟩) 1 vc] w fun e w1 => e = .returned v' ∧ w1 = w'
variable {U : Nat → Prop} {w w' : World} {Pr Pr' : Nat → Nat → Prop} {σ σ' : List Blk} {γ γ' : List Ghost} {ls : List Nat} {P : Program} {G : Nat → Option (List AV)}
def pInsert (e k bytes : Nat) : List AV → List Blk → Option (AV × List Blk)
  | [.lis id g off len, .int .i64 i, .lis id2 g2 off2 len2], bs =>
    match bs[id]?, bs[id2]? with
    | some (.lst 0 g' e' k' rows), some (.lst lk2 g2' e2 k2 ys) =>
      if (off = 0 ∧ g' = g ∧ e' = e ∧ k' = k ∧ rows.length = len) ∧ (0 ≤ i ∧ i ≤ len) ∧ id ≠ id2 ∧ (off2 = 0 ∧ len2 = 1 ∧ ys.length = 1 ∧ g2' = g2 ∧ e2 = e ∧ k2 = k) ∧ (len + 1) * bytes ≤ 140737488355328 ∧ len + 1 ≤ 4611686018427387904 then
        some (.lis id (g + 1) 0 (len + 1), bs.set id (.lst 0 (g + 1) e k (rows.take i.toNat ++ ys ++ rows.drop i.toNat)))
      else none
    | _, _ => none
  | _, _ => none
theorem grown_evo {g : Nat} {cur : Array Value} {e : TypeId} (hh : w.heap[g]? = some (.cells cur e (0, 0))) (hg : w.grownBy w' (some g)) (hdr : w.drawn ≤ w'.drawn) (hU : U g) (hP : ∀ i, ¬ Pr g i) (hnew : ∀ b, w.heap.size ≤ b → U b) (hold : ∀ b i, Pr b i → b < w.heap.size) : Evo U [] w Pr w' Pr :=
  ⟨hg.os, hg.tape, hg.output, hg.size, fun b hb => hg.block b (Nat.lt_of_not_le fun h => hb (hnew b h)) (fun e => by cases e; exact hb hU),
    fun b o h1 h2 _ => by
      have hlt : b < w.heap.size := (Array.getElem?_eq_some_iff.1 h1).1
      by_cases hne : b = g
      · subst hne; rw [hh] at h1; cases h1; cases h2
      · rw [hg.block b hlt (fun e => by cases e; exact hne rfl)]; exact h1,
    fun b i hp => ⟨hp, fun v hv => by
      have hlt := hold b i hp
      unfold World.cell? at hv ⊢
      rw [hg.block b hlt (fun e => by cases e; exact hP i hp)]; exact hv⟩, fun _ _ _ h => h, hdr⟩
theorem pInsert_ok {f : FuncId} {t e : TypeId} {k bytes : Nat} {i : TypeInfo} {z : Value} (hent : Ent P f) (hts : sliceEl P t = some (e, k)) (hi : P.info? e = some i) (hz : i.zero = some z) (hzs : z.cells.size = k) (hby : i.bytes = bytes)
    (hmid : InsMid P f e k bytes) (hend : InsEnd P f t) : PrimOk P G f (pInsert e k bytes) := by
  intro args bs r bs' h U w Pr γ vs hI hG hA
  unfold pInsert at h
  split at h
  case h_2 => cases h
  rename_i id g off len iv id2 g2 off2 len2
  split at h
  case h_2 => cases h
  rename_i g' e' k' rows lk2 g2' e2 k2 ys hid hid2
  split at h
  case isFalse => cases h
  rename_i hc
  obtain ⟨⟨rfl, rfl, rfl, rfl, hlen⟩, ⟨hi0, hi1⟩, hne, ⟨rfl, rfl, hyl, rfl, rfl, rfl⟩, hbb, hll⟩ := hc
  cases h
  obtain ⟨v0, vs1, rfl, r0, hA⟩ := hA.cons_inv
  obtain ⟨v1, vs2, rfl, r1, hA⟩ := hA.cons_inv
  obtain ⟨v2, vs3, rfl, r2, hA⟩ := hA.cons_inv
  rw [hA.nil_inv]
  obtain ⟨ii, rfl⟩ : ∃ ii : Nat, iv = (ii : Int) := ⟨iv.toNat, by omega⟩
  have hii : ii ≤ len := by omega
  simp only [Int.toNat_natCast]
  have hq := int_inv r1
  subst hq
  subst hlen
  have hyf : ∃ y, ys = [y] := List.length_eq_one_iff.1 hyl
  obtain ⟨gh, us, hg, hk, hrk, hd, hV, hR, hone⟩ := hI.lst id 0 g' e2 k2 rows hid
  obtain ⟨gh2, us2, hg2, _, hrk2, hd2, hV2, hR2, hone2⟩ := hI.lst id2 lk2 g2' e2 k2 ys hid2
  have hidl := (List.getElem?_eq_some_iff.1 hid).1
  have hγl : id < γ.length := (List.getElem?_eq_some_iff.1 hg).1
  have hM : MutIs gh.v k2 0 rows.length v0 := by
    cases r0 with
    | lisOld id gen off len lk g2 e k rows u h3 h4 ho => rw [hid] at h3; cases h3; omega
    | lis id off len lk g2 e k rows gh2 u h3 h4 h5 h6 => rw [hid] at h3; cases h3; rw [hg] at h4; cases h4; exact h6
  have hM2 : MutIs gh2.v k2 0 1 v2 := by
    cases r2 with
    | lisOld id gen off len lk g2 e k rows u h3 h4 ho => rw [hid2] at h3; cases h3; omega
    | lis id off len lk g2 e k rows gh2 u h3 h4 h5 h6 => rw [hid2] at h3; cases h3; rw [hg2] at h4; cases h4; exact h6
  obtain ⟨base, n0, cap, hgv, ⟨_, rfl, hlc, hbs⟩ | ⟨h0, _⟩⟩ := hM
  case inr => exact absurd h0 (Nat.lt_irrefl 0)
  obtain ⟨base2, n2, cap2, hgv2, ⟨_, rfl, hlc2, hbs2⟩ | ⟨h0, _⟩⟩ := hM2
  case inr => exact absurd h0 (Nat.lt_irrefl 0)
  obtain ⟨vb, rfl⟩ := hbs2 (by decide)
  obtain ⟨hul2, ⟨hn, _⟩ | ⟨vb', c2, curv, hv2, hh2, hn2, hcm2, hcs2, htk2⟩⟩ := hV2
  · omega
  rw [hgv2] at hv2
  simp only [Value.slice.injEq, Option.some.injEq, Addr.mk.injEq, and_true] at hv2
  obtain ⟨rfl, rfl, rfl⟩ := hv2
  rcases Nat.lt_or_ge ii rows.length with hlt | hge
  · obtain ⟨_, hV⟩ := hV
    rcases hV with ⟨hn0, _⟩ | ⟨gb, c, cur, hv, hh, hn, hcm, hcs, htk⟩
    · omega
    rw [hgv] at hv
    simp only [Value.slice.injEq] at hv
    obtain ⟨rfl, rfl, rfl⟩ := hv
    have hm1 : memB bs γ id = some gb := by rw [memB_lst hid hg, hgv]; rfl
    have hm2 : memB bs γ id2 = some vb := by rw [memB_lst hid2 hg2, hgv2]; rfl
    have hvb : vb ≠ gb := fun e => hne (hI.inj id id2 gb hm1 (by rw [hm2, e]))
    obtain ⟨hU, hP⟩ := hI.free id _ gb hid (fun h => by cases h) hm1
    have hxl : us2.length = k2 := by rw [hul2, hyl, Nat.one_mul]
    have hm := hmid gb rows.length (c + 1) ii vb 0 (c2 + 1) cur curv us2 w hlt hn hcm hbb hvb hh hcs hh2 hxl (fun j u hj => by
      rw [Nat.zero_add]
      rw [← htk2, List.getElem?_take] at hj
      split at hj
      · simp only [World.cell?, hh2]; rw [← Array.getElem?_toList]; exact hj
      · cases hj) hone2 (by rw [htk]; exact hone)
    refine .inl ⟨hent _ _, hm.mono ?_⟩
    rintro e' w' ⟨g1, c1, cur1, rfl, hh1, hc1, hc1m, hcs1, htk1, hor, hgr, hdr⟩
    have hE : Evo U [] w Pr w' Pr := grown_evo hh hgr hdr hU hP hI.new hI.old
    have htk' : (cur.toList.take (ii * k2)) = us.take (ii * k2) := by
      rw [← htk, List.take_take, Nat.min_eq_left (Nat.mul_le_mul_right _ hii)]
    rw [htk, htk'] at htk1
    have hlen' : (rows.take ii ++ ys ++ rows.drop ii).length = rows.length + 1 := by simp only [List.length_append, List.length_take, List.length_drop, hyl]; omega
    have hks : ∀ r ∈ rows.take ii ++ ys ++ rows.drop ii, r.length = k2 := fun r hr => by
      simp only [List.mem_append] at hr
      rcases hr with (hr | hr) | hr
      · exact hrk r (List.mem_of_mem_take hr)
      · exact hrk2 r hr
      · exact hrk r (List.mem_of_mem_drop hr)
    have hfl : (rows.take ii ++ ys ++ rows.drop ii).flatten = rows.flatten.take (ii * k2) ++ ys.flatten ++ rows.flatten.drop (ii * k2) := by
      rw [List.flatten_append, List.flatten_append, flatten_take _ hrk, flatten_drop _ hrk]
    have hul : us.length = rows.length * k2 := by have := hR.1; rw [flatten_length _ hrk] at this; omega
    obtain ⟨h3, h4⟩ := hI.growLst hid hg (rows.take ii ++ ys ++ rows.drop ii) (.slice (some ⟨g1, 0, none⟩) (rows.length + 1) (c1 + 1)) (us.take (ii * k2) ++ us2 ++ us.drop (ii * k2)) hE
      (fun b hb hnb => hgr.block b hb (fun e => by cases e; exact hnb (by rw [hgv]; rfl)))
      (fun b hb => by
        cases hb
        rcases hor with rfl | h
        · exact .inl (by rw [hgv]; rfl)
        · exact .inr h) hks
      (by rw [hfl, dataL_append, dataL_append, dataL_take hd, dataL_drop hd, hd2]; rfl)
      (by
        rw [hlen']
        refine ⟨?_, .inr ⟨g1, c1, cur1, rfl, hh1, hc1, hc1m, hcs1, htk1⟩⟩
        simp only [List.length_append, List.length_take, List.length_drop, hul, hxl, Nat.add_mul]
        have := Nat.mul_le_mul_right k2 hii
        omega)
      (by rw [hfl]; exact ((hR.take _).append hR2).append (hR.drop _))
      (fun u hu => by
        simp only [List.mem_append] at hu
        rcases hu with (hu | hu) | hu
        · exact hone u (List.mem_of_mem_take hu)
        · exact hone2 u hu
        · exact hone u (List.mem_of_mem_drop hu))
    exact ⟨_, rfl, Pr, _, h3, h4, hE, .lis id 0 _ 0 (g' + 1) e2 k2 _ ⟨0, _⟩ _ (List.getElem?_set_self hidl) (List.getElem?_set_self hγl) (by rw [hlen']; omega) ⟨_, _, _, rfl, .inl ⟨rfl, rfl, hc1, fun _ => ⟨_, rfl⟩⟩⟩⟩
  · have hie : ii = rows.length := by omega
    subst hie
    obtain ⟨o, ho⟩ : ∃ o : Oper, o = { dst := some 2, op := .call { callee := .builtin .append, args := #[.tmp 0, .tmp 1], argTypes := #[t, t] }, type := t, pos := "", after := #[], guard := none } := ⟨_, rfl⟩
    have hT : TOk w Pr bs γ [] [(0, .lis id g' 0 rows.length), (1, .lis id2 g2' 0 1)] (#[Value.slice base rows.length cap, .slice (some ⟨vb, 0, none⟩) 1 (c2 + 1)] : Array Value) := fun j => by
      match j with
      | 0 => exact r0
      | 1 => exact r2
      | j + 2 => exact .undef _
    have hop := op_append (P := P) (G := G) hI hG (T := [(0, .lis id g' 0 rows.length), (1, .lis id2 g2' 0 1)]) (a := ⟨#[Value.slice base rows.length cap, .slice (some ⟨vb, 0, none⟩) 1 (c2 + 1)], []⟩) hT (o := o) (s := 0) (by rw [ho]) rfl rfl rfl hts hi hz hzs hby (x := .tmp 0) (y := .tmp 1) (x' := .t 0) (y' := .t 1) rfl rfl (r := .lis id (g' + 1) 0 (rows.length + 1)) (σ' := bs.set id (.lst 0 (g' + 1) e2 k2 (rows.take rows.length ++ ys))) (by
        have e1 : rowsOf bs (.lis id2 g2' 0 1) = some ys := by
          unfold rowsOf; simp only [hid2, hyl, true_and, Nat.zero_add, Nat.le_refl, if_true, List.drop_zero]; rw [List.take_of_length_le (by omega)]
        have e2' : headFits k2 ys = true := by
          obtain ⟨y, rfl⟩ := hyf
          have := hrk2 y (by simp)
          simp [headFits, this]
        show (match rowsOf bs (.lis id2 g2' 0 1) with | some ys => if headFits k2 ys = true then aappend 0 e2 k2 bytes bs (.lis id g' 0 rows.length) ys else none | none => none) = _
        rw [e1]
        simp only [e2', if_true, aappend, hid, hyl, true_and, Nat.le_refl, hbb, hll, and_self])
    obtain ⟨x, v, w', Pr', γ', hrun, hx, hrep, hI', hK', hE'⟩ := hop
    obtain ⟨cs, hrunB⟩ := run_builtin (P := P) (w := w) (a := ⟨#[Value.slice base rows.length cap, .slice (some ⟨vb, 0, none⟩) 1 (c2 + 1)], []⟩) (o := o) (c := { callee := .builtin .append, args := #[.tmp 0, .tmp 1], argTypes := #[t, t] }) (b := .append) (by rw [ho]) rfl
    have hB : (do let q ← Builtin.append_ #[t, t] t #[Value.slice base rows.length cap, .slice (some ⟨vb, 0, none⟩) 1 (c2 + 1)]; pure (Next.value q) : Sem Next).run P w = .ok x w' := by
      have hm : (#[.tmp 0, .tmp 1] : Array Operand).map (Act.eval ⟨#[Value.slice base rows.length cap, .slice (some ⟨vb, 0, none⟩) 1 (c2 + 1)], []⟩) = #[Value.slice base rows.length cap, .slice (some ⟨vb, 0, none⟩) 1 (c2 + 1)] := by simp [Act.eval]
      rw [← hrun, hrunB, hm, ho]
      rfl
    rw [Sem.run_bind] at hB
    cases hA2 : (Builtin.append_ #[t, t] t #[Value.slice base rows.length cap, .slice (some ⟨vb, 0, none⟩) 1 (c2 + 1)]).run P w with
    | ok v1 w1 =>
      rw [hA2] at hB
      simp at hB
      obtain ⟨rfl, rfl⟩ := hB
      obtain rfl : v1 = v := by
        rcases hx with h | ⟨h, _⟩
        · cases h; rfl
        · cases h
      refine .inl ⟨hent _ _, (hend base rows.length cap vb 0 (c2 + 1) v1 w w1 hlc (fun hb => by
        by_cases h0 : rows.length = 0
        · exact h0
        · obtain ⟨_, h⟩ := hbs h0; rw [hb] at h; cases h) hA2).mono ?_⟩
      rintro e' w2 ⟨rfl, rfl⟩
      rw [List.take_length] at hI' hK' hrep
      simp only [List.take_length, List.drop_length, List.append_nil]
      exact ⟨v1, rfl, Pr', γ', hI', hK', hE', hrep⟩
    | _ => rw [hA2] at hB; simp at hB
theorem pInsert_ok' {f : FuncId} {t e : TypeId} {k bytes : Nat} {z : Value} (hent : Ent P f) (hts : sliceEl P t = some (e, k)) (T : J.ElemT P t e k z bytes) (hmid : InsMid P f e k bytes) (hend : InsEnd P f t) : PrimOk P G f (pInsert e k bytes) := by
  have h := T.info
  cases hq : P.info? e with
  | none => rw [hq] at h; cases h
  | some i =>
    rw [hq] at h
    simp only [Option.map_some, Option.some.injEq, Prod.mk.injEq] at h
    exact pInsert_ok hent hts hq h.1 T.zs h.2.2 hmid hend
end Go.Proofs.YtgajekpigkknnaaDoor.A

/- slices.Insert into a list behind which rows of its own lie yet. No condition. -/
set_option linter.unusedVariables false
set_option linter.unusedSimpArgs false
namespace Go.Proofs.YtgajekpigkknnaaDoor.A
open Go Go.RowKit
variable {U : Nat → Prop} {w w' : World} {Pr Pr' : Nat → Nat → Prop} {σ σ' bs : List Blk} {γ γ' : List Ghost} {ls : List Nat} {P : Program} {G : Nat → Option (List AV)}
/-- A list's block without what lies behind the list. -/
theorem Inv.trim (hI : Inv U w Pr bs γ) {id g k len : Nat} {e : TypeId} {rows : List (List AV)} (hid : bs[id]? = some (.lst 0 g e k rows)) {gh : Ghost} (hg : γ[id]? = some gh) {u : Value} (hM : MutIs gh.v k 0 len u) (hl : len ≤ rows.length) :
    Inv U w Pr (bs.set id (.lst 0 (g + 1) e k (rows.take len))) (γ.set id ⟨0, u⟩) ∧ Keeps bs γ (bs.set id (.lst 0 (g + 1) e k (rows.take len))) (γ.set id ⟨0, u⟩) := by
  obtain ⟨gh', us, hg', hk, hrk, hd, hV, hR, hone⟩ := hI.lst id 0 g e k rows hid
  rw [hg] at hg'; cases hg'
  obtain ⟨base, n0, cap, hgv, ⟨_, rfl, hlc, hbs⟩ | ⟨h0, _⟩⟩ := hM
  case inr => exact absurd h0 (Nat.lt_irrefl 0)
  have hlt : (rows.take len).length = len := by rw [List.length_take]; omega
  have hul := hV.1
  refine hI.growLst hid hg (rows.take len) _ (us.take (len * k)) (Evo.refl U ([] : List Nat) w Pr) (fun _ _ _ => rfl) (fun b hb => .inl ?_) (fun r hr => hrk r (List.mem_of_mem_take hr)) ?_ ?_ ?_ (fun x hx => hone x (List.mem_of_mem_take hx))
  · rw [hgv]
    cases base with
    | none => cases hb
    | some a => cases cap with
      | zero => cases hb
      | succ c => exact hb
  · rw [flatten_take _ hrk]; exact dataL_take hd _
  · rw [hlt]
    refine ⟨by rw [List.length_take, hul]; exact Nat.min_eq_left (Nat.mul_le_mul_right _ hl), ?_⟩
    rcases hV.2 with ⟨hn0, a, hv⟩ | ⟨gb, c, cur, hv, hh, hn, hcm, hcs, htk⟩
    · rw [hgv] at hv
      simp only [Value.slice.injEq] at hv
      obtain ⟨rfl, rfl, rfl⟩ := hv
      exact .inl ⟨by omega, _, by rw [show len = 0 by omega]⟩
    · rw [hgv] at hv
      simp only [Value.slice.injEq] at hv
      obtain ⟨rfl, rfl, rfl⟩ := hv
      exact .inr ⟨gb, c, cur, rfl, hh, hlc, hcm, hcs, by rw [← htk, List.take_take, Nat.min_eq_left (Nat.mul_le_mul_right _ hl)]⟩
  · rw [flatten_take _ hrk]; exact hR.take _
def pInsertT (e k bytes : Nat) : List AV → List Blk → Option (AV × List Blk)
  | .lis id g off len :: l, bs => match bs[id]? with
    | some (.lst 0 g' e' k' rows) => if off = 0 ∧ g' = g ∧ len ≤ rows.length then pInsert e k bytes (.lis id (g + 1) 0 len :: l) (bs.set id (.lst 0 (g + 1) e' k' (rows.take len))) else none
    | _ => none
  | _, _ => none
theorem pInsertT_ok {f : FuncId} {e k bytes : Nat} (h0 : PrimOk P G f (pInsert e k bytes)) : PrimOk P G f (pInsertT e k bytes) := by
  intro args bs r bs' h U w Pr γ vs hI hG hA
  unfold pInsertT at h
  split at h
  case h_2 => cases h
  rename_i id g off len l
  split at h
  case h_2 => cases h
  rename_i g' e' k' rows hid
  split at h
  case isFalse => cases h
  rename_i hc
  obtain ⟨rfl, rfl, hl⟩ := hc
  obtain ⟨v0, vs1, rfl, r0, hA⟩ := hA.cons_inv
  obtain ⟨gh, us, hg, _⟩ := hI.lst id 0 g' e' k' rows hid
  have hM : MutIs gh.v k' 0 len v0 := by
    cases r0 with
    | lisOld id gen off len lk g2 e k rows u h3 h4 ho => rw [hid] at h3; cases h3; omega
    | lis id off len lk g2 e k rows gh2 u h3 h4 h5 h6 => rw [hid] at h3; cases h3; rw [hg] at h4; cases h4; exact h6
  obtain ⟨h1, h2⟩ := hI.trim hid hg hM hl
  have hidl := (List.getElem?_eq_some_iff.1 hid).1
  have hγl : id < γ.length := (List.getElem?_eq_some_iff.1 hg).1
  have hlt : (rows.take len).length = len := by rw [List.length_take]; omega
  have hM' : MutIs v0 k' 0 len v0 := by
    obtain ⟨base, n0, cap, hgv, ⟨_, rfl, hlc, hbs⟩ | ⟨h0, _⟩⟩ := hM
    · exact ⟨base, len, cap, rfl, .inl ⟨rfl, rfl, hlc, hbs⟩⟩
    · exact absurd h0 (Nat.lt_irrefl 0)
  have hA' : RepL w Pr (bs.set id (.lst 0 (g' + 1) e' k' (rows.take len))) (γ.set id ⟨0, v0⟩) (.lis id (g' + 1) 0 len :: l) (v0 :: vs1) :=
    RepL.cons (.lis id 0 len 0 (g' + 1) e' k' (rows.take len) ⟨0, v0⟩ v0 (List.getElem?_set_self hidl) (List.getElem?_set_self hγl) (by omega) hM') (hA.mono (Stays.refl _ _) h2)
  refine (h0 _ _ _ _ h U w Pr _ _ h1 hG hA').mono ?_
  rintro v w' ⟨Pr', γ', q1, q2, q3, q4⟩
  exact ⟨Pr', γ', q1, h2.trans q2, q3, q4⟩
end Go.Proofs.YtgajekpigkknnaaDoor.A

/- Functions in the evaluator's form, 1. No condition. -/
namespace Go.Proofs.YtgajekpigkknnaaDoor.F
open Go Go.Proofs.YtgajekpigkknnaaDoor.A
def G : Nat → Option (List AV)
  | 0 => some [.int .i64 0, .int .i64 0, .int .i64 0, .int .i64 0, .int .i64 32, .int .i64 0, .int .i64 128]
  | _ => none
/-- junctionbox/junctionboxlaw32.PlanNeeds -/
def f5 : AFunc :=
⟨2, [.t 4], (.seq (.region 2 [⟨some 2, .box 46 1 (.t 0) [], none, 0⟩, ⟨some 3, .box 46 1 (.t 1) [], none, 1⟩, ⟨some 4, .mv (.c (.bool false)), none, 0⟩] false []) (.seq (.seq (.region 0 [⟨some 13, .callV 9 [] 0, none, 0⟩, ⟨some 14, .not (.t 13), none, 0⟩] false []) (.cond (.t 14) (.seq (.region 0 [⟨some 4, .mv (.c (.bool false)), none, 0⟩] false []) .ret) .skip)) (.seq (.region 2 [⟨some 15, .load 1 true (.t 2), none, 0⟩, ⟨some 16, .callV 15 [.t 15] 0, none, 0⟩, ⟨some 17, .load 1 true (.t 3), none, 0⟩, ⟨some 18, .callV 15 [.t 17] 0, none, 0⟩, ⟨some 5, .alloc 46 [.clip []] [], none, 0⟩, ⟨some 6, .alloc 46 [.clip []] [], none, 1⟩, ⟨none, .store 1 (.t 5) (.t 16), none, 0⟩, ⟨none, .store 1 (.t 6) (.t 18), none, 0⟩] true [(.t 2, .c .undef, 0), (.t 15, .c .undef, 0), (.t 3, .c .undef, 0), (.t 17, .c .undef, 0), (.t 2, .c .undef, 1), (.t 15, .c .undef, 1), (.t 3, .c .undef, 1), (.t 17, .c .undef, 1)]) (.seq (.region 0 [⟨some 20, .load 1 true (.t 5), none, 0⟩, ⟨some 21, .load 1 true (.t 6), none, 0⟩, ⟨some 22, .callV 20 [.t 20, .t 21] 0, none, 0⟩, ⟨some 19, .mv (.t 22), none, 0⟩, ⟨some 23, .extr (.t 19) 0, none, 0⟩, ⟨some 24, .extr (.t 19) 1, none, 0⟩, ⟨some 7, .mv (.t 23), none, 0⟩, ⟨some 8, .mv (.t 24), none, 0⟩] false []) (.seq (.seq (.region 0 [⟨some 25, .mv (.t 8), none, 0⟩, ⟨some 26, .bin .neq (.t 25) (.c (.int .i64 0)), none, 0⟩] false []) (.cond (.t 26) (.seq (.region 0 [⟨some 4, .mv (.c (.bool true)), none, 0⟩] false []) .ret) .skip)) (.seq (.seq (.region 0 [⟨some 27, .mv (.t 7), none, 0⟩, ⟨some 28, .len (.t 27), none, 0⟩, ⟨some 29, .mv (.c (.int .i64 0)), none, 0⟩] false []) (.block 0 (.loop [5, 6, 7, 28, 29] (.seq (.region 0 [⟨some 30, .bin .lss (.t 29) (.t 28), none, 0⟩] false []) (.seq (.cond (.t 30) .skip (.exit 0)) (.seq (.block 1 (.seq (.region 0 [⟨some 31, .mv (.t 29), none, 0⟩, ⟨some 9, .mv (.t 31), none, 0⟩] false []) (.seq (.seq (.region 0 [⟨some 32, .mv (.t 9), none, 0⟩, ⟨some 33, .bin .eql (.t 32) (.c (.int .i64 24)), none, 0⟩] false []) (.cond (.t 33) (.exit 0) .skip)) (.seq (.region 2 [⟨some 35, .load 1 true (.t 5), none, 0⟩, ⟨some 36, .mv (.t 7), none, 0⟩, ⟨some 37, .callV 22 [.t 36] 2, none, 0⟩, ⟨some 38, .mv (.t 9), none, 0⟩, ⟨some 39, .mv (.t 9), none, 0⟩, ⟨some 40, .bin .add (.t 39) (.c (.int .i64 1)), none, 0⟩, ⟨some 41, .callR (.c (.clo 21 [])) [.t 37, .t 38, .t 40] 4, none, 0⟩, ⟨some 42, .callV 16 [.t 35, .t 41] 0, none, 0⟩, ⟨some 34, .mv (.t 42), none, 0⟩, ⟨some 43, .extr (.t 34) 0, none, 0⟩, ⟨some 44, .extr (.t 34) 1, none, 0⟩, ⟨some 45, .extr (.t 34) 2, none, 0⟩, ⟨some 10, .alloc 46 [.clip []] [], none, 1⟩, ⟨none, .store 1 (.t 10) (.t 43), none, 0⟩, ⟨some 11, .mv (.t 44), none, 0⟩, ⟨some 12, .mv (.t 45), none, 0⟩] true [(.t 5, .c .undef, 0), (.t 5, .t 37, 0), (.t 5, .c .undef, 1), (.t 37, .c .undef, 1), (.t 35, .c .undef, 1), (.t 41, .c .undef, 1)]) (.seq (.region 0 [⟨some 46, .mv (.t 12), none, 0⟩, ⟨some 47, .bin .eql (.t 46) (.c (.int .i64 0)), none, 0⟩, ⟨some 48, .mv (.t 47), none, 0⟩, ⟨some 49, .load 1 true (.t 10), some (48, true), 0⟩, ⟨some 50, .load 1 true (.t 6), some (48, true), 0⟩, ⟨some 51, .callV 23 [.t 49, .t 50] 0, some (48, true), 0⟩, ⟨some 52, .pick (.t 48) (.t 51) (.c (.bool false)), none, 0⟩] false []) (.cond (.t 52) (.seq (.region 0 [⟨some 4, .mv (.c (.bool false)), none, 0⟩] false []) .ret) .skip)))))) (.region 0 [⟨some 53, .bin .add (.t 29) (.c (.int .i64 1)), none, 0⟩, ⟨some 29, .mv (.t 53), none, 0⟩] false []))))))) (.seq (.region 0 [⟨some 4, .mv (.c (.bool true)), none, 0⟩] false []) .ret))))))), false⟩
theorem c5 : cFunc Tryd.prog G f5 Tryd.f5 = some f5 := by kernel_rfl
/-- junctionbox/junctionboxlaw32.wakes -/
def f9 : AFunc :=
⟨0, [.t 0], (.seq (.region 0 [⟨some 0, .mv (.c (.bool false)), none, 0⟩] false []) (.seq (.region 6 [⟨some 11, .callV 33 [] 1, none, 0⟩, ⟨some 10, .mv (.t 11), none, 0⟩, ⟨some 12, .extr (.t 10) 0, none, 0⟩, ⟨some 13, .extr (.t 10) 1, none, 0⟩, ⟨some 1, .alloc 46 [.clip []] [(0, 53, 21)], none, 2⟩, ⟨some 2, .alloc 46 [.clip []] [(0, 53, 21)], none, 4⟩, ⟨none, .store 1 (.t 1) (.t 12), none, 0⟩, ⟨none, .store 1 (.t 2) (.t 13), none, 0⟩] false []) (.seq (.region 1 [⟨some 15, .load 1 true (.t 1), none, 0⟩, ⟨some 16, .load 1 true (.t 2), none, 0⟩, ⟨some 17, .callV 20 [.t 15, .t 16] 1, none, 0⟩, ⟨some 14, .mv (.t 17), none, 0⟩, ⟨some 18, .extr (.t 14) 0, none, 0⟩, ⟨some 19, .extr (.t 14) 1, none, 0⟩, ⟨some 3, .mv (.t 18), none, 0⟩, ⟨some 4, .mv (.t 19), none, 0⟩] false []) (.seq (.region 3 [⟨some 21, .load 1 true (.t 1), none, 0⟩, ⟨some 22, .mv (.t 3), none, 0⟩, ⟨some 23, .callV 16 [.t 21, .t 22] 1, none, 0⟩, ⟨some 20, .mv (.t 23), none, 0⟩, ⟨some 24, .extr (.t 20) 0, none, 0⟩, ⟨some 25, .extr (.t 20) 1, none, 0⟩, ⟨some 26, .extr (.t 20) 2, none, 0⟩, ⟨some 5, .alloc 46 [.clip []] [(0, 53, 21)], none, 1⟩, ⟨none, .store 1 (.t 5) (.t 24), none, 0⟩, ⟨some 6, .mv (.t 25), none, 0⟩, ⟨some 7, .mv (.t 26), none, 0⟩] false []) (.seq (.region 3 [⟨some 28, .load 1 true (.t 1), none, 0⟩, ⟨some 29, .load 1 true (.t 2), none, 0⟩, ⟨some 30, .callV 24 [.t 28, .t 29, .c (.int .i64 1)] 1, none, 0⟩, ⟨some 27, .mv (.t 30), none, 0⟩, ⟨some 31, .extr (.t 27) 0, none, 0⟩, ⟨some 32, .extr (.t 27) 1, none, 0⟩, ⟨some 8, .alloc 46 [.clip []] [(0, 53, 21)], none, 1⟩, ⟨none, .store 1 (.t 8) (.t 31), none, 0⟩, ⟨some 9, .mv (.t 32), none, 0⟩] false []) (.seq (.region 0 [⟨some 33, .mv (.t 4), none, 0⟩, ⟨some 34, .bin .eql (.t 33) (.c (.int .i64 0)), none, 0⟩, ⟨some 35, .mv (.t 34), none, 0⟩, ⟨some 36, .mv (.t 7), some (35, true), 0⟩, ⟨some 37, .bin .eql (.t 36) (.c (.int .i64 0)), some (35, true), 0⟩, ⟨some 38, .pick (.t 35) (.t 37) (.c (.bool false)), none, 0⟩, ⟨some 39, .mv (.t 38), none, 0⟩, ⟨some 40, .mv (.t 9), some (39, true), 0⟩, ⟨some 41, .bin .eql (.t 40) (.c (.int .i64 0)), some (39, true), 0⟩, ⟨some 42, .pick (.t 39) (.t 41) (.c (.bool false)), none, 0⟩, ⟨some 43, .mv (.t 42), none, 0⟩, ⟨some 44, .mv (.t 3), some (43, true), 0⟩, ⟨some 45, .len (.t 44), some (43, true), 0⟩, ⟨some 46, .bin .eql (.t 45) (.c (.int .i64 3)), some (43, true), 0⟩, ⟨some 47, .pick (.t 43) (.t 46) (.c (.bool false)), none, 0⟩, ⟨some 48, .mv (.t 47), none, 0⟩, ⟨some 49, .mv (.t 3), some (48, true), 0⟩, ⟨some 50, .iaddr 22 none (.t 49) (.c (.int .i64 0)), some (48, true), 0⟩, ⟨some 51, .faddr 19 (.t 50), some (48, true), 0⟩, ⟨some 52, .load 1 false (.t 51), some (48, true), 0⟩, ⟨some 53, .pick (.t 48) (.t 52) (.c (.bool false)), none, 0⟩, ⟨some 54, .mv (.t 53), none, 0⟩, ⟨some 55, .mv (.t 6), some (54, true), 0⟩, ⟨some 56, .bin .eql (.t 55) (.c (.int .i64 1)), some (54, true), 0⟩, ⟨some 57, .pick (.t 54) (.t 56) (.c (.bool false)), none, 0⟩, ⟨some 58, .mv (.t 57), none, 0⟩, ⟨some 59, .load 1 true (.t 5), some (58, true), 0⟩, ⟨some 60, .load 1 true (.t 2), some (58, true), 0⟩, ⟨some 61, .callV 19 [.t 59, .t 60] 0, some (58, true), 0⟩, ⟨some 62, .pick (.t 58) (.t 61) (.c (.bool false)), none, 0⟩, ⟨some 63, .mv (.t 62), none, 0⟩, ⟨some 64, .faddr 0 (.t 8), some (63, true), 0⟩, ⟨some 65, .load 1 false (.t 64), some (63, true), 0⟩, ⟨some 66, .len (.t 65), some (63, true), 0⟩, ⟨some 67, .bin .eql (.t 66) (.c (.int .i64 1)), some (63, true), 0⟩, ⟨some 68, .pick (.t 63) (.t 67) (.c (.bool false)), none, 0⟩, ⟨some 0, .mv (.t 68), none, 0⟩] false []) .ret)))))), false⟩
theorem c9 : cFunc Tryd.prog G f9 Tryd.f9 = some f9 := by kernel_rfl
/-- junctionbox/plan.Cut -/
def f11 : AFunc :=
⟨1, [.t 2, .t 3], (.seq (.region 1 [⟨some 2, .newl 35 1, none, 0⟩, ⟨some 3, .mv (.c (.int .i64 0)), none, 0⟩] false []) (.seq (.region 1 [⟨some 4, .newl 35 1, none, 0⟩] false []) (.seq (.region 0 [⟨some 5, .mv (.c (.int .i64 0)), none, 0⟩] false []) (.seq (.seq (.region 0 [⟨some 8, .mv (.t 0), none, 0⟩, ⟨some 9, .len (.t 8), none, 0⟩, ⟨some 10, .mv (.c (.int .i64 0)), none, 0⟩] false []) (.block 0 (.loop [0, 4, 5, 8, 9, 10] (.seq (.region 0 [⟨some 11, .bin .lss (.t 10) (.t 9), none, 0⟩] false []) (.seq (.cond (.t 11) .skip (.exit 0)) (.seq (.block 1 (.seq (.region 1 [⟨some 12, .mv (.t 10), none, 0⟩, ⟨some 13, .iaddr 22 none (.t 8) (.t 10), none, 0⟩, ⟨some 14, .load 22 true (.t 13), none, 0⟩, ⟨some 7, .alloc 42 [.int .i64 0, .int .u8 0, .int .u8 0, .int .u8 0, .int .u8 0, .int .u8 0, .int .u8 0, .int .u8 0, .int .u8 0, .int .u8 0, .int .u8 0, .int .u8 0, .int .u8 0, .int .u8 0, .int .u8 0, .int .u8 0, .int .u8 0, .int .i64 0, .int .i64 0, .bool false, .int .i64 0, .int .i64 0] [], none, 0⟩, ⟨some 6, .mv (.t 12), none, 0⟩, ⟨none, .store 22 (.t 7) (.t 14), none, 0⟩] false []) (.seq (.seq (.region 1 [⟨some 15, .load 22 true (.t 7), none, 0⟩, ⟨some 16, .buildSl 42 22 [.int .i64 0, .int .u8 0, .int .u8 0, .int .u8 0, .int .u8 0, .int .u8 0, .int .u8 0, .int .u8 0, .int .u8 0, .int .u8 0, .int .u8 0, .int .u8 0, .int .u8 0, .int .u8 0, .int .u8 0, .int .u8 0, .int .u8 0, .int .i64 0, .int .i64 0, .bool false, .int .i64 0, .int .i64 0] 1 [(0, .t 15)] false, none, 0⟩, ⟨some 17, .callV 34 [.t 16] 0, none, 0⟩, ⟨some 18, .not (.t 17), none, 0⟩] false []) (.cond (.t 18) (.seq (.region 1 [⟨some 2, .newl 35 1, none, 0⟩, ⟨some 3, .mv (.c (.int .i64 210)), none, 0⟩] false []) .ret) .skip)) (.seq (.region 0 [⟨some 19, .mv (.t 6), none, 0⟩, ⟨some 20, .mv (.t 5), none, 0⟩, ⟨some 21, .bin .gtr (.t 19) (.t 20), none, 0⟩, ⟨some 22, .mv (.t 21), none, 0⟩, ⟨some 23, .mv (.t 0), some (22, true), 0⟩, ⟨some 24, .mv (.t 5), some (22, true), 0⟩, ⟨some 25, .mv (.t 6), some (22, true), 0⟩, ⟨some 26, .bin .add (.t 25) (.c (.int .i64 1)), some (22, true), 0⟩, ⟨some 27, .slice 22 (.t 23) (some (.t 24)) (some (.t 26)) none, some (22, true), 0⟩, ⟨some 28, .callV 34 [.t 27] 0, some (22, true), 0⟩, ⟨some 29, .not (.t 28), some (22, true), 0⟩, ⟨some 30, .pick (.t 22) (.t 29) (.c (.bool false)), none, 0⟩] false []) (.cond (.t 30) (.seq (.region 3 [⟨some 31, .mv (.t 4), none, 0⟩, ⟨some 32, .mv (.t 0), none, 0⟩, ⟨some 33, .mv (.t 5), none, 0⟩, ⟨some 34, .mv (.t 6), none, 0⟩, ⟨some 35, .slice 22 (.t 32) (some (.t 33)) (some (.t 34)) none, none, 0⟩, ⟨some 36, .callV 22 [.t 35] 1, none, 0⟩, ⟨some 37, .build [.clip []] [(0, 1, .t 36)] [], none, 0⟩, ⟨some 38, .buildSl 35 1 [.clip []] 1 [(0, .t 37)] false, none, 1⟩, ⟨some 39, .append 35 1 24 (.t 31) (.t 38), none, 2⟩, ⟨some 4, .mv (.t 39), none, 0⟩] false []) (.region 0 [⟨some 40, .mv (.t 6), none, 0⟩, ⟨some 5, .mv (.t 40), none, 0⟩] false [])) .skip))))) (.region 0 [⟨some 41, .bin .add (.t 10) (.c (.int .i64 1)), none, 0⟩, ⟨some 10, .mv (.t 41), none, 0⟩] false []))))))) (.seq (.seq (.region 0 [⟨some 42, .mv (.t 5), none, 0⟩, ⟨some 43, .mv (.t 0), none, 0⟩, ⟨some 44, .len (.t 43), none, 0⟩, ⟨some 45, .bin .lss (.t 42) (.t 44), none, 0⟩] false []) (.cond (.t 45) (.region 3 [⟨some 46, .mv (.t 4), none, 0⟩, ⟨some 47, .mv (.t 0), none, 0⟩, ⟨some 48, .mv (.t 5), none, 0⟩, ⟨some 49, .slice 22 (.t 47) (some (.t 48)) none none, none, 0⟩, ⟨some 50, .callV 22 [.t 49] 1, none, 0⟩, ⟨some 51, .build [.clip []] [(0, 1, .t 50)] [], none, 0⟩, ⟨some 52, .buildSl 35 1 [.clip []] 1 [(0, .t 51)] false, none, 1⟩, ⟨some 53, .append 35 1 24 (.t 46) (.t 52), none, 2⟩, ⟨some 4, .mv (.t 53), none, 0⟩] false []) .skip)) (.seq (.region 0 [⟨some 54, .mv (.t 4), none, 0⟩, ⟨some 2, .mv (.t 54), none, 0⟩, ⟨some 3, .mv (.c (.int .i64 0)), none, 0⟩] false []) .ret)))))), true⟩
theorem c11 : cFunc Tryd.prog G f11 Tryd.f11 = some f11 := by kernel_rfl
/-- junctionbox/junctionboxlaw32.rib -/
def f15 : AFunc :=
⟨1, [.cell 2 1 true], (.seq (.region 3 [⟨some 1, .box 46 1 (.t 0) [], none, 0⟩, ⟨some 2, .alloc 46 [.clip []] [(0, 53, 21)], none, 1⟩] false []) (.seq (.region 2 [⟨some 3, .buildSl 53 21 [.int .i64 0, .int .u8 0, .int .u8 0, .int .u8 0, .int .u8 0, .int .u8 0, .int .u8 0, .int .u8 0, .int .u8 0, .int .u8 0, .int .u8 0, .int .u8 0, .int .u8 0, .int .u8 0, .int .u8 0, .int .u8 0, .int .u8 0, .int .i64 0, .int .i64 0, .int .i64 0, .int .i64 0] 0 [] false, none, 0⟩, ⟨some 4, .faddr 0 (.t 1), none, 0⟩, ⟨some 5, .load 1 false (.t 4), none, 0⟩, ⟨some 6, .faddr 0 (.t 1), none, 0⟩, ⟨some 7, .load 1 false (.t 6), none, 0⟩, ⟨some 8, .len (.t 7), none, 0⟩, ⟨some 9, .min (.t 8) [.c (.int .i64 161)], none, 0⟩, ⟨some 10, .slice 21 (.t 5) none (some (.t 9)) none, none, 0⟩, ⟨some 11, .append 53 21 56 (.t 3) (.t 10), none, 1⟩, ⟨some 12, .build [.clip []] [(0, 1, .t 11)] [], none, 0⟩, ⟨none, .store 1 (.t 2) (.t 12), none, 0⟩] false []) .ret)), true⟩
theorem c15 : cFunc Tryd.prog G f15 Tryd.f15 = some f15 := by kernel_rfl
/-- junctionbox/plan.Do -/
def f16 : AFunc :=
⟨2, [.cell 4 1 true, .t 5, .t 6], (.seq (.region 3 [⟨some 2, .box 46 1 (.t 0) [], none, 0⟩, ⟨some 4, .alloc 46 [.clip []] [(0, 53, 21)], none, 1⟩, ⟨some 5, .mv (.c (.int .i64 0)), none, 0⟩, ⟨some 6, .mv (.c (.int .i64 0)), none, 0⟩] false []) (.seq (.seq (.region 0 [⟨some 14, .load 1 true (.t 2), none, 0⟩, ⟨some 15, .callV 30 [.t 14] 0, none, 0⟩, ⟨some 7, .mv (.t 15), none, 0⟩] false []) (.seq (.region 0 [⟨some 16, .mv (.t 7), none, 0⟩, ⟨some 17, .bin .neq (.t 16) (.c (.int .i64 0)), none, 0⟩] false []) (.cond (.t 17) (.seq (.region 1 [⟨some 18, .build [.clip []] [] [(0, 53, 21)], none, 0⟩, ⟨some 19, .mv (.t 7), none, 0⟩, ⟨none, .store 1 (.t 4) (.t 18), none, 0⟩, ⟨some 5, .mv (.c (.int .i64 0)), none, 0⟩, ⟨some 6, .mv (.t 19), none, 0⟩] false []) .ret) .skip))) (.seq (.region 1 [⟨some 20, .faddr 0 (.t 2), none, 0⟩, ⟨some 21, .load 1 false (.t 20), none, 0⟩, ⟨some 22, .callV 36 [.t 21] 1, none, 0⟩, ⟨some 23, .faddr 0 (.t 2), none, 0⟩, ⟨none, .store 1 (.t 23) (.t 22), none, 0⟩] false []) (.seq (.region 1 [⟨some 25, .mv (.t 1), none, 0⟩, ⟨some 26, .callV 11 [.t 25] 1, none, 0⟩, ⟨some 24, .mv (.t 26), none, 0⟩, ⟨some 27, .extr (.t 24) 0, none, 0⟩, ⟨some 28, .extr (.t 24) 1, none, 0⟩, ⟨some 8, .mv (.t 27), none, 0⟩, ⟨some 9, .mv (.t 28), none, 0⟩] false []) (.seq (.seq (.region 0 [⟨some 29, .mv (.t 9), none, 0⟩, ⟨some 30, .bin .neq (.t 29) (.c (.int .i64 0)), none, 0⟩] false []) (.cond (.t 30) (.seq (.region 0 [⟨some 31, .load 1 true (.t 2), none, 0⟩, ⟨some 32, .mv (.t 9), none, 0⟩, ⟨none, .store 1 (.t 4) (.t 31), none, 0⟩, ⟨some 5, .mv (.c (.int .i64 0)), none, 0⟩, ⟨some 6, .mv (.t 32), none, 0⟩] false []) .ret) .skip)) (.seq (.seq (.region 0 [⟨some 33, .mv (.t 8), none, 0⟩, ⟨some 34, .len (.t 33), none, 0⟩, ⟨some 35, .mv (.c (.int .i64 0)), none, 0⟩] false []) (.block 0 (.loop [2, 4, 8, 33, 34, 35] (.seq (.region 0 [⟨some 36, .bin .lss (.t 35) (.t 34), none, 0⟩] false []) (.seq (.cond (.t 36) .skip (.exit 0)) (.seq (.block 1 (.seq (.region 2 [⟨some 37, .mv (.t 35), none, 0⟩, ⟨some 38, .iaddr 1 none (.t 33) (.t 35), none, 0⟩, ⟨some 39, .load 1 true (.t 38), none, 0⟩, ⟨some 11, .alloc 35 [.clip []] [(0, 42, 22)], none, 0⟩, ⟨some 10, .mv (.t 37), none, 0⟩, ⟨none, .store 1 (.t 11) (.t 39), none, 0⟩] false []) (.seq (.region 3 [⟨some 41, .load 1 true (.t 2), none, 0⟩, ⟨some 42, .load 1 true (.t 11), none, 0⟩, ⟨some 43, .callV 31 [.t 41, .t 42] 1, none, 0⟩, ⟨some 40, .mv (.t 43), none, 0⟩, ⟨some 44, .extr (.t 40) 0, none, 0⟩, ⟨some 45, .extr (.t 40) 1, none, 0⟩, ⟨some 12, .alloc 46 [.clip []] [(0, 53, 21)], none, 1⟩, ⟨none, .store 1 (.t 12) (.t 44), none, 0⟩, ⟨some 13, .mv (.t 45), none, 0⟩] false []) (.seq (.seq (.region 0 [⟨some 46, .mv (.t 13), none, 0⟩, ⟨some 47, .bin .neq (.t 46) (.c (.int .i64 0)), none, 0⟩] false []) (.cond (.t 47) (.seq (.region 0 [⟨some 48, .load 1 true (.t 2), none, 0⟩, ⟨some 49, .mv (.t 10), none, 0⟩, ⟨some 50, .mv (.t 13), none, 0⟩, ⟨none, .store 1 (.t 4) (.t 48), none, 0⟩, ⟨some 5, .mv (.t 49), none, 0⟩, ⟨some 6, .mv (.t 50), none, 0⟩] false []) .ret) .skip)) (.region 0 [⟨some 51, .load 1 true (.t 12), none, 0⟩, ⟨none, .store 1 (.t 2) (.t 51), none, 0⟩] false []))))) (.region 0 [⟨some 52, .bin .add (.t 35) (.c (.int .i64 1)), none, 0⟩, ⟨some 35, .mv (.t 52), none, 0⟩] false []))))))) (.seq (.region 0 [⟨some 53, .load 1 true (.t 2), none, 0⟩, ⟨some 54, .mv (.t 8), none, 0⟩, ⟨some 55, .len (.t 54), none, 0⟩, ⟨none, .store 1 (.t 4) (.t 53), none, 0⟩, ⟨some 5, .mv (.t 55), none, 0⟩, ⟨some 6, .mv (.c (.int .i64 0)), none, 0⟩] false []) .ret))))))), true⟩
theorem c16 : cFunc Tryd.prog G f16 Tryd.f16 = some f16 := by kernel_rfl
/-- junctionbox/junctionboxref11.Same -/
def f19 : AFunc :=
⟨2, [.t 4], (.seq (.region 2 [⟨some 2, .box 46 1 (.t 0) [], none, 0⟩, ⟨some 3, .box 46 1 (.t 1) [], none, 1⟩, ⟨some 4, .mv (.c (.bool false)), none, 0⟩] false []) (.seq (.seq (.region 0 [⟨some 6, .faddr 0 (.t 2), none, 0⟩, ⟨some 7, .load 1 false (.t 6), none, 0⟩, ⟨some 8, .len (.t 7), none, 0⟩, ⟨some 9, .faddr 0 (.t 3), none, 0⟩, ⟨some 10, .load 1 false (.t 9), none, 0⟩, ⟨some 11, .len (.t 10), none, 0⟩, ⟨some 12, .bin .neq (.t 8) (.t 11), none, 0⟩] false []) (.cond (.t 12) (.seq (.region 0 [⟨some 4, .mv (.c (.bool false)), none, 0⟩] false []) .ret) .skip)) (.seq (.seq (.region 0 [⟨some 5, .mv (.c (.int .i64 0)), none, 0⟩] false []) (.block 0 (.loop [2, 3, 5] (.seq (.seq (.region 0 [⟨some 13, .mv (.t 5), none, 0⟩, ⟨some 14, .faddr 0 (.t 2), none, 0⟩, ⟨some 15, .load 1 false (.t 14), none, 0⟩, ⟨some 16, .len (.t 15), none, 0⟩, ⟨some 17, .bin .lss (.t 13) (.t 16), none, 0⟩] false []) (.cond (.t 17) .skip (.exit 0))) (.seq (.block 1 (.seq (.region 0 [⟨some 20, .faddr 0 (.t 2), none, 0⟩, ⟨some 21, .load 1 false (.t 20), none, 0⟩, ⟨some 22, .mv (.t 5), none, 0⟩, ⟨some 23, .iaddr 21 none (.t 21) (.t 22), none, 0⟩, ⟨some 24, .load 21 true (.t 23), none, 0⟩, ⟨some 25, .faddr 0 (.t 3), none, 0⟩, ⟨some 26, .load 1 false (.t 25), none, 0⟩, ⟨some 27, .mv (.t 5), none, 0⟩, ⟨some 28, .iaddr 21 none (.t 26) (.t 27), none, 0⟩, ⟨some 29, .load 21 true (.t 28), none, 0⟩, ⟨some 30, .eqagg true [1, 1, 1, 1, 1, 1, 1, 1, 1, 1, 1, 1, 1, 1, 1, 1, 1, 1, 1, 1, 1] (.t 24) (.t 29), none, 0⟩] true []) (.cond (.t 30) (.seq (.region 0 [⟨some 4, .mv (.c (.bool false)), none, 0⟩] false []) .ret) .skip))) (.region 0 [⟨some 18, .mv (.t 5), none, 0⟩, ⟨some 19, .bin .add (.t 18) (.c (.int .i64 1)), none, 0⟩, ⟨some 5, .mv (.t 19), none, 0⟩] false [])))))) (.seq (.region 0 [⟨some 4, .mv (.c (.bool true)), none, 0⟩] false []) .ret)))), false⟩
theorem c19 : cFunc Tryd.prog G f19 Tryd.f19 = some f19 := by kernel_rfl
/-- junctionbox/plan.All -/
def f20 : AFunc :=
⟨2, [.t 4, .t 5], (.seq (.region 3 [⟨some 2, .box 46 1 (.t 0) [], none, 0⟩, ⟨some 3, .box 46 1 (.t 1) [], none, 1⟩, ⟨some 4, .newl 42 22, none, 2⟩, ⟨some 5, .mv (.c (.int .i64 0)), none, 0⟩] false []) (.seq (.seq (.region 0 [⟨some 7, .load 1 true (.t 2), none, 0⟩, ⟨some 8, .load 1 true (.t 3), none, 0⟩, ⟨some 9, .callV 41 [.t 7, .t 8, .c (.int .i64 0), .c (.int .i64 0)] 0, none, 0⟩, ⟨some 6, .mv (.t 9), none, 0⟩] false []) (.seq (.region 0 [⟨some 10, .mv (.t 6), none, 0⟩, ⟨some 11, .bin .neq (.t 10) (.c (.int .i64 0)), none, 0⟩] false []) (.cond (.t 11) (.seq (.region 1 [⟨some 12, .mv (.t 6), none, 0⟩, ⟨some 4, .newl 42 22, none, 0⟩, ⟨some 5, .mv (.t 12), none, 0⟩] false []) .ret) .skip))) (.seq (.region 1 [⟨some 13, .load 1 true (.t 2), none, 0⟩, ⟨some 14, .load 1 true (.t 3), none, 0⟩, ⟨some 15, .callV 42 [.t 13, .t 14, .c (.int .i64 0)] 1, none, 0⟩, ⟨some 4, .mv (.t 15), none, 0⟩, ⟨some 5, .mv (.c (.int .i64 0)), none, 0⟩] false []) .ret))), true⟩
theorem c20 : cFunc Tryd.prog G f20 Tryd.f20 = some f20 := by kernel_rfl
/-- slices.Delete[[]junctionbox/api.Update,junctionbox/api.Update] -/
def f21 : AFunc :=
⟨3, [.t 6], (.seq (.region 1 [⟨some 6, .newl 42 22, none, 0⟩] false []) (.seq (.region 0 [⟨some 8, .mv (.t 0), none, 0⟩, ⟨some 9, .mv (.t 1), none, 0⟩, ⟨some 10, .mv (.t 2), none, 0⟩, ⟨some 11, .mv (.t 0), none, 0⟩, ⟨some 12, .len (.t 11), none, 0⟩, ⟨some 13, .sliceL 1 22 (.t 8) (some (.t 9)) (some (.t 10)) (some (.t 12)), none, 0⟩] false []) (.seq (.seq (.region 0 [⟨some 14, .mv (.t 1), none, 0⟩, ⟨some 15, .mv (.t 2), none, 0⟩, ⟨some 16, .bin .eql (.t 14) (.t 15), none, 0⟩] false []) (.cond (.t 16) (.seq (.region 0 [⟨some 17, .mv (.t 0), none, 0⟩, ⟨some 6, .mv (.t 17), none, 0⟩] false []) .ret) .skip)) (.seq (.region 0 [⟨some 18, .mv (.t 0), none, 0⟩, ⟨some 19, .len (.t 18), none, 0⟩, ⟨some 7, .mv (.t 19), none, 0⟩] false []) (.seq (.region 0 [⟨some 20, .mv (.t 0), none, 0⟩, ⟨some 21, .mv (.t 1), none, 0⟩, ⟨some 22, .slice 22 (.t 20) none (some (.t 21)) none, none, 0⟩, ⟨some 23, .mv (.t 0), none, 0⟩, ⟨some 24, .mv (.t 2), none, 0⟩, ⟨some 25, .slice 22 (.t 23) (some (.t 24)) none none, none, 0⟩, ⟨some 26, .appIn 42 22 (.t 22) (.t 25), none, 0⟩, ⟨some 0, .mv (.t 26), none, 0⟩] true []) (.seq (.region 0 [⟨some 27, .mv (.t 0), none, 0⟩, ⟨some 28, .mv (.t 0), none, 0⟩, ⟨some 29, .len (.t 28), none, 0⟩, ⟨some 30, .mv (.t 7), none, 0⟩, ⟨some 31, .sliceL 2 22 (.t 27) (some (.t 29)) (some (.t 30)) none, none, 0⟩, ⟨none, .clear [.int .i64 0, .int .u8 0, .int .u8 0, .int .u8 0, .int .u8 0, .int .u8 0, .int .u8 0, .int .u8 0, .int .u8 0, .int .u8 0, .int .u8 0, .int .u8 0, .int .u8 0, .int .u8 0, .int .u8 0, .int .u8 0, .int .u8 0, .int .i64 0, .int .i64 0, .bool false, .int .i64 0, .int .i64 0] (.t 31), none, 0⟩] false []) (.seq (.region 0 [⟨some 32, .mv (.t 0), none, 0⟩, ⟨some 6, .mv (.t 32), none, 0⟩] false []) .ret))))))), false⟩
theorem c21 : cFunc Tryd.prog G f21 Tryd.f21 = some f21 := by kernel_rfl
/-- junctionbox/route.Same -/
def f23 : AFunc :=
⟨2, [.t 4], (.seq (.region 2 [⟨some 2, .box 46 1 (.t 0) [], none, 0⟩, ⟨some 3, .box 46 1 (.t 1) [], none, 1⟩, ⟨some 4, .mv (.c (.bool false)), none, 0⟩] false []) (.seq (.region 0 [⟨some 5, .faddr 0 (.t 2), none, 0⟩, ⟨some 6, .load 1 false (.t 5), none, 0⟩, ⟨some 7, .faddr 0 (.t 3), none, 0⟩, ⟨some 8, .load 1 false (.t 7), none, 0⟩, ⟨some 9, .callV 43 [.t 6, .t 8] 0, none, 0⟩, ⟨some 4, .mv (.t 9), none, 0⟩] false []) .ret)), false⟩
theorem c23 : cFunc Tryd.prog G f23 Tryd.f23 = some f23 := by kernel_rfl
/-- junctionbox/plan.Mixed -/
def f24 : AFunc :=
⟨3, [.cell 6 1 true, .t 7], (.seq (.region 4 [⟨some 3, .box 46 1 (.t 0) [], none, 0⟩, ⟨some 4, .box 46 1 (.t 1) [], none, 1⟩, ⟨some 6, .alloc 46 [.clip []] [(0, 53, 21)], none, 2⟩, ⟨some 7, .mv (.c (.int .i64 0)), none, 0⟩] false []) (.seq (.seq (.region 0 [⟨some 10, .load 1 true (.t 3), none, 0⟩, ⟨some 11, .load 1 true (.t 4), none, 0⟩, ⟨some 12, .mv (.t 2), none, 0⟩, ⟨some 13, .callV 41 [.t 10, .t 11, .t 12, .c (.int .i64 1)] 0, none, 0⟩, ⟨some 8, .mv (.t 13), none, 0⟩] false []) (.seq (.region 0 [⟨some 14, .mv (.t 8), none, 0⟩, ⟨some 15, .bin .neq (.t 14) (.c (.int .i64 0)), none, 0⟩] false []) (.cond (.t 15) (.seq (.region 1 [⟨some 16, .build [.clip []] [] [(0, 53, 21)], none, 0⟩, ⟨some 17, .mv (.t 8), none, 0⟩, ⟨none, .store 1 (.t 6) (.t 16), none, 0⟩, ⟨some 7, .mv (.t 17), none, 0⟩] false []) .ret) .skip))) (.seq (.region 3 [⟨some 18, .load 1 true (.t 3), none, 0⟩, ⟨some 19, .load 1 true (.t 4), none, 0⟩, ⟨some 20, .mv (.t 2), none, 0⟩, ⟨some 21, .callV 44 [.t 18, .t 19, .t 20] 1, none, 0⟩, ⟨some 9, .alloc 46 [.clip []] [(0, 53, 21)], none, 1⟩, ⟨none, .store 1 (.t 9) (.t 21), none, 0⟩] false []) (.seq (.seq (.region 0 [⟨some 22, .load 1 true (.t 9), none, 0⟩, ⟨some 23, .callV 30 [.t 22] 0, none, 0⟩, ⟨some 24, .bin .neq (.t 23) (.c (.int .i64 0)), none, 0⟩] false []) (.cond (.t 24) (.seq (.region 1 [⟨some 25, .build [.clip []] [] [(0, 53, 21)], none, 0⟩, ⟨none, .store 1 (.t 6) (.t 25), none, 0⟩, ⟨some 7, .mv (.c (.int .i64 6)), none, 0⟩] false []) .ret) .skip)) (.seq (.region 0 [⟨some 26, .load 1 true (.t 9), none, 0⟩, ⟨none, .store 1 (.t 6) (.t 26), none, 0⟩, ⟨some 7, .mv (.c (.int .i64 0)), none, 0⟩] false []) .ret))))), true⟩
theorem c24 : cFunc Tryd.prog G f24 Tryd.f24 = some f24 := by kernel_rfl
/-- junctionbox/route.Check -/
def f30 : AFunc :=
⟨1, [.t 2], (.seq (.region 1 [⟨some 1, .box 46 1 (.t 0) [], none, 0⟩, ⟨some 2, .mv (.c (.int .i64 0)), none, 0⟩] false []) (.seq (.seq (.region 0 [⟨some 5, .faddr 0 (.t 1), none, 0⟩, ⟨some 6, .load 1 false (.t 5), none, 0⟩, ⟨some 7, .len (.t 6), none, 0⟩, ⟨some 8, .mv (.c (.int .i64 0)), none, 0⟩] false []) (.block 0 (.loop [1, 6, 7, 8] (.seq (.region 0 [⟨some 9, .bin .lss (.t 8) (.t 7), none, 0⟩] false []) (.seq (.cond (.t 9) .skip (.exit 0)) (.seq (.block 1 (.seq (.region 1 [⟨some 10, .mv (.t 8), none, 0⟩, ⟨some 11, .iaddr 21 none (.t 6) (.t 8), none, 0⟩, ⟨some 12, .load 21 true (.t 11), none, 0⟩, ⟨some 4, .alloc 53 [.int .i64 0, .int .u8 0, .int .u8 0, .int .u8 0, .int .u8 0, .int .u8 0, .int .u8 0, .int .u8 0, .int .u8 0, .int .u8 0, .int .u8 0, .int .u8 0, .int .u8 0, .int .u8 0, .int .u8 0, .int .u8 0, .int .u8 0, .int .i64 0, .int .i64 0, .int .i64 0, .int .i64 0] [], none, 0⟩, ⟨some 3, .mv (.t 10), none, 0⟩, ⟨none, .store 21 (.t 4) (.t 12), none, 0⟩] false []) (.seq (.region 0 [⟨some 13, .mv (.t 3), none, 0⟩, ⟨some 14, .bin .eql (.t 13) (.c (.int .i64 160)), none, 0⟩, ⟨some 15, .mv (.t 14), none, 0⟩, ⟨some 16, .faddr 0 (.t 4), some (15, false), 0⟩, ⟨some 17, .load 18 true (.t 16), some (15, false), 0⟩, ⟨some 18, .faddr 18 (.t 4), some (15, false), 0⟩, ⟨some 19, .load 1 false (.t 18), some (15, false), 0⟩, ⟨some 20, .faddr 19 (.t 4), some (15, false), 0⟩, ⟨some 21, .load 1 false (.t 20), some (15, false), 0⟩, ⟨some 22, .faddr 20 (.t 4), some (15, false), 0⟩, ⟨some 23, .load 1 false (.t 22), some (15, false), 0⟩, ⟨some 24, .callV 47 [.t 17, .t 19, .t 21, .t 23] 0, some (15, false), 0⟩, ⟨some 25, .not (.t 24), some (15, false), 0⟩, ⟨some 26, .pick (.t 15) (.c (.bool true)) (.t 25), none, 0⟩, ⟨some 27, .mv (.t 26), none, 0⟩, ⟨some 28, .mv (.t 3), some (27, false), 0⟩, ⟨some 29, .bin .gtr (.t 28) (.c (.int .i64 0)), some (27, false), 0⟩, ⟨some 30, .mv (.t 29), some (27, false), 0⟩, ⟨some 31, .faddr 0 (.t 1), some (30, true), 0⟩, ⟨some 32, .load 1 false (.t 31), some (30, true), 0⟩, ⟨some 33, .mv (.t 3), some (30, true), 0⟩, ⟨some 34, .bin .sub (.t 33) (.c (.int .i64 1)), some (30, true), 0⟩, ⟨some 35, .iaddr 21 none (.t 32) (.t 34), some (30, true), 0⟩, ⟨some 36, .load 21 true (.t 35), some (30, true), 0⟩, ⟨some 37, .load 21 true (.t 4), some (30, true), 0⟩, ⟨some 38, .callV 48 [.t 36, .t 37] 0, some (30, true), 0⟩, ⟨some 39, .bin .geq (.t 38) (.c (.int .i64 0)), some (30, true), 0⟩, ⟨some 40, .pick (.t 30) (.t 39) (.c (.bool false)), some (27, false), 0⟩, ⟨some 41, .pick (.t 27) (.c (.bool true)) (.t 40), none, 0⟩] true []) (.cond (.t 41) (.seq (.region 0 [⟨some 2, .mv (.c (.int .i64 211)), none, 0⟩] false []) .ret) .skip)))) (.region 0 [⟨some 42, .bin .add (.t 8) (.c (.int .i64 1)), none, 0⟩, ⟨some 8, .mv (.t 42), none, 0⟩] false []))))))) (.seq (.seq (.region 0 [⟨some 43, .faddr 0 (.t 1), none, 0⟩, ⟨some 44, .load 1 false (.t 43), none, 0⟩, ⟨some 45, .callV 49 [.t 44] 0, none, 0⟩, ⟨some 46, .bin .gtr (.t 45) (.c (.int .i64 40)), none, 0⟩] false []) (.cond (.t 46) (.seq (.region 0 [⟨some 2, .mv (.c (.int .i64 211)), none, 0⟩] false []) .ret) .skip)) (.seq (.region 0 [⟨some 2, .mv (.c (.int .i64 0)), none, 0⟩] false []) .ret)))), false⟩
theorem c30 : cFunc Tryd.prog G f30 Tryd.f30 = some f30 := by kernel_rfl
/-- junctionbox/route.Apply -/
def f31 : AFunc :=
⟨2, [.cell 4 1 true, .t 5], (.seq (.region 6 [⟨some 2, .box 46 1 (.t 0) [(0, 53, 21)], none, 0⟩, ⟨some 3, .box 35 1 (.t 1) [(0, 42, 22)], none, 2⟩, ⟨some 4, .alloc 46 [.clip []] [(0, 53, 21)], none, 4⟩, ⟨some 5, .mv (.c (.int .i64 0)), none, 0⟩] false []) (.seq (.block 0 (.seq (.region 0 [⟨some 13, .load 1 true (.t 2), none, 0⟩, ⟨some 14, .callV 30 [.t 13] 0, none, 0⟩, ⟨some 15, .bin .neq (.t 14) (.c (.int .i64 0)), none, 0⟩, ⟨some 12, .mv (.t 15), none, 0⟩] false []) (.cond (.t 12) (.seq (.region 1 [⟨some 16, .build [.clip []] [] [(0, 53, 21)], none, 0⟩, ⟨none, .store 1 (.t 4) (.t 16), none, 0⟩, ⟨some 5, .mv (.c (.int .i64 211)), none, 0⟩] false []) .ret) (.seq (.region 0 [⟨some 18, .load 1 true (.t 3), none, 0⟩, ⟨some 19, .callV 50 [.t 18] 0, none, 0⟩, ⟨some 20, .bin .neq (.t 19) (.c (.int .i64 0)), none, 0⟩, ⟨some 17, .mv (.t 20), none, 0⟩] false []) (.cond (.t 17) (.seq (.region 1 [⟨some 21, .build [.clip []] [] [(0, 53, 21)], none, 0⟩, ⟨none, .store 1 (.t 4) (.t 21), none, 0⟩, ⟨some 5, .mv (.c (.int .i64 210)), none, 0⟩] false []) .ret) .skip))))) (.seq (.region 3 [⟨some 22, .faddr 0 (.t 2), none, 0⟩, ⟨some 23, .load 1 false (.t 22), none, 0⟩, ⟨some 24, .callV 36 [.t 23] 1, none, 0⟩, ⟨some 25, .build [.clip []] [(0, 1, .t 24)] [], none, 0⟩, ⟨some 6, .alloc 46 [.clip []] [(0, 53, 21)], none, 1⟩, ⟨none, .store 1 (.t 6) (.t 25), none, 0⟩] false []) (.seq (.seq (.region 0 [⟨some 26, .faddr 0 (.t 3), none, 0⟩, ⟨some 27, .load 1 false (.t 26), none, 0⟩, ⟨some 28, .len (.t 27), none, 0⟩, ⟨some 29, .mv (.c (.int .i64 0)), none, 0⟩] false []) (.block 1 (.loop [4, 6, 27, 28, 29] (.seq (.region 0 [⟨some 30, .bin .lss (.t 29) (.t 28), none, 0⟩] false []) (.seq (.cond (.t 30) .skip (.exit 1)) (.seq (.block 2 (.seq (.region 1 [⟨some 31, .iaddr 22 none (.t 27) (.t 29), none, 0⟩, ⟨some 32, .load 22 true (.t 31), none, 0⟩, ⟨some 8, .alloc 42 [.int .i64 0, .int .u8 0, .int .u8 0, .int .u8 0, .int .u8 0, .int .u8 0, .int .u8 0, .int .u8 0, .int .u8 0, .int .u8 0, .int .u8 0, .int .u8 0, .int .u8 0, .int .u8 0, .int .u8 0, .int .u8 0, .int .u8 0, .int .i64 0, .int .i64 0, .bool false, .int .i64 0, .int .i64 0] [], none, 0⟩, ⟨none, .store 22 (.t 8) (.t 32), none, 0⟩] false []) (.seq (.region 1 [⟨some 33, .faddr 0 (.t 8), none, 0⟩, ⟨some 34, .load 18 true (.t 33), none, 0⟩, ⟨some 35, .faddr 18 (.t 8), none, 0⟩, ⟨some 36, .load 1 false (.t 35), none, 0⟩, ⟨some 37, .faddr 20 (.t 8), none, 0⟩, ⟨some 38, .load 1 false (.t 37), none, 0⟩, ⟨some 39, .faddr 21 (.t 8), none, 0⟩, ⟨some 40, .load 1 false (.t 39), none, 0⟩, ⟨some 41, .build [.int .i64 0, .int .u8 0, .int .u8 0, .int .u8 0, .int .u8 0, .int .u8 0, .int .u8 0, .int .u8 0, .int .u8 0, .int .u8 0, .int .u8 0, .int .u8 0, .int .u8 0, .int .u8 0, .int .u8 0, .int .u8 0, .int .u8 0, .int .i64 0, .int .i64 0, .int .i64 0, .int .i64 0] [(0, 18, .t 34), (18, 1, .t 36), (19, 1, .t 38), (20, 1, .t 40)] [], none, 0⟩, ⟨some 9, .alloc 53 [.int .i64 0, .int .u8 0, .int .u8 0, .int .u8 0, .int .u8 0, .int .u8 0, .int .u8 0, .int .u8 0, .int .u8 0, .int .u8 0, .int .u8 0, .int .u8 0, .int .u8 0, .int .u8 0, .int .u8 0, .int .u8 0, .int .u8 0, .int .i64 0, .int .i64 0, .int .i64 0, .int .i64 0] [], none, 0⟩, ⟨none, .store 21 (.t 9) (.t 41), none, 0⟩] false []) (.seq (.region 0 [⟨some 43, .faddr 0 (.t 6), none, 0⟩, ⟨some 44, .load 1 false (.t 43), none, 0⟩, ⟨some 45, .load 21 true (.t 9), none, 0⟩, ⟨some 46, .callR (.c (.clo 51 [])) [.t 44, .t 45, .c (.clo 48 [])] 0, none, 0⟩, ⟨some 42, .mv (.t 46), none, 0⟩, ⟨some 47, .extr (.t 42) 0, none, 0⟩, ⟨some 48, .extr (.t 42) 1, none, 0⟩, ⟨some 10, .mv (.t 47), none, 0⟩, ⟨some 11, .mv (.t 48), none, 0⟩] false []) (.block 3 (.seq (.region 0 [⟨some 57, .faddr 19 (.t 8), none, 0⟩, ⟨some 58, .load 1 false (.t 57), none, 0⟩, ⟨some 59, .mv (.t 58), none, 0⟩, ⟨some 60, .mv (.t 11), some (59, true), 0⟩, ⟨some 61, .not (.t 60), some (59, true), 0⟩, ⟨some 62, .pick (.t 59) (.t 61) (.c (.bool false)), none, 0⟩, ⟨some 56, .mv (.t 62), none, 0⟩] false []) (.cond (.t 56) (.seq (.region 1 [⟨some 63, .build [.clip []] [] [(0, 53, 21)], none, 0⟩, ⟨none, .store 1 (.t 4) (.t 63), none, 0⟩, ⟨some 5, .mv (.c (.int .i64 4)), none, 0⟩] false []) .ret) (.seq (.region 0 [⟨some 65, .faddr 19 (.t 8), none, 0⟩, ⟨some 66, .load 1 false (.t 65), none, 0⟩, ⟨some 64, .mv (.t 66), none, 0⟩] false []) (.cond (.t 64) (.region 0 [⟨some 67, .faddr 0 (.t 6), none, 0⟩, ⟨some 68, .load 1 false (.t 67), none, 0⟩, ⟨some 69, .mv (.t 10), none, 0⟩, ⟨some 70, .mv (.t 10), none, 0⟩, ⟨some 71, .bin .add (.t 70) (.c (.int .i64 1)), none, 0⟩, ⟨some 72, .callR (.c (.clo 52 [])) [.t 68, .t 69, .t 71] 1, none, 0⟩, ⟨some 73, .faddr 0 (.t 6), none, 0⟩, ⟨none, .store 1 (.t 73) (.t 72), none, 0⟩] false []) (.seq (.region 0 [⟨some 75, .mv (.t 11), none, 0⟩, ⟨some 74, .mv (.t 75), none, 0⟩] false []) (.cond (.t 74) (.region 0 [⟨some 76, .faddr 0 (.t 6), none, 0⟩, ⟨some 77, .load 1 false (.t 76), none, 0⟩, ⟨some 78, .mv (.t 10), none, 0⟩, ⟨some 79, .load 21 true (.t 9), none, 0⟩, ⟨some 80, .iaddr 21 none (.t 77) (.t 78), none, 0⟩, ⟨none, .store 21 (.t 80) (.t 79), none, 0⟩] false []) (.region 1 [⟨some 49, .faddr 0 (.t 6), none, 0⟩, ⟨some 50, .load 1 false (.t 49), none, 0⟩, ⟨some 51, .mv (.t 10), none, 0⟩, ⟨some 52, .load 21 true (.t 9), none, 0⟩, ⟨some 53, .buildSl 53 21 [.int .i64 0, .int .u8 0, .int .u8 0, .int .u8 0, .int .u8 0, .int .u8 0, .int .u8 0, .int .u8 0, .int .u8 0, .int .u8 0, .int .u8 0, .int .u8 0, .int .u8 0, .int .u8 0, .int .u8 0, .int .u8 0, .int .u8 0, .int .i64 0, .int .i64 0, .int .i64 0, .int .i64 0] 1 [(0, .t 52)] true, none, 0⟩, ⟨some 54, .callR (.c (.clo 53 [])) [.t 50, .t 51, .t 53] 1, none, 0⟩, ⟨some 55, .faddr 0 (.t 6), none, 0⟩, ⟨none, .store 1 (.t 55) (.t 54), none, 0⟩] false [])))))))))))) (.region 0 [⟨some 81, .bin .add (.t 29) (.c (.int .i64 1)), none, 0⟩, ⟨some 29, .mv (.t 81), none, 0⟩] false []))))))) (.seq (.seq (.region 0 [⟨some 82, .faddr 0 (.t 6), none, 0⟩, ⟨some 83, .load 1 false (.t 82), none, 0⟩, ⟨some 84, .callV 49 [.t 83] 0, none, 0⟩, ⟨some 85, .bin .gtr (.t 84) (.c (.int .i64 40)), none, 0⟩] false []) (.cond (.t 85) (.seq (.region 1 [⟨some 86, .build [.clip []] [] [(0, 53, 21)], none, 0⟩, ⟨none, .store 1 (.t 4) (.t 86), none, 0⟩, ⟨some 5, .mv (.c (.int .i64 6)), none, 0⟩] false []) .ret) .skip)) (.seq (.region 0 [⟨some 87, .load 1 true (.t 6), none, 0⟩, ⟨none, .store 1 (.t 4) (.t 87), none, 0⟩, ⟨some 5, .mv (.c (.int .i64 0)), none, 0⟩] false []) .ret)))))), true⟩
theorem c31 : cFunc Tryd.prog G f31 Tryd.f31 = some f31 := by kernel_rfl
/-- junctionbox/junctionboxlaw32.two -/
def f33 : AFunc :=
⟨0, [.cell 0 1 true, .cell 1 1 true], (.seq (.region 4 [⟨some 0, .alloc 46 [.clip []] [(0, 53, 21)], none, 0⟩, ⟨some 1, .alloc 46 [.clip []] [(0, 53, 21)], none, 2⟩] false []) (.seq (.region 1 [⟨some 4, .build [.int .i64 0, .int .u8 0, .int .u8 0, .int .u8 0, .int .u8 0, .int .u8 0, .int .u8 0, .int .u8 0, .int .u8 0, .int .u8 0, .int .u8 0, .int .u8 0, .int .u8 0, .int .u8 0, .int .u8 0, .int .u8 0, .int .u8 0] [(0, 1, .c (.int .i64 4))] [], none, 0⟩, ⟨some 5, .build [.int .i64 0, .int .u8 0, .int .u8 0, .int .u8 0, .int .u8 0, .int .u8 0, .int .u8 0, .int .u8 0, .int .u8 0, .int .u8 0, .int .u8 0, .int .u8 0, .int .u8 0, .int .u8 0, .int .u8 0, .int .u8 0, .int .u8 0, .int .i64 0] [(0, 17, .t 4), (17, 1, .c (.int .i64 8))] [], none, 0⟩, ⟨some 2, .alloc 40 [.int .i64 0, .int .u8 0, .int .u8 0, .int .u8 0, .int .u8 0, .int .u8 0, .int .u8 0, .int .u8 0, .int .u8 0, .int .u8 0, .int .u8 0, .int .u8 0, .int .u8 0, .int .u8 0, .int .u8 0, .int .u8 0, .int .u8 0, .int .i64 0] [], none, 0⟩, ⟨none, .store 18 (.t 2) (.t 5), none, 0⟩] false []) (.seq (.region 0 [⟨some 6, .faddr 0 (.t 2), none, 0⟩, ⟨some 7, .faddr 1 (.t 6), none, 0⟩, ⟨some 8, .iaddr 1 (some 16) (.t 7) (.c (.int .i64 0)), none, 0⟩, ⟨none, .store 1 (.t 8) (.c (.int .u8 10)), none, 0⟩] false []) (.seq (.region 1 [⟨some 9, .load 18 true (.t 2), none, 0⟩, ⟨some 3, .alloc 40 [.int .i64 0, .int .u8 0, .int .u8 0, .int .u8 0, .int .u8 0, .int .u8 0, .int .u8 0, .int .u8 0, .int .u8 0, .int .u8 0, .int .u8 0, .int .u8 0, .int .u8 0, .int .u8 0, .int .u8 0, .int .u8 0, .int .u8 0, .int .i64 0] [], none, 0⟩, ⟨none, .store 18 (.t 3) (.t 9), none, 0⟩] false []) (.seq (.region 0 [⟨some 10, .faddr 0 (.t 3), none, 0⟩, ⟨some 11, .faddr 1 (.t 10), none, 0⟩, ⟨some 12, .iaddr 1 (some 16) (.t 11) (.c (.int .i64 1)), none, 0⟩, ⟨none, .store 1 (.t 12) (.c (.int .u8 1)), none, 0⟩, ⟨some 13, .faddr 17 (.t 3), none, 0⟩, ⟨none, .store 1 (.t 13) (.c (.int .i64 16)), none, 0⟩] false []) (.seq (.region 2 [⟨some 14, .load 18 true (.t 2), none, 0⟩, ⟨some 15, .build [.int .i64 0, .int .u8 0, .int .u8 0, .int .u8 0, .int .u8 0, .int .u8 0, .int .u8 0, .int .u8 0, .int .u8 0, .int .u8 0, .int .u8 0, .int .u8 0, .int .u8 0, .int .u8 0, .int .u8 0, .int .u8 0, .int .u8 0, .int .i64 0, .int .i64 0, .int .i64 0, .int .i64 0] [(0, 18, .t 14), (18, 1, .c (.int .i64 1)), (19, 1, .c (.int .i64 5)), (20, 1, .c (.int .i64 7))] [], none, 0⟩, ⟨some 16, .buildSl 53 21 [.int .i64 0, .int .u8 0, .int .u8 0, .int .u8 0, .int .u8 0, .int .u8 0, .int .u8 0, .int .u8 0, .int .u8 0, .int .u8 0, .int .u8 0, .int .u8 0, .int .u8 0, .int .u8 0, .int .u8 0, .int .u8 0, .int .u8 0, .int .i64 0, .int .i64 0, .int .i64 0, .int .i64 0] 1 [(0, .t 15)] false, none, 0⟩, ⟨some 17, .build [.clip []] [(0, 1, .t 16)] [], none, 0⟩, ⟨some 18, .load 18 true (.t 2), none, 0⟩, ⟨some 19, .build [.int .i64 0, .int .u8 0, .int .u8 0, .int .u8 0, .int .u8 0, .int .u8 0, .int .u8 0, .int .u8 0, .int .u8 0, .int .u8 0, .int .u8 0, .int .u8 0, .int .u8 0, .int .u8 0, .int .u8 0, .int .u8 0, .int .u8 0, .int .i64 0, .int .i64 0, .int .i64 0, .int .i64 0] [(0, 18, .t 18), (18, 1, .c (.int .i64 2)), (20, 1, .c (.int .i64 1))] [], none, 0⟩, ⟨some 20, .load 18 true (.t 3), none, 0⟩, ⟨some 21, .build [.int .i64 0, .int .u8 0, .int .u8 0, .int .u8 0, .int .u8 0, .int .u8 0, .int .u8 0, .int .u8 0, .int .u8 0, .int .u8 0, .int .u8 0, .int .u8 0, .int .u8 0, .int .u8 0, .int .u8 0, .int .u8 0, .int .u8 0, .int .i64 0, .int .i64 0, .int .i64 0, .int .i64 0] [(0, 18, .t 20), (18, 1, .c (.int .i64 1)), (19, 1, .c (.int .i64 5)), (20, 1, .c (.int .i64 7))] [], none, 0⟩, ⟨some 22, .buildSl 53 21 [.int .i64 0, .int .u8 0, .int .u8 0, .int .u8 0, .int .u8 0, .int .u8 0, .int .u8 0, .int .u8 0, .int .u8 0, .int .u8 0, .int .u8 0, .int .u8 0, .int .u8 0, .int .u8 0, .int .u8 0, .int .u8 0, .int .u8 0, .int .i64 0, .int .i64 0, .int .i64 0, .int .i64 0] 2 [(0, .t 19), (1, .t 21)] false, none, 1⟩, ⟨some 23, .build [.clip []] [(0, 1, .t 22)] [], none, 0⟩, ⟨none, .store 1 (.t 0) (.t 17), none, 0⟩, ⟨none, .store 1 (.t 1) (.t 23), none, 0⟩] true [(.t 2, .t 0, 0), (.t 3, .t 0, 0)]) .ret)))))), true⟩
theorem c33 : cFunc Tryd.prog G f33 Tryd.f33 = some f33 := by kernel_rfl
/-- junctionbox/plan.may -/
def f34 : AFunc :=
⟨1, [.t 2], (.seq (.region 0 [⟨some 2, .mv (.c (.bool false)), none, 0⟩] false []) (.seq (.region 0 [⟨some 3, .mv (.t 0), none, 0⟩, ⟨some 4, .build [.clip []] [(0, 1, .t 3)] [], none, 0⟩, ⟨some 5, .callV 50 [.t 4] 0, none, 0⟩, ⟨some 6, .bin .eql (.t 5) (.c (.int .i64 0)), none, 0⟩, ⟨some 2, .mv (.t 6), none, 0⟩] false []) .ret)), false⟩
theorem c34 : cFunc Tryd.prog G f34 Tryd.f34 = some f34 := by kernel_rfl
/-- junctionbox/plan.right -/
def f41 : AFunc :=
⟨4, [.t 8], (.seq (.region 2 [⟨some 4, .box 46 1 (.t 0) [], none, 0⟩, ⟨some 5, .box 46 1 (.t 1) [], none, 1⟩, ⟨some 8, .mv (.c (.int .i64 0)), none, 0⟩] false []) (.seq (.seq (.region 0 [⟨some 12, .load 1 true (.t 4), none, 0⟩, ⟨some 13, .load 1 true (.t 5), none, 0⟩, ⟨some 14, .build [.clip [], .clip []] [(0, 1, .t 12), (1, 1, .t 13)] [], none, 0⟩, ⟨some 15, .mv (.c (.int .i64 0)), none, 0⟩] false []) (.block 0 (.loop [2, 3, 14, 15] (.seq (.region 0 [⟨some 16, .bin .lss (.t 15) (.c (.int .i64 2)), none, 0⟩] false []) (.seq (.cond (.t 16) .skip (.exit 0)) (.seq (.block 1 (.seq (.region 2 [⟨some 17, .idx 1 true 2 (.t 14) (.t 15), none, 0⟩, ⟨some 10, .alloc 46 [.clip []] [(0, 53, 21)], none, 0⟩, ⟨none, .store 1 (.t 10) (.t 17), none, 0⟩] false []) (.seq (.region 0 [⟨some 18, .load 1 true (.t 10), none, 0⟩, ⟨some 19, .callV 30 [.t 18] 0, none, 0⟩, ⟨some 11, .mv (.t 19), none, 0⟩] false []) (.seq (.region 0 [⟨some 20, .mv (.t 11), none, 0⟩, ⟨some 21, .bin .neq (.t 20) (.c (.int .i64 0)), none, 0⟩] false []) (.cond (.t 21) (.seq (.region 0 [⟨some 22, .mv (.t 11), none, 0⟩, ⟨some 8, .mv (.t 22), none, 0⟩] false []) .ret) .skip))))) (.region 0 [⟨some 23, .bin .add (.t 15) (.c (.int .i64 1)), none, 0⟩, ⟨some 15, .mv (.t 23), none, 0⟩] false []))))))) (.seq (.seq (.region 0 [⟨some 24, .mv (.t 2), none, 0⟩, ⟨some 25, .mv (.t 3), none, 0⟩, ⟨some 26, .bin .lss (.t 24) (.t 25), none, 0⟩, ⟨some 27, .mv (.t 26), none, 0⟩, ⟨some 28, .mv (.t 2), some (27, false), 0⟩, ⟨some 29, .bin .gtr (.t 28) (.c (.int .i64 4)), some (27, false), 0⟩, ⟨some 30, .pick (.t 27) (.c (.bool true)) (.t 29), none, 0⟩] false []) (.cond (.t 30) (.seq (.region 0 [⟨some 8, .mv (.c (.int .i64 2)), none, 0⟩] false []) .ret) .skip)) (.seq (.region 0 [⟨some 8, .mv (.c (.int .i64 0)), none, 0⟩] false []) .ret)))), false⟩
theorem c41 : cFunc Tryd.prog G f41 Tryd.f41 = some f41 := by kernel_rfl
/-- junctionbox/plan.leads -/
def f42 : AFunc :=
⟨3, [.t 6], (.seq (.region 3 [⟨some 3, .box 46 1 (.t 0) [], none, 0⟩, ⟨some 4, .box 46 1 (.t 1) [], none, 1⟩, ⟨some 6, .newl 42 22, none, 2⟩] false []) (.seq (.region 0 [⟨some 9, .clo 57 [.t 3, .t 4], none, 0⟩, ⟨some 7, .mv (.t 9), none, 0⟩] false []) (.seq (.region 0 [⟨some 10, .clo 60 [.t 4, .t 3], none, 0⟩, ⟨some 8, .mv (.t 10), none, 0⟩] false []) (.seq (.region 0 [⟨some 11, .mv (.t 2), none, 0⟩, ⟨some 12, .mv (.t 7), none, 0⟩, ⟨some 13, .mv (.t 8), none, 0⟩, ⟨some 14, .buildRf 119 1 [.nilf] 2 [(0, .t 12), (1, .t 13)], none, 0⟩, ⟨some 15, .callR (.c (.clo 62 [])) [.t 11, .t 14] 1, none, 0⟩, ⟨some 6, .mv (.t 15), none, 0⟩] false []) .ret)))), true⟩
theorem c42 : cFunc Tryd.prog G f42 Tryd.f42 = some f42 := by kernel_rfl
/-- slices.Equal[[]junctionbox/api.Route,junctionbox/api.Route] -/
def f43 : AFunc :=
⟨2, [.t 4], (.seq (.region 0 [⟨some 4, .mv (.c (.bool false)), none, 0⟩] false []) (.seq (.seq (.region 0 [⟨some 6, .mv (.t 0), none, 0⟩, ⟨some 7, .len (.t 6), none, 0⟩, ⟨some 8, .mv (.t 1), none, 0⟩, ⟨some 9, .len (.t 8), none, 0⟩, ⟨some 10, .bin .neq (.t 7) (.t 9), none, 0⟩] false []) (.cond (.t 10) (.seq (.region 0 [⟨some 4, .mv (.c (.bool false)), none, 0⟩] false []) .ret) .skip)) (.seq (.seq (.region 0 [⟨some 11, .mv (.t 0), none, 0⟩, ⟨some 12, .len (.t 11), none, 0⟩, ⟨some 13, .mv (.c (.int .i64 0)), none, 0⟩] false []) (.block 0 (.loop [0, 1, 12, 13] (.seq (.region 0 [⟨some 14, .bin .lss (.t 13) (.t 12), none, 0⟩] false []) (.seq (.cond (.t 14) .skip (.exit 0)) (.seq (.block 1 (.seq (.region 0 [⟨some 15, .mv (.t 13), none, 0⟩, ⟨some 5, .mv (.t 15), none, 0⟩] false []) (.seq (.region 0 [⟨some 16, .mv (.t 0), none, 0⟩, ⟨some 17, .mv (.t 5), none, 0⟩, ⟨some 18, .iaddr 21 none (.t 16) (.t 17), none, 0⟩, ⟨some 19, .load 21 true (.t 18), none, 0⟩, ⟨some 20, .mv (.t 1), none, 0⟩, ⟨some 21, .mv (.t 5), none, 0⟩, ⟨some 22, .iaddr 21 none (.t 20) (.t 21), none, 0⟩, ⟨some 23, .load 21 true (.t 22), none, 0⟩, ⟨some 24, .eqagg true [1, 1, 1, 1, 1, 1, 1, 1, 1, 1, 1, 1, 1, 1, 1, 1, 1, 1, 1, 1, 1] (.t 19) (.t 23), none, 0⟩] true []) (.cond (.t 24) (.seq (.region 0 [⟨some 4, .mv (.c (.bool false)), none, 0⟩] false []) .ret) .skip)))) (.region 0 [⟨some 25, .bin .add (.t 13) (.c (.int .i64 1)), none, 0⟩, ⟨some 13, .mv (.t 25), none, 0⟩] false []))))))) (.seq (.region 0 [⟨some 4, .mv (.c (.bool true)), none, 0⟩] false []) .ret)))), false⟩
theorem c43 : cFunc Tryd.prog G f43 Tryd.f43 = some f43 := by kernel_rfl
/-- junctionbox/plan.mixed -/
def f44 : AFunc :=
⟨3, [.cell 6 1 true], (.seq (.region 5 [⟨some 3, .box 46 1 (.t 0) [], none, 0⟩, ⟨some 4, .box 46 1 (.t 1) [], none, 1⟩, ⟨some 5, .box 3 1 (.t 2) [], none, 2⟩, ⟨some 6, .alloc 46 [.clip []] [(0, 53, 21)], none, 3⟩] false []) (.seq (.region 0 [⟨some 10, .clo 63 [.t 5], none, 0⟩, ⟨some 7, .mv (.t 10), none, 0⟩] false []) (.seq (.region 0 [⟨some 11, .clo 64 [.t 5], none, 0⟩, ⟨some 8, .mv (.t 11), none, 0⟩] false []) (.seq (.region 3 [⟨some 12, .faddr 0 (.t 3), none, 0⟩, ⟨some 13, .load 1 false (.t 12), none, 0⟩, ⟨some 14, .callV 36 [.t 13] 2, none, 0⟩, ⟨some 15, .mv (.t 8), none, 0⟩, ⟨some 16, .callR (.c (.clo 66 [])) [.t 14, .t 15] 3, none, 0⟩, ⟨some 17, .faddr 0 (.t 4), none, 0⟩, ⟨some 18, .load 1 false (.t 17), none, 0⟩, ⟨some 19, .callV 36 [.t 18] 2, none, 1⟩, ⟨some 20, .mv (.t 7), none, 0⟩, ⟨some 21, .callR (.c (.clo 66 [])) [.t 19, .t 20] 3, none, 0⟩, ⟨some 22, .buildSlF 44 1 [.clip []] 2 [(0, .t 16), (1, .t 21)], none, 0⟩, ⟨some 23, .callV 65 [.t 22] 2, none, 2⟩, ⟨some 9, .mv (.t 23), none, 0⟩] true [(.t 17, .c .undef, 0), (.t 17, .t 14, 0)]) (.seq (.region 0 [⟨some 24, .mv (.t 9), none, 0⟩, ⟨some 25, .callR (.c (.clo 67 [])) [.t 24, .c (.clo 68 [])] 0, none, 0⟩] false []) (.seq (.region 0 [⟨some 26, .mv (.t 9), none, 0⟩, ⟨some 27, .build [.clip []] [(0, 1, .t 26)] [], none, 0⟩, ⟨none, .store 1 (.t 6) (.t 27), none, 0⟩] false []) .ret)))))), true⟩
theorem c44 : cFunc Tryd.prog G f44 Tryd.f44 = some f44 := by kernel_rfl
/-- junctionbox/route.fits -/
def f47 : AFunc :=
⟨4, [.t 8], (.seq (.region 1 [⟨some 4, .box 40 18 (.t 0) [], none, 0⟩, ⟨some 8, .mv (.c (.bool false)), none, 0⟩] false []) (.seq (.region 0 [⟨some 9, .load 18 true (.t 4), none, 0⟩, ⟨some 10, .callV 70 [.t 9] 0, none, 0⟩, ⟨some 11, .bin .eql (.t 10) (.c (.int .i64 0)), none, 0⟩, ⟨some 12, .mv (.t 11), none, 0⟩, ⟨some 13, .mv (.t 1), some (12, true), 0⟩, ⟨some 14, .bin .geq (.t 13) (.c (.int .i64 1)), some (12, true), 0⟩, ⟨some 15, .pick (.t 12) (.t 14) (.c (.bool false)), none, 0⟩, ⟨some 16, .mv (.t 15), none, 0⟩, ⟨some 17, .mv (.t 1), some (16, true), 0⟩, ⟨some 18, .bin .leq (.t 17) (.c (.int .i64 4)), some (16, true), 0⟩, ⟨some 19, .pick (.t 16) (.t 18) (.c (.bool false)), none, 0⟩, ⟨some 20, .mv (.t 19), none, 0⟩, ⟨some 21, .mv (.t 2), some (20, true), 0⟩, ⟨some 22, .bin .geq (.t 21) (.c (.int .i64 0)), some (20, true), 0⟩, ⟨some 23, .pick (.t 20) (.t 22) (.c (.bool false)), none, 0⟩, ⟨some 24, .mv (.t 23), none, 0⟩, ⟨some 25, .mv (.t 2), some (24, true), 0⟩, ⟨some 26, .bin .leq (.t 25) (.c (.int .i64 255)), some (24, true), 0⟩, ⟨some 27, .pick (.t 24) (.t 26) (.c (.bool false)), none, 0⟩, ⟨some 28, .mv (.t 27), none, 0⟩, ⟨some 29, .mv (.t 3), some (28, true), 0⟩, ⟨some 30, .bin .geq (.t 29) (.c (.int .i64 1)), some (28, true), 0⟩, ⟨some 31, .pick (.t 28) (.t 30) (.c (.bool false)), none, 0⟩, ⟨some 32, .mv (.t 31), none, 0⟩, ⟨some 33, .mv (.t 3), some (32, true), 0⟩, ⟨some 34, .bin .leq (.t 33) (.c (.int .i64 255)), some (32, true), 0⟩, ⟨some 35, .pick (.t 32) (.t 34) (.c (.bool false)), none, 0⟩, ⟨some 8, .mv (.t 35), none, 0⟩] false []) .ret)), false⟩
theorem c47 : cFunc Tryd.prog G f47 Tryd.f47 = some f47 := by kernel_rfl
/-- junctionbox/route.order -/
def f48 : AFunc :=
⟨2, [.t 4], (.seq (.region 2 [⟨some 2, .box 53 21 (.t 0) [], none, 0⟩, ⟨some 3, .box 53 21 (.t 1) [], none, 1⟩, ⟨some 4, .mv (.c (.int .i64 0)), none, 0⟩] false []) (.seq (.region 1 [⟨some 5, .faddr 0 (.t 2), none, 0⟩, ⟨some 6, .load 18 true (.t 5), none, 0⟩, ⟨some 7, .faddr 0 (.t 3), none, 0⟩, ⟨some 8, .load 18 true (.t 7), none, 0⟩, ⟨some 9, .callV 72 [.t 6, .t 8] 0, none, 0⟩, ⟨some 10, .faddr 18 (.t 2), none, 0⟩, ⟨some 11, .load 1 false (.t 10), none, 0⟩, ⟨some 12, .faddr 18 (.t 3), none, 0⟩, ⟨some 13, .load 1 false (.t 12), none, 0⟩, ⟨some 14, .callV 73 [.t 11, .t 13] 0, none, 0⟩, ⟨some 15, .buildSl 3 1 [.int .i64 0] 2 [(0, .t 9), (1, .t 14)] false, none, 0⟩, ⟨some 16, .callV 71 [.t 15] 0, none, 0⟩, ⟨some 4, .mv (.t 16), none, 0⟩] true []) .ret)), false⟩
theorem c48 : cFunc Tryd.prog G f48 Tryd.f48 = some f48 := by kernel_rfl
/-- junctionbox/route.prefixes -/
def f49 : AFunc :=
⟨1, [.t 2], (.seq (.region 0 [⟨some 2, .mv (.c (.int .i64 0)), none, 0⟩] false []) (.seq (.region 0 [⟨some 3, .mv (.c (.int .i64 0)), none, 0⟩] false []) (.seq (.seq (.region 0 [⟨some 6, .mv (.t 0), none, 0⟩, ⟨some 7, .len (.t 6), none, 0⟩, ⟨some 8, .mv (.c (.int .i64 0)), none, 0⟩] false []) (.block 0 (.loop [0, 3, 6, 7, 8] (.seq (.region 0 [⟨some 9, .bin .lss (.t 8) (.t 7), none, 0⟩] false []) (.seq (.cond (.t 9) .skip (.exit 0)) (.seq (.block 1 (.seq (.region 1 [⟨some 10, .mv (.t 8), none, 0⟩, ⟨some 11, .iaddr 21 none (.t 6) (.t 8), none, 0⟩, ⟨some 12, .load 21 true (.t 11), none, 0⟩, ⟨some 5, .alloc 53 [.int .i64 0, .int .u8 0, .int .u8 0, .int .u8 0, .int .u8 0, .int .u8 0, .int .u8 0, .int .u8 0, .int .u8 0, .int .u8 0, .int .u8 0, .int .u8 0, .int .u8 0, .int .u8 0, .int .u8 0, .int .u8 0, .int .u8 0, .int .i64 0, .int .i64 0, .int .i64 0, .int .i64 0] [], none, 0⟩, ⟨some 4, .mv (.t 10), none, 0⟩, ⟨none, .store 21 (.t 5) (.t 12), none, 0⟩] false []) (.seq (.region 0 [⟨some 13, .mv (.t 4), none, 0⟩, ⟨some 14, .bin .eql (.t 13) (.c (.int .i64 0)), none, 0⟩, ⟨some 15, .mv (.t 14), none, 0⟩, ⟨some 16, .mv (.t 0), some (15, false), 0⟩, ⟨some 17, .mv (.t 4), some (15, false), 0⟩, ⟨some 18, .bin .sub (.t 17) (.c (.int .i64 1)), some (15, false), 0⟩, ⟨some 19, .iaddr 21 none (.t 16) (.t 18), some (15, false), 0⟩, ⟨some 20, .faddr 0 (.t 19), some (15, false), 0⟩, ⟨some 21, .load 18 true (.t 20), some (15, false), 0⟩, ⟨some 22, .faddr 0 (.t 5), some (15, false), 0⟩, ⟨some 23, .load 18 true (.t 22), some (15, false), 0⟩, ⟨some 24, .eqagg true [1, 1, 1, 1, 1, 1, 1, 1, 1, 1, 1, 1, 1, 1, 1, 1, 1, 1] (.t 21) (.t 23), some (15, false), 0⟩, ⟨some 25, .pick (.t 15) (.c (.bool true)) (.t 24), none, 0⟩] true []) (.cond (.t 25) (.region 0 [⟨some 26, .mv (.t 3), none, 0⟩, ⟨some 27, .bin .add (.t 26) (.c (.int .i64 1)), none, 0⟩, ⟨some 3, .mv (.t 27), none, 0⟩] false []) .skip)))) (.region 0 [⟨some 28, .bin .add (.t 8) (.c (.int .i64 1)), none, 0⟩, ⟨some 8, .mv (.t 28), none, 0⟩] false []))))))) (.seq (.region 0 [⟨some 29, .mv (.t 3), none, 0⟩, ⟨some 2, .mv (.t 29), none, 0⟩] false []) .ret)))), false⟩
theorem c49 : cFunc Tryd.prog G f49 Tryd.f49 = some f49 := by kernel_rfl
/-- junctionbox/route.CheckBatch -/
def f50 : AFunc :=
⟨1, [.t 2], (.seq (.region 1 [⟨some 1, .box 35 1 (.t 0) [], none, 0⟩, ⟨some 2, .mv (.c (.int .i64 0)), none, 0⟩] false []) (.seq (.seq (.region 0 [⟨some 6, .faddr 0 (.t 1), none, 0⟩, ⟨some 7, .load 1 false (.t 6), none, 0⟩, ⟨some 8, .len (.t 7), none, 0⟩, ⟨some 9, .bin .lss (.t 8) (.c (.int .i64 1)), none, 0⟩, ⟨some 10, .mv (.t 9), none, 0⟩, ⟨some 11, .faddr 0 (.t 1), some (10, false), 0⟩, ⟨some 12, .load 1 false (.t 11), some (10, false), 0⟩, ⟨some 13, .len (.t 12), some (10, false), 0⟩, ⟨some 14, .bin .gtr (.t 13) (.c (.int .i64 8)), some (10, false), 0⟩, ⟨some 15, .pick (.t 10) (.c (.bool true)) (.t 14), none, 0⟩] false []) (.cond (.t 15) (.seq (.region 0 [⟨some 2, .mv (.c (.int .i64 210)), none, 0⟩] false []) .ret) .skip)) (.seq (.seq (.region 0 [⟨some 16, .faddr 0 (.t 1), none, 0⟩, ⟨some 17, .load 1 false (.t 16), none, 0⟩, ⟨some 18, .len (.t 17), none, 0⟩, ⟨some 19, .mv (.c (.int .i64 0)), none, 0⟩] false []) (.block 0 (.loop [1, 17, 18, 19] (.seq (.region 0 [⟨some 20, .bin .lss (.t 19) (.t 18), none, 0⟩] false []) (.seq (.cond (.t 20) .skip (.exit 0)) (.seq (.block 1 (.seq (.region 1 [⟨some 21, .mv (.t 19), none, 0⟩, ⟨some 22, .iaddr 22 none (.t 17) (.t 19), none, 0⟩, ⟨some 23, .load 22 true (.t 22), none, 0⟩, ⟨some 4, .alloc 42 [.int .i64 0, .int .u8 0, .int .u8 0, .int .u8 0, .int .u8 0, .int .u8 0, .int .u8 0, .int .u8 0, .int .u8 0, .int .u8 0, .int .u8 0, .int .u8 0, .int .u8 0, .int .u8 0, .int .u8 0, .int .u8 0, .int .u8 0, .int .i64 0, .int .i64 0, .bool false, .int .i64 0, .int .i64 0] [], none, 0⟩, ⟨some 3, .mv (.t 21), none, 0⟩, ⟨none, .store 22 (.t 4) (.t 23), none, 0⟩] false []) (.seq (.region 0 [⟨some 24, .faddr 0 (.t 1), none, 0⟩, ⟨some 25, .load 1 false (.t 24), none, 0⟩, ⟨some 26, .mv (.t 3), none, 0⟩, ⟨some 27, .slice 22 (.t 25) none (some (.t 26)) none, none, 0⟩, ⟨some 28, .clo 75 [.t 4], none, 0⟩, ⟨some 29, .callR (.c (.clo 74 [])) [.t 27, .t 28] 0, none, 0⟩, ⟨some 5, .mv (.t 29), none, 0⟩] false []) (.seq (.region 0 [⟨some 30, .load 22 true (.t 4), none, 0⟩, ⟨some 31, .callV 76 [.t 30] 0, none, 0⟩, ⟨some 32, .not (.t 31), none, 0⟩, ⟨some 33, .mv (.t 32), none, 0⟩, ⟨some 34, .mv (.t 5), some (33, false), 0⟩, ⟨some 35, .pick (.t 33) (.c (.bool true)) (.t 34), none, 0⟩] false []) (.cond (.t 35) (.seq (.region 0 [⟨some 2, .mv (.c (.int .i64 210)), none, 0⟩] false []) .ret) .skip))))) (.region 0 [⟨some 36, .bin .add (.t 19) (.c (.int .i64 1)), none, 0⟩, ⟨some 19, .mv (.t 36), none, 0⟩] false []))))))) (.seq (.region 0 [⟨some 2, .mv (.c (.int .i64 0)), none, 0⟩] false []) .ret)))), false⟩
theorem c50 : cFunc Tryd.prog G f50 Tryd.f50 = some f50 := by kernel_rfl
/-- slices.BinarySearchFunc[[]junctionbox/api.Route,junctionbox/api.Route,junctionbox/api.Route] -/
def f51 : AFunc :=
⟨3, [.t 6, .t 7], (.seq (.region 1 [⟨some 4, .box 53 21 (.t 1) [], none, 0⟩, ⟨some 6, .mv (.c (.int .i64 0)), none, 0⟩, ⟨some 7, .mv (.c (.bool false)), none, 0⟩] false []) (.seq (.region 0 [⟨some 12, .mv (.t 0), none, 0⟩, ⟨some 13, .len (.t 12), none, 0⟩, ⟨some 8, .mv (.t 13), none, 0⟩] false []) (.seq (.region 0 [⟨some 14, .mv (.t 8), none, 0⟩, ⟨some 9, .mv (.c (.int .i64 0)), none, 0⟩, ⟨some 10, .mv (.t 14), none, 0⟩] false []) (.seq (.block 0 (.loop [0, 2, 4, 8, 9, 10] (.seq (.seq (.region 0 [⟨some 15, .mv (.t 9), none, 0⟩, ⟨some 16, .mv (.t 10), none, 0⟩, ⟨some 17, .bin .lss (.t 15) (.t 16), none, 0⟩] false []) (.cond (.t 17) .skip (.exit 0))) (.block 1 (.seq (.region 0 [⟨some 18, .mv (.t 9), none, 0⟩, ⟨some 19, .mv (.t 10), none, 0⟩, ⟨some 20, .bin .add (.t 18) (.t 19), none, 0⟩, ⟨some 21, .conv .u64 (.t 20), none, 0⟩, ⟨some 22, .bin .shr (.t 21) (.c (.int .u64 1)), none, 0⟩, ⟨some 23, .conv .i64 (.t 22), none, 0⟩, ⟨some 11, .mv (.t 23), none, 0⟩] false []) (.seq (.region 0 [⟨some 24, .mv (.t 2), none, 0⟩, ⟨some 25, .mv (.t 0), none, 0⟩, ⟨some 26, .mv (.t 11), none, 0⟩, ⟨some 27, .iaddr 21 none (.t 25) (.t 26), none, 0⟩, ⟨some 28, .load 21 true (.t 27), none, 0⟩, ⟨some 29, .load 21 true (.t 4), none, 0⟩, ⟨some 30, .callR (.t 24) [.t 28, .t 29] 0, none, 0⟩, ⟨some 31, .bin .lss (.t 30) (.c (.int .i64 0)), none, 0⟩] true []) (.cond (.t 31) (.region 0 [⟨some 32, .mv (.t 11), none, 0⟩, ⟨some 33, .bin .add (.t 32) (.c (.int .i64 1)), none, 0⟩, ⟨some 9, .mv (.t 33), none, 0⟩] false []) (.region 0 [⟨some 34, .mv (.t 11), none, 0⟩, ⟨some 10, .mv (.t 34), none, 0⟩] false [])))))))) (.seq (.region 0 [⟨some 35, .mv (.t 9), none, 0⟩, ⟨some 36, .mv (.t 9), none, 0⟩, ⟨some 37, .mv (.t 8), none, 0⟩, ⟨some 38, .bin .lss (.t 36) (.t 37), none, 0⟩, ⟨some 39, .mv (.t 38), none, 0⟩, ⟨some 40, .mv (.t 2), some (39, true), 0⟩, ⟨some 41, .mv (.t 0), some (39, true), 0⟩, ⟨some 42, .mv (.t 9), some (39, true), 0⟩, ⟨some 43, .iaddr 21 none (.t 41) (.t 42), some (39, true), 0⟩, ⟨some 44, .load 21 true (.t 43), some (39, true), 0⟩, ⟨some 45, .load 21 true (.t 4), some (39, true), 0⟩, ⟨some 46, .callR (.t 40) [.t 44, .t 45] 0, some (39, true), 0⟩, ⟨some 47, .bin .eql (.t 46) (.c (.int .i64 0)), some (39, true), 0⟩, ⟨some 48, .pick (.t 39) (.t 47) (.c (.bool false)), none, 0⟩, ⟨some 6, .mv (.t 35), none, 0⟩, ⟨some 7, .mv (.t 48), none, 0⟩] true []) .ret))))), false⟩
theorem c51 : cFunc Tryd.prog G f51 Tryd.f51 = some f51 := by kernel_rfl
/-- slices.Delete[[]junctionbox/api.Route,junctionbox/api.Route] -/
def f52 : AFunc :=
⟨3, [.t 6], (.seq (.region 1 [⟨some 6, .newl 53 21, none, 0⟩] false []) (.seq (.region 0 [⟨some 8, .mv (.t 0), none, 0⟩, ⟨some 9, .mv (.t 1), none, 0⟩, ⟨some 10, .mv (.t 2), none, 0⟩, ⟨some 11, .mv (.t 0), none, 0⟩, ⟨some 12, .len (.t 11), none, 0⟩, ⟨some 13, .sliceL 1 21 (.t 8) (some (.t 9)) (some (.t 10)) (some (.t 12)), none, 0⟩] false []) (.seq (.seq (.region 0 [⟨some 14, .mv (.t 1), none, 0⟩, ⟨some 15, .mv (.t 2), none, 0⟩, ⟨some 16, .bin .eql (.t 14) (.t 15), none, 0⟩] false []) (.cond (.t 16) (.seq (.region 0 [⟨some 17, .mv (.t 0), none, 0⟩, ⟨some 6, .mv (.t 17), none, 0⟩] false []) .ret) .skip)) (.seq (.region 0 [⟨some 18, .mv (.t 0), none, 0⟩, ⟨some 19, .len (.t 18), none, 0⟩, ⟨some 7, .mv (.t 19), none, 0⟩] false []) (.seq (.region 0 [⟨some 20, .mv (.t 0), none, 0⟩, ⟨some 21, .mv (.t 1), none, 0⟩, ⟨some 22, .slice 21 (.t 20) none (some (.t 21)) none, none, 0⟩, ⟨some 23, .mv (.t 0), none, 0⟩, ⟨some 24, .mv (.t 2), none, 0⟩, ⟨some 25, .slice 21 (.t 23) (some (.t 24)) none none, none, 0⟩, ⟨some 26, .appIn 53 21 (.t 22) (.t 25), none, 0⟩, ⟨some 0, .mv (.t 26), none, 0⟩] true []) (.seq (.region 0 [⟨some 27, .mv (.t 0), none, 0⟩, ⟨some 28, .mv (.t 0), none, 0⟩, ⟨some 29, .len (.t 28), none, 0⟩, ⟨some 30, .mv (.t 7), none, 0⟩, ⟨some 31, .sliceL 2 21 (.t 27) (some (.t 29)) (some (.t 30)) none, none, 0⟩, ⟨none, .clear [.int .i64 0, .int .u8 0, .int .u8 0, .int .u8 0, .int .u8 0, .int .u8 0, .int .u8 0, .int .u8 0, .int .u8 0, .int .u8 0, .int .u8 0, .int .u8 0, .int .u8 0, .int .u8 0, .int .u8 0, .int .u8 0, .int .u8 0, .int .i64 0, .int .i64 0, .int .i64 0, .int .i64 0] (.t 31), none, 0⟩] false []) (.seq (.region 0 [⟨some 32, .mv (.t 0), none, 0⟩, ⟨some 6, .mv (.t 32), none, 0⟩] false []) .ret))))))), false⟩
theorem c52 : cFunc Tryd.prog G f52 Tryd.f52 = some f52 := by kernel_rfl
/-- junctionbox/plan.leads$1 -/
def f57 : AFunc :=
⟨3, [], (.seq (.region 0 [⟨some 3, .boxY (.t 0), none, 0⟩] false []) (.seq (.region 0 [⟨some 5, .load 1 true (.t 1), none, 0⟩, ⟨some 6, .load 1 true (.t 2), none, 0⟩, ⟨some 7, .callR (.c (.clo 58 [])) [.t 5, .t 6, .c (.clo 59 [])] 1, none, 0⟩] false []) (.block 0 (.range (.t 7) [8] (.region 1 [⟨some 4, .alloc 53 [.int .i64 0, .int .u8 0, .int .u8 0, .int .u8 0, .int .u8 0, .int .u8 0, .int .u8 0, .int .u8 0, .int .u8 0, .int .u8 0, .int .u8 0, .int .u8 0, .int .u8 0, .int .u8 0, .int .u8 0, .int .u8 0, .int .u8 0, .int .i64 0, .int .i64 0, .int .i64 0, .int .i64 0] [], none, 0⟩, ⟨none, .store 21 (.t 4) (.t 8), none, 0⟩] false []) (.block 1 (.seq (.region 0 [⟨some 9, .loadY (.t 3), none, 0⟩, ⟨some 10, .faddr 0 (.t 4), none, 0⟩, ⟨some 11, .load 18 true (.t 10), none, 0⟩, ⟨some 12, .faddr 18 (.t 4), none, 0⟩, ⟨some 13, .load 1 false (.t 12), none, 0⟩, ⟨some 14, .build [.int .i64 0, .int .u8 0, .int .u8 0, .int .u8 0, .int .u8 0, .int .u8 0, .int .u8 0, .int .u8 0, .int .u8 0, .int .u8 0, .int .u8 0, .int .u8 0, .int .u8 0, .int .u8 0, .int .u8 0, .int .u8 0, .int .u8 0, .int .i64 0, .int .i64 0, .bool false, .int .i64 0, .int .i64 0] [(0, 18, .t 11), (18, 1, .t 13), (19, 1, .c (.bool true))] [], none, 0⟩, ⟨some 15, .callR (.t 9) [.t 14] 0, none, 0⟩, ⟨some 16, .not (.t 15), none, 0⟩] false []) (.cond (.t 16) .ret .skip))))))), false⟩
theorem c57 : cFunc Tryd.prog G f57 Tryd.f57 = some f57 := by kernel_rfl
end Go.Proofs.YtgajekpigkknnaaDoor.F
