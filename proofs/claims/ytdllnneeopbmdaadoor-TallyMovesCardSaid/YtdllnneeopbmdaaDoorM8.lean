/- Part 8 of the proofs of these statements. No condition. -/
import Derived.Test.YtdllnneeopbmdaaDoorM7
set_option linter.unusedVariables false
set_option linter.unusedSimpArgs false
/- Tallies and packets that are read. No condition. -/
set_option linter.unusedSimpArgs false
set_option maxRecDepth 20000
namespace Go.Proofs.YtdllnneeopbmdaaDoor.D
open Go Go.RowKit Go.Proofs.YtdllnneeopbmdaaDoor.A Go.Proofs.YtdllnneeopbmdaaDoor.J
variable {w : World} {P : Program} {t : TypeId} {v : Value}
theorem fits_cd {cs : List Value} (h : Fits (.i .i64 :: (k8 ++ [.i .i64, .i .u64, .i .u64])) cs) : ∃ r : Cd, cs.map avOf = dav r ∧ True := by
  match cs, h with
  | c :: cs, ⟨⟨n, hc, hn⟩, h2⟩ =>
    subst hc
    obtain ⟨a, b, rfl, h3, h4⟩ := fits_split k8 [.i .i64, .i .u64, .i .u64] cs h2
    clear h2
    obtain ⟨b16, hb⟩ := fits_b16 h3
    obtain ⟨d, e, f, rfl⟩ : ∃ d e f, b = [d, e, f] := by
      have h5 := h4.length
      match b, h5 with
      | [d, e, f], _ => exact ⟨d, e, f, rfl⟩
    obtain ⟨⟨m, hd, hm⟩, ⟨o, he, ho⟩, ⟨q, hf, hq⟩, _⟩ := h4
    subst hd; subst he; subst hf
    exact ⟨⟨⟨⟨n, b16⟩, m⟩, ⟨o, q⟩⟩, by simp only [List.map_cons, List.map_append, hb, avOf, dav, nav, List.map_nil], trivial⟩
theorem fits_pkt {cs : List Value} (h : Fits (.i .i64 :: (k8 ++ [.i .u64])) cs) : ∃ (a : Adr) (b : Int), cs.map avOf = kav a b := by
  match cs, h with
  | c :: cs, ⟨⟨n, hc, hn⟩, h2⟩ =>
    subst hc
    obtain ⟨a, b, rfl, h3, h4⟩ := fits_split k8 [.i .u64] cs h2
    clear h2
    obtain ⟨b16, hb⟩ := fits_b16 h3
    obtain ⟨d, rfl⟩ := List.length_eq_one_iff.1 h4.length.symm
    obtain ⟨⟨m, hd, hm⟩, _⟩ := h4
    subst hd
    exact ⟨⟨n, b16⟩, m, by simp only [List.map_cons, List.map_append, hb, avOf, kav, aav, List.map_nil, List.cons_append]⟩
theorem reads_pkt {fs : Array Field} {n : Nat} (h : Reads P w t v) (ht : P.underlying t = some (.struct fs)) (hf : flat P n t = some (.i .i64 :: (k8 ++ [.i .u64]))) : ∃ (a : Adr) (b : Int), Rep w (Old w) [] [] [] (.agg (kav a b)) v := by
  obtain ⟨cs, h1, h2⟩ := reads_flat h ht hf
  obtain ⟨a, b, h3⟩ := fits_pkt h1
  exact ⟨a, b, h3 ▸ h2⟩
theorem reads_tal {e ts tn : TypeId} {f g : Field} {n m : Nat} (h : Reads P w t v) (ht : P.underlying t = some (.struct #[f, g])) (hf0 : f.offset = 0) (hft : f.type = ts) (hg1 : g.offset = 1) (hgt : g.type = tn) (hc : P.cellsOf t = 3) (hcs : P.cellsOf ts = 1) (hcn : P.cellsOf tn = 2)
    (hts : P.underlying ts = some (.slice e)) (hk : 20 = P.cellsOf e) (hfe : flat P n e = some (.i .i64 :: (k8 ++ [.i .i64, .i .u64, .i .u64]))) (hfn : flat P m tn = some [.i .u64, .i .u64]) :
    ∃ (l : List Cd) (c : Cnt), l.length ≤ 9223372036854775807 ∧ Rep w (Old w) [] [] [] (.agg (.ro (drows l) :: nav c)) v := by
  obtain ⟨cs, rfl, hr⟩ := h.agg ht
  obtain ⟨h1, h2⟩ := hr.struct ht
  rw [hc] at h1
  obtain ⟨c, d1, d2, rfl⟩ : ∃ c d1 d2, cs = [c, d1, d2] := by
    match cs, h1 with
    | [c, d1, d2], _ => exact ⟨c, d1, d2, rfl⟩
  have h3 := h2 f (by simp)
  rw [hf0, hft, hcs] at h3
  have h4 := (h2 g (by simp))
  rw [hg1, hgt, hcn] at h4
  have h5 := h4.flat hfn
  simp only [List.drop_succ_cons, List.drop_zero, List.take_succ_cons, List.take_zero] at h5 h3
  obtain ⟨⟨x, hx, _⟩, ⟨y, hy, _⟩, _⟩ := h5
  subst hx; subst hy
  obtain ⟨a, cap, css, k4, k5, k6, k7, k8'⟩ := h3.slice hts hk (by decide)
  simp at k4
  subst k4
  obtain ⟨l, h9, h10, h11⟩ := rdc_slice (by decide) k5 k7 k8' hfe (fun cs h => fits_cd h)
  refine ⟨l, ⟨x, y⟩, by have := maxLen_le; omega, .agg _ _ (by simp [nav]) (by simp [Value.oneCell']) fun i z u hz hu => ?_⟩
  match i with
  | 0 => simp at hz hu; subst hz; subst hu; exact h11
  | 1 => simp [nav] at hz hu; subst hz; subst hu; exact .int _ _
  | 2 => simp [nav] at hz hu; subst hz; subst hu; exact .int _ _
  | i + 3 => simp [nav] at hz
end Go.Proofs.YtdllnneeopbmdaaDoor.D

/- Two tables that are read. No condition. -/
set_option linter.unusedSimpArgs false
set_option maxRecDepth 20000
namespace Go.Proofs.YtdllnneeopbmdaaDoor.D
open Go Go.RowKit Go.Proofs.YtdllnneeopbmdaaDoor.A Go.Proofs.YtdllnneeopbmdaaDoor.J
variable {w : World} {P : Program} {t : TypeId} {v : Value}
/-- A table within a struct: one cell. -/
theorem rdc_tab {tt ts e : TypeId} {f : Field} {n : Nat} {c : Value} (h : RdC P w tt [c]) (ht : P.underlying tt = some (.struct #[f])) (h0 : f.offset = 0) (hft : f.type = ts) (hcs : P.cellsOf ts = 1) (hts : P.underlying ts = some (.slice e)) (hk : 19 = P.cellsOf e) (hfe : flat P n e = some (.i .i64 :: (k8 ++ [.i .i64, .i .i64]))) :
    ∃ (l : List Rw) (u : Value), c = u ∧ u.oneCell' = true ∧ Rep w (Old w) [] [] [] (.ro (rrows l)) u := by
  have h1 := (h.struct ht).2 f (by simp)
  rw [h0, hft, hcs] at h1
  simp only [List.drop_zero, List.take_succ_cons, List.take_zero] at h1
  obtain ⟨a, cap, css, k4, k5, k6, k7, k8'⟩ := h1.slice hts hk (by decide)
  simp at k4
  subst k4
  obtain ⟨l, h9, h10, h11⟩ := rdc_slice (by decide) k5 k7 k8' hfe (fun cs h => fits_rw h)
  exact ⟨l, _, rfl, rfl, h11⟩
theorem reads_tabs {e ts tt : TypeId} {f g i : Field} {n : Nat} (h : Reads P w t v) (ht : P.underlying t = some (.struct #[f, g])) (hf0 : f.offset = 0) (hft : f.type = tt) (hg1 : g.offset = 1) (hgt : g.type = tt) (hc : P.cellsOf t = 2) (hct : P.cellsOf tt = 1)
    (htt : P.underlying tt = some (.struct #[i])) (hi0 : i.offset = 0) (hit : i.type = ts) (hcs : P.cellsOf ts = 1) (hts : P.underlying ts = some (.slice e)) (hk : 19 = P.cellsOf e) (hfe : flat P n e = some (.i .i64 :: (k8 ++ [.i .i64, .i .i64]))) :
    ∃ x y : List Rw, Rep w (Old w) [] [] [] (.agg [.ro (rrows x), .ro (rrows y)]) v := by
  obtain ⟨cs, rfl, hr⟩ := h.agg ht
  obtain ⟨h1, h2⟩ := hr.struct ht
  rw [hc] at h1
  obtain ⟨c, d, rfl⟩ : ∃ c d, cs = [c, d] := by
    match cs, h1 with
    | [c, d], _ => exact ⟨c, d, rfl⟩
  have h3 := h2 f (by simp)
  rw [hf0, hft, hct] at h3
  have h4 := (h2 g (by simp))
  rw [hg1, hgt, hct] at h4
  simp only [List.drop_succ_cons, List.drop_zero, List.take_succ_cons, List.take_zero] at h3 h4
  obtain ⟨x, u, rfl, o1, r1⟩ := rdc_tab h3 htt hi0 hit hcs hts hk hfe
  obtain ⟨y, u', rfl, o2, r2⟩ := rdc_tab h4 htt hi0 hit hcs hts hk hfe
  refine ⟨x, y, .agg _ _ rfl (by simp [o1, o2]) fun i z u hz hu => ?_⟩
  match i with
  | 0 => simp at hz hu; subst hz; subst hu; exact r1
  | 1 => simp at hz hu; subst hz; subst hu; exact r2
  | i + 2 => simp at hz
end Go.Proofs.YtdllnneeopbmdaaDoor.D
