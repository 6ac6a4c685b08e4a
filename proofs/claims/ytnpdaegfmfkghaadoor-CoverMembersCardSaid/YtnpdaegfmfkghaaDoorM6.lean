/- Part 6 of the proofs of these statements. No condition. -/
import Derived.Test.YtnpdaegfmfkghaaDoorM5
import Derived.IntWalk
import Derived.Lib.Bytealg
set_option linter.unusedVariables false
set_option linter.unusedSimpArgs false
/- Addresses, prefixes and rows as data, and their cells. No condition. -/
set_option linter.unusedSimpArgs false
namespace Go.Proofs.YtnpdaegfmfkghaaDoor.D
open Go Go.Proofs.YtnpdaegfmfkghaaDoor.A

structure B16 where
  l : List Nat
  len : l.length = 16
  rng : ∀ x ∈ l, x < 256
  deriving DecidableEq
structure Adr where
  ver : Int
  b : B16
  deriving DecidableEq
structure Pfx where
  adr : Adr
  bits : Int
  deriving DecidableEq
structure Rw where
  p : Pfx
  hop : Int
  deriving DecidableEq

def zerB : B16 := ⟨List.replicate 16 0, rfl, by decide⟩
def zerA : Adr := ⟨0, zerB⟩
def zerP : Pfx := ⟨zerA, 0⟩
def zerR : Rw := ⟨zerP, 0⟩

def u8c (x : Nat) : AV := .int .u8 (x : Int)
def bav (b : B16) : List AV := b.l.map u8c
def aav (a : Adr) : List AV := .int .i64 a.ver :: bav a.b
def pav (p : Pfx) : List AV := .int .i64 p.adr.ver :: (bav p.adr.b ++ [.int .i64 p.bits])
def rav (r : Rw) : List AV := .int .i64 r.p.adr.ver :: (bav r.p.adr.b ++ [.int .i64 r.p.bits, .int .i64 r.hop])

theorem bav_zer : bav zerB = [.int .u8 0, .int .u8 0, .int .u8 0, .int .u8 0, .int .u8 0, .int .u8 0, .int .u8 0, .int .u8 0, .int .u8 0, .int .u8 0, .int .u8 0, .int .u8 0, .int .u8 0, .int .u8 0, .int .u8 0, .int .u8 0] := rfl
theorem aav_zer : aav zerA = [.int .i64 0, .int .u8 0, .int .u8 0, .int .u8 0, .int .u8 0, .int .u8 0, .int .u8 0, .int .u8 0, .int .u8 0, .int .u8 0, .int .u8 0, .int .u8 0, .int .u8 0, .int .u8 0, .int .u8 0, .int .u8 0, .int .u8 0] := rfl
theorem pav_zer : pav zerP = [.int .i64 0, .int .u8 0, .int .u8 0, .int .u8 0, .int .u8 0, .int .u8 0, .int .u8 0, .int .u8 0, .int .u8 0, .int .u8 0, .int .u8 0, .int .u8 0, .int .u8 0, .int .u8 0, .int .u8 0, .int .u8 0, .int .u8 0, .int .i64 0] := rfl
theorem rav_zer : rav zerR = [.int .i64 0, .int .u8 0, .int .u8 0, .int .u8 0, .int .u8 0, .int .u8 0, .int .u8 0, .int .u8 0, .int .u8 0, .int .u8 0, .int .u8 0, .int .u8 0, .int .u8 0, .int .u8 0, .int .u8 0, .int .u8 0, .int .u8 0, .int .i64 0, .int .i64 0] := rfl

theorem bav_len (b : B16) : (bav b).length = 16 := by simp [bav, b.len]
theorem aav_len (a : Adr) : (aav a).length = 17 := by simp [aav, bav_len]
theorem pav_len (p : Pfx) : (pav p).length = 18 := by simp [pav, bav_len]
theorem rav_len (r : Rw) : (rav r).length = 19 := by simp [rav, bav_len]
theorem bav_data (b : B16) : dataL (bav b) = true := by
  simp only [dataL, bav, List.all_map, List.all_eq_true, Function.comp]
  intro x _; rfl
theorem all_data (l r : List AV) : dataL (l ++ r) = (dataL l && dataL r) := by simp [dataL]
theorem aav_data (a : Adr) : dataL (aav a) = true := by
  have := bav_data a.b; simp only [dataL, aav, List.all_cons, AV.isData, Bool.true_and] at *; exact this
theorem pav_data (p : Pfx) : dataL (pav p) = true := by
  have := bav_data p.adr.b
  simp only [dataL, pav, List.all_cons, AV.isData, Bool.true_and, List.all_append, List.all_nil, Bool.and_true] at *; exact this
theorem rav_data (r : Rw) : dataL (rav r) = true := by
  have := bav_data r.p.adr.b
  simp only [dataL, rav, List.all_cons, AV.isData, Bool.true_and, List.all_append, List.all_nil, Bool.and_true] at *; exact this
theorem below_append (m : Nat) : ∀ l r, belowL m (l ++ r) = (belowL m l && belowL m r)
  | [], r => by simp [belowL]
  | a :: l, r => by simp only [List.cons_append, belowL, below_append m l r, Bool.and_assoc]
theorem below_data (m : Nat) : ∀ {l : List AV}, dataL l = true → belowL m l = true
  | [], _ => rfl
  | a :: l, h => by
    simp only [dataL, List.all_cons, Bool.and_eq_true] at h
    simp only [belowL, below_data m (l := l) h.2, Bool.and_true]
    cases a <;> first | rfl | (have := h.1; cases this)
theorem bav_below (m : Nat) (b : B16) : belowL m (bav b) = true := below_data m (bav_data b)
theorem aav_below (m : Nat) (b : Adr) : belowL m (aav b) = true := below_data m (aav_data b)
theorem pav_below (m : Nat) (b : Pfx) : belowL m (pav b) = true := below_data m (pav_data b)
theorem rav_below (m : Nat) (b : Rw) : belowL m (rav b) = true := below_data m (rav_data b)

theorem pc_all (l : List AV) (n : Nat) (h : l.length = n) : piece l 0 n = some l := by
  unfold piece; rw [if_pos (by omega)]; subst h; simp
theorem bav_p (b : B16) : piece (bav b) 0 16 = some (bav b) := pc_all _ _ (bav_len b)
theorem aav_p (a : Adr) : piece (aav a) 0 17 = some (aav a) := pc_all _ _ (aav_len a)
theorem pav_p (p : Pfx) : piece (pav p) 0 18 = some (pav p) := pc_all _ _ (pav_len p)
theorem rav_p (r : Rw) : piece (rav r) 0 19 = some (rav r) := pc_all _ _ (rav_len r)
theorem aav_v (a : Adr) : piece (aav a) 0 1 = some [.int .i64 a.ver] := by
  unfold piece; rw [if_pos (by rw [aav_len]; omega)]; rfl
theorem pav_v (a : Pfx) : piece (pav a) 0 1 = some [.int .i64 a.adr.ver] := by
  unfold piece; rw [if_pos (by rw [pav_len]; omega)]; rfl
theorem rav_v (a : Rw) : piece (rav a) 0 1 = some [.int .i64 a.p.adr.ver] := by
  unfold piece; rw [if_pos (by rw [rav_len]; omega)]; rfl
theorem aav_b (a : Adr) : piece (aav a) 1 16 = some (bav a.b) := by
  unfold piece; rw [if_pos (by rw [aav_len]; omega)]
  have := bav_len a.b
  simp only [aav, List.drop_succ_cons, List.drop_zero]
  rw [← this, List.take_length]
theorem pav_b (a : Pfx) : piece (pav a) 1 16 = some (bav a.adr.b) := by
  unfold piece; rw [if_pos (by rw [pav_len]; omega)]
  have := bav_len a.adr.b
  simp only [pav, List.drop_succ_cons, List.drop_zero]
  rw [← this, List.take_left]
theorem rav_b (a : Rw) : piece (rav a) 1 16 = some (bav a.p.adr.b) := by
  unfold piece; rw [if_pos (by rw [rav_len]; omega)]
  have := bav_len a.p.adr.b
  simp only [rav, List.drop_succ_cons, List.drop_zero]
  rw [← this, List.take_left]
theorem pav_a (a : Pfx) : piece (pav a) 0 17 = some (aav a.adr) := by
  unfold piece; rw [if_pos (by rw [pav_len]; omega)]
  have := bav_len a.adr.b
  simp only [pav, aav, List.take_succ_cons, List.drop_zero]
  rw [← this, List.take_left]
theorem rav_a (a : Rw) : piece (rav a) 0 17 = some (aav a.p.adr) := by
  unfold piece; rw [if_pos (by rw [rav_len]; omega)]
  have := bav_len a.p.adr.b
  simp only [rav, aav, List.take_succ_cons, List.drop_zero]
  rw [← this, List.take_left]
theorem drop16 (b : B16) (r : List AV) (n : Nat) : (bav b ++ r).drop (16 + n) = r.drop n := by
  rw [← bav_len b, List.drop_append]; simp
theorem pav_n (a : Pfx) : piece (pav a) 17 1 = some [.int .i64 a.bits] := by
  unfold piece; rw [if_pos (by rw [pav_len]; omega)]
  simp only [pav, List.drop_succ_cons]
  rw [show (16 : Nat) = 16 + 0 from rfl, drop16]; rfl
theorem rav_n (a : Rw) : piece (rav a) 17 1 = some [.int .i64 a.p.bits] := by
  unfold piece; rw [if_pos (by rw [rav_len]; omega)]
  simp only [rav, List.drop_succ_cons]
  rw [show (16 : Nat) = 16 + 0 from rfl, drop16]; rfl
theorem rav_h (a : Rw) : piece (rav a) 18 1 = some [.int .i64 a.hop] := by
  unfold piece; rw [if_pos (by rw [rav_len]; omega)]
  simp only [rav, List.drop_succ_cons]
  rw [show (17 : Nat) = 16 + 1 from rfl, drop16]; rfl
theorem rav_pf (a : Rw) : piece (rav a) 0 18 = some (pav a.p) := by
  unfold piece; rw [if_pos (by rw [rav_len]; omega)]
  have := bav_len a.p.adr.b
  simp only [rav, pav, List.take_succ_cons, List.drop_zero]
  rw [show (17 : Nat) = (bav a.p.adr.b).length + 1 by rw [this], List.take_length_add_append]; rfl

def B16.get (b : B16) (n : Nat) : Nat := b.l.getD n 0
theorem B16.get_lt (b : B16) (n : Nat) : b.get n < 256 := by
  unfold B16.get
  rw [List.getD_eq_getElem?_getD]
  cases h : b.l[n]? with
  | none => simp
  | some x => simpa using b.rng x (List.mem_of_getElem? h)
theorem B16.get_some (b : B16) {n : Nat} (h : n < 16) : b.l[n]? = some (b.get n) := by
  have h' : n < b.l.length := by rw [b.len]; exact h
  simp [B16.get, List.getElem?_eq_getElem h']
theorem bav_i (b : B16) (n : Nat) (h : n < 16) : piece (bav b) n 1 = some [.int .u8 (b.get n : Int)] := by
  unfold piece; rw [if_pos (by rw [bav_len]; omega)]
  have h' : n < (bav b).length := by rw [bav_len]; exact h
  rw [List.drop_eq_getElem_cons h']
  have : (bav b)[n]? = some (u8c (b.get n)) := by simp [bav, b.get_some h]
  rw [List.getElem?_eq_getElem h'] at this
  rw [Option.some.inj this]
  rfl
theorem B16.ext' {a b : B16} (h : ∀ n < 16, a.get n = b.get n) : a = b := by
  have : a.l = b.l := List.ext_getElem? fun n => by
    by_cases hn : n < 16
    · rw [a.get_some hn, b.get_some hn, h n hn]
    · rw [List.getElem?_eq_none (by rw [a.len]; omega), List.getElem?_eq_none (by rw [b.len]; omega)]
  cases a; cases b; simp only [B16.mk.injEq]; exact this
def B16.put (b : B16) (n v : Nat) : B16 := if h : v < 256 then ⟨b.l.set n v, by simp [b.len], fun x hx => by
  rcases List.mem_or_eq_of_mem_set hx with h' | h'
  · exact b.rng x h'
  · omega⟩ else b
theorem B16.get_put (b : B16) {n v k : Nat} (hn : n < 16) (hv : v < 256) : (b.put n v).get k = if k = n then v else b.get k := by
  unfold B16.put; rw [dif_pos hv]
  simp only [B16.get, List.getD_eq_getElem?_getD, List.getElem?_set]
  by_cases h : n = k
  · subst h; simp [b.len, hn]
  · rw [if_neg h, if_neg (fun e => h e.symm)]
theorem bav_put (b : B16) {n v : Nat} (hn : n < 16) (hv : v < 256) : ovr (bav b) n [.int .u8 (v : Int)] = some (bav (b.put n v)) := by
  unfold ovr
  rw [if_pos (by simp [bav_len]; omega)]
  unfold B16.put; rw [dif_pos hv]
  have h' : n < (bav b).length := by rw [bav_len]; exact hn
  show some ((bav b).take n ++ [u8c v] ++ (bav b).drop (n + 1)) = _
  simp only [bav, List.map_set]
  rw [List.set_eq_take_append_cons_drop, if_pos (by simpa [bav] using h')]
  simp
def gen (f : Nat → Nat) : B16 := ⟨(List.range 16).map (fun i => f i % 256), by simp, fun x hx => by
  obtain ⟨i, _, rfl⟩ := List.mem_map.1 hx; exact Nat.mod_lt _ (by decide)⟩
theorem gen_get (f : Nat → Nat) {n : Nat} (h : n < 16) : (gen f).get n = f n % 256 := by
  simp [gen, B16.get, List.getD_eq_getElem?_getD, h]

/-! ### Bits -/
def bit (b : B16) (k : Nat) : Bool := (b.get (k / 8)).testBit (7 - k % 8)
theorem byte_ext {x y : Nat} (hx : x < 256) (hy : y < 256) (h : ∀ j < 8, x.testBit j = y.testBit j) : x = y := by
  apply Nat.eq_of_testBit_eq
  intro j
  by_cases hj : j < 8
  · exact h j hj
  · rw [Nat.testBit_lt_two_pow (Nat.lt_of_lt_of_le hx (Nat.pow_le_pow_right (n := 2) (by decide) (show 8 ≤ j by omega))), Nat.testBit_lt_two_pow (Nat.lt_of_lt_of_le hy (Nat.pow_le_pow_right (n := 2) (by decide) (show 8 ≤ j by omega)))]
theorem bits_ext {a b : B16} (h : ∀ k < 128, bit a k = bit b k) : a = b := by
  apply B16.ext'
  intro n hn
  apply byte_ext (a.get_lt n) (b.get_lt n)
  intro j hj
  have := h (8 * n + (7 - j)) (by omega)
  unfold bit at this
  rw [show (8 * n + (7 - j)) / 8 = n by omega, show 7 - (8 * n + (7 - j)) % 8 = j by omega] at this
  exact this
def Clr (b : B16) (n : Nat) : Prop := ∀ k, n ≤ k → k < 128 → bit b k = false
instance {b : B16} {n : Nat} : Decidable (Clr b n) := decidable_of_iff (∀ k, k < 128 → n ≤ k → bit b k = false) ⟨fun h k h1 h2 => h k h2 h1, fun h k h1 h2 => h k h2 h1⟩
def width (v : Int) : Nat := if v = 4 then 32 else if v = 6 then 128 else 0
theorem width_le (v : Int) : width v ≤ 128 := by unfold width; split <;> (try split) <;> omega
def AddrOk (a : Adr) : Prop := width a.ver ≠ 0 ∧ Clr a.b (width a.ver)
instance {a : Adr} : Decidable (AddrOk a) := by unfold AddrOk; infer_instance
def PfxOk (p : Pfx) : Prop := AddrOk p.adr ∧ 0 ≤ p.bits ∧ p.bits ≤ width p.adr.ver ∧ Clr p.adr.b p.bits.toNat
instance {p : Pfx} : Decidable (PfxOk p) := by unfold PfxOk; infer_instance
def cutN (x n : Nat) : Nat := x / 2 ^ (8 - n) * 2 ^ (8 - n)
def cut (b : B16) (n : Nat) : B16 := gen fun i => cutN (b.get i) (n - 8 * i)
def Has (p : Pfx) (a : Adr) : Prop := PfxOk p ∧ AddrOk a ∧ p.adr.ver = a.ver ∧ cut a.b p.bits.toNat = p.adr.b
instance {p : Pfx} {a : Adr} : Decidable (Has p a) := by unfold Has; infer_instance
def Holds (p q : Pfx) : Prop := PfxOk q ∧ p.bits ≤ q.bits ∧ Has p q.adr
instance {p q : Pfx} : Decidable (Holds p q) := by unfold Holds; infer_instance
theorem cutN_le (x n : Nat) : cutN x n ≤ x := Nat.div_mul_le_self _ _
theorem cutN_bit (x n j : Nat) : (cutN x n).testBit j = (decide (8 - n ≤ j) && x.testBit j) := by
  unfold cutN
  rw [← Nat.shiftLeft_eq, ← Nat.shiftRight_eq_div_pow, Nat.testBit_shiftLeft, Nat.testBit_shiftRight]
  by_cases h : 8 - n ≤ j
  · simp [h, show 8 - n + (j - (8 - n)) = j by omega]
  · simp [h]
theorem cut_get (b : B16) (n : Nat) {i : Nat} (h : i < 16) : (cut b n).get i = cutN (b.get i) (n - 8 * i) := by
  unfold cut
  rw [gen_get _ h, Nat.mod_eq_of_lt (Nat.lt_of_le_of_lt (cutN_le _ _) (b.get_lt i))]
theorem cut_bit (b : B16) (n : Nat) {k : Nat} (h : k < 128) : bit (cut b n) k = (decide (k < n) && bit b k) := by
  unfold bit
  rw [cut_get b n (by omega), cutN_bit]
  congr 1
  apply decide_eq_decide.2
  omega
theorem has_bits {p : Pfx} {a : B16} {n : Nat} (hc : Clr p.adr.b n) : cut a n = p.adr.b ↔ ∀ i < n, i < 128 → bit p.adr.b i = bit a i := by
  constructor
  · intro h i hi h2
    rw [← h, cut_bit a n h2]; simp [hi]
  · intro h
    apply bits_ext
    intro k hk
    rw [cut_bit a n hk]
    by_cases hn : k < n
    · simp [hn, h k hn hk]
    · simp [hn, hc k (by omega) hk]

/-! ### Whole numbers in the machine -/
theorem quo8 (k : Nat) (h : k ≤ 9223372036854775807) : IntKind.i64.wrap ((k : Int).tdiv 8) = ((k / 8 : Nat) : Int) := by
  rw [IntWalk.i64_quo _ _ (by omega)]; omega
theorem rem8 (k : Nat) : (k : Int).tmod 8 = ((k % 8 : Nat) : Int) := by
  rw [Int.tmod_eq_emod_of_nonneg (by omega)]; omega
theorem sub7 (k : Nat) : IntKind.i64.wrap (7 - ((k % 8 : Nat) : Int)) = ((7 - k % 8 : Nat) : Int) := by
  rw [IntWalk.i64_in _ (by omega)]; omega
theorem shrN (x j : Nat) (h : j ≤ 8) : ((x : Int).fdiv (2 ^ (Nat.min j 8))) = ((x / 2 ^ j : Nat) : Int) := by
  rw [show Nat.min j 8 = j from Nat.min_eq_left h, Int.fdiv_eq_ediv_of_nonneg _ (Int.pow_nonneg (by decide))]
  simp
theorem and1 (x : Nat) (h : x < 256) : bits2 .and .u8 (x : Int) 1 = some ((x % 2 : Nat) : Int) := by
  have : ∀ x < 256, bits2 .and .u8 ((x : Nat) : Int) 1 = some ((x % 2 : Nat) : Int) := by decide +kernel
  exact this x h
theorem bit_and (b : B16) (k : Nat) : (((b.get (k / 8) / 2 ^ (7 - k % 8)) % 2 : Nat) : Int) = if bit b k then 1 else 0 := by
  unfold bit
  rw [Nat.testBit_eq_decide_div_mod_eq]
  have := Nat.mod_two_eq_zero_or_one (b.get (k / 8) / 2 ^ (7 - k % 8))
  rcases this with h | h <;> rw [h] <;> simp

theorem eqInts (k : IntKind) : ∀ (l r : List Int), l.length = r.length → eqCells (List.replicate l.length 1) (l.map (.int k)) (r.map (.int k)) = some (decide (l = r))
  | [], [], _ => rfl
  | a :: l, b :: r, h => by
    simp only [List.length_cons, List.replicate_succ, List.map_cons, eqCells, A.kindOk, if_true, eqCell, eqInts k l r (by simpa using h), List.cons.injEq, Option.some.injEq]
    by_cases h1 : a = b <;> by_cases h2 : l = r <;> simp [h1, h2]
  | [], _ :: _, h => by simp at h
  | _ :: _, [], h => by simp at h
theorem eqCells_append : ∀ (k1 k2 : List Nat) (a b c d : List AV), k1.length = a.length → a.length = c.length → eqCells (k1 ++ k2) (a ++ b) (c ++ d) = match eqCells k1 a c, eqCells k2 b d with
    | some x, some y => some (x && y)
    | _, _ => none
  | [], k2, [], b, [], d, _, _ => by
    simp only [List.nil_append, eqCells]
    cases eqCells k2 b d <;> simp
  | n :: k1, k2, x :: a, b, y :: c, d, h1, h2 => by
    simp only [List.cons_append, eqCells]
    rw [eqCells_append k1 k2 a b c d (by simpa using h1) (by simpa using h2)]
    cases A.kindOk n x <;> simp only [Bool.false_eq_true, if_false, if_true]
    cases eqCell x y <;> cases eqCells k1 a c <;> cases eqCells k2 b d <;> simp [Bool.and_assoc]
  | [], _, _ :: _, _, _, _, h, _ => by simp at h
  | _ :: _, _, [], _, _, _, h, _ => by simp at h
  | _, _, [], _, _ :: _, _, _, h => by simp at h
  | _, _, _ :: _, _, [], _, _, h => by simp at h
theorem bav_ints (b : B16) : bav b = (b.l.map (fun x : Nat => (x : Int))).map (.int .u8) := by simp only [bav, List.map_map]; rfl
theorem eq_bav (a b : B16) : eqCells [1, 1, 1, 1, 1, 1, 1, 1, 1, 1, 1, 1, 1, 1, 1, 1] (bav a) (bav b) = some (decide (a = b)) := by
  have h := eqInts .u8 (a.l.map fun x : Nat => (x : Int)) (b.l.map fun x : Nat => (x : Int)) (by simp [a.len, b.len])
  rw [← bav_ints, ← bav_ints] at h
  simp only [List.length_map, a.len] at h
  refine h.trans (congrArg some (decide_eq_decide.2 ?_))
  constructor
  · intro h
    have : a.l = b.l := List.map_inj_right (fun x y h => Int.ofNat.inj h) |>.1 h
    cases a; cases b; simp only [B16.mk.injEq]; exact this
  · intro h; rw [h]
theorem eq1 (k : IntKind) (x y : Int) : eqCells [1] [.int k x] [.int k y] = some (decide (x = y)) := by
  simp only [eqCells, A.kindOk, if_true, eqCell, Bool.and_true, Option.some.injEq]
  by_cases h : x = y <;> simp [h]
theorem eq2 (k : IntKind) (x y z w : Int) : eqCells [1, 1] [.int k x, .int k z] [.int k y, .int k w] = some (decide (x = y) && decide (z = w)) := by
  simp only [eqCells, A.kindOk, if_true, eqCell, Bool.and_true, Option.some.injEq]
  by_cases h : x = y <;> by_cases h2 : z = w <;> simp [h, h2]
theorem eq_aav (a b : Adr) : eqCells [1, 1, 1, 1, 1, 1, 1, 1, 1, 1, 1, 1, 1, 1, 1, 1, 1] (aav a) (aav b) = some (decide (a = b)) := by
  have := eqCells_append [1] [1, 1, 1, 1, 1, 1, 1, 1, 1, 1, 1, 1, 1, 1, 1, 1] [.int .i64 a.ver] (bav a.b) [.int .i64 b.ver] (bav b.b) rfl rfl
  rw [eq1, eq_bav] at this
  refine this.trans (congrArg some ?_)
  obtain ⟨v, x⟩ := a; obtain ⟨w, y⟩ := b
  by_cases h1 : v = w <;> by_cases h2 : x = y <;> simp [h1, h2]
theorem eq_pav (a b : Pfx) : eqCells [1, 1, 1, 1, 1, 1, 1, 1, 1, 1, 1, 1, 1, 1, 1, 1, 1, 1] (pav a) (pav b) = some (decide (a = b)) := by
  have := eqCells_append [1, 1, 1, 1, 1, 1, 1, 1, 1, 1, 1, 1, 1, 1, 1, 1, 1] [1] (aav a.adr) [.int .i64 a.bits] (aav b.adr) [.int .i64 b.bits] (by rw [aav_len]; rfl) (by rw [aav_len, aav_len])
  rw [eq1, eq_aav] at this
  refine this.trans (congrArg some ?_)
  obtain ⟨v, x⟩ := a; obtain ⟨w, y⟩ := b
  by_cases h1 : v = w <;> by_cases h2 : x = y <;> simp [h1, h2]
theorem eq_rav (a b : Rw) : eqCells [1, 1, 1, 1, 1, 1, 1, 1, 1, 1, 1, 1, 1, 1, 1, 1, 1, 1, 1] (rav a) (rav b) = some (decide (a = b)) := by
  have := eqCells_append [1, 1, 1, 1, 1, 1, 1, 1, 1, 1, 1, 1, 1, 1, 1, 1, 1, 1] [1] (pav a.p) [.int .i64 a.hop] (pav b.p) [.int .i64 b.hop] (by rw [pav_len]; rfl) (by rw [pav_len, pav_len])
  have e : ∀ a : Rw, pav a.p ++ [.int .i64 a.hop] = rav a := fun a => by simp [pav, rav]
  rw [eq1, eq_pav, e, e] at this
  refine this.trans (congrArg some ?_)
  obtain ⟨v, x⟩ := a; obtain ⟨w, y⟩ := b
  by_cases h1 : v = w <;> by_cases h2 : x = y <;> simp [h1, h2]

theorem and255 (x d : Nat) (hx : x < 256) (hd : d ≤ 8) : bits2 .and .u8 (x : Int) (IntKind.u8.wrap (255 * 2 ^ (Nat.min d 8))) = some ((x / 2 ^ d * 2 ^ d : Nat) : Int) := by
  have : ∀ x < 256, ∀ d < 9, bits2 .and .u8 ((x : Nat) : Int) (IntKind.u8.wrap (255 * 2 ^ (Nat.min d 8))) = some ((x / 2 ^ d * 2 ^ d : Nat) : Int) := by decide +kernel
  exact this x hx d (by omega)
def cutTo (b : B16) (n k : Nat) : B16 := gen fun i => if i < k then cutN (b.get i) (n - 8 * i) else b.get i
theorem cutTo_get (b : B16) (n k : Nat) {i : Nat} (h : i < 16) : (cutTo b n k).get i = if i < k then cutN (b.get i) (n - 8 * i) else b.get i := by
  unfold cutTo
  rw [gen_get _ h, Nat.mod_eq_of_lt]
  split
  · exact Nat.lt_of_le_of_lt (cutN_le _ _) (b.get_lt i)
  · exact b.get_lt i
theorem cutTo_0 (b : B16) (n : Nat) : cutTo b n 0 = b := B16.ext' fun i hi => by rw [cutTo_get _ _ _ hi, if_neg (by omega)]
theorem cutTo_16 (b : B16) (n : Nat) : cutTo b n 16 = cut b n := B16.ext' fun i hi => by rw [cutTo_get _ _ _ hi, if_pos hi, cut_get _ _ hi]
theorem cutTo_put (b : B16) (n k : Nat) {v : Nat} (hk : k < 16) (hv : v = cutN (b.get k) (n - 8 * k)) : (cutTo b n k).put k v = cutTo b n (k + 1) := B16.ext' fun i hi => by
  rw [B16.get_put _ hk (by rw [hv]; exact Nat.lt_of_le_of_lt (cutN_le _ _) (b.get_lt k)), cutTo_get _ _ _ hi, cutTo_get _ _ _ hi]
  by_cases h : i = k
  · subst h; simp [hv]
  · rw [if_neg h]
    by_cases h2 : i < k
    · rw [if_pos h2, if_pos (by omega)]
    · rw [if_neg h2, if_neg (by omega)]
theorem cutTo_same (b : B16) (n k : Nat) (hv : b.get k = cutN (b.get k) (n - 8 * k)) : cutTo b n k = cutTo b n (k + 1) := B16.ext' fun i hi => by
  rw [cutTo_get _ _ _ hi, cutTo_get _ _ _ hi]
  by_cases h : i = k
  · subst h; simp [← hv]
  · by_cases h2 : i < k
    · rw [if_pos h2, if_pos (by omega)]
    · rw [if_neg h2, if_neg (by omega)]
theorem bav_put0 (b : B16) {n : Nat} (hn : n < 16) : ovr (bav b) n [.int .u8 0] = some (bav (b.put n 0)) := bav_put b hn (by decide)
theorem ovr_all (l r : List AV) (h : l.length = r.length) : ovr l 0 r = some r := by
  unfold ovr; rw [if_pos (by omega)]; simp [h]
theorem bav_o (l : List AV) (b : B16) (h : l.length = 16) : ovr l 0 (bav b) = some (bav b) := ovr_all _ _ (by rw [h, bav_len])
theorem aav_o (l : List AV) (b : Adr) (h : l.length = 17) : ovr l 0 (aav b) = some (aav b) := ovr_all _ _ (by rw [h, aav_len])
theorem pav_o (l : List AV) (b : Pfx) (h : l.length = 18) : ovr l 0 (pav b) = some (pav b) := ovr_all _ _ (by rw [h, pav_len])
theorem rav_o (l : List AV) (b : Rw) (h : l.length = 19) : ovr l 0 (rav b) = some (rav b) := ovr_all _ _ (by rw [h, rav_len])
theorem aav_ob (a : Adr) (b : B16) : ovr (aav a) 1 (bav b) = some (aav ⟨a.ver, b⟩) := by
  unfold ovr; rw [if_pos (by rw [aav_len, bav_len]; omega)]
  simp only [aav, bav_len, List.take_succ_cons, List.take_zero, List.cons_append, List.nil_append, List.drop_succ_cons]
  rw [List.drop_eq_nil_of_le (by rw [bav_len]; omega)]; simp
theorem pav_oa (p : Pfx) (a : Adr) : ovr (pav p) 0 (aav a) = some (pav ⟨a, p.bits⟩) := by
  unfold ovr; rw [if_pos (by rw [pav_len, aav_len]; omega)]
  simp only [aav_len, List.take_zero, List.nil_append, Nat.zero_add]
  simp only [pav, aav, List.drop_succ_cons]
  rw [show (16 : Nat) = 16 + 0 from rfl, drop16]; rfl
theorem pav_on (p : Pfx) (n : Int) : ovr (pav p) 17 [.int .i64 n] = some (pav ⟨p.adr, n⟩) := by
  unfold ovr; rw [if_pos (by rw [pav_len]; simp)]
  have h := bav_len p.adr.b
  simp only [pav, List.take_succ_cons, List.length_cons, List.length_nil, List.drop_succ_cons]
  rw [show (bav p.adr.b ++ [AV.int IntKind.i64 p.bits]).take 16 = bav p.adr.b by rw [← h, List.take_left], show (17 : Nat) = 16 + 1 from rfl, drop16]; simp
theorem DB : (((((type_of% (@bav_len) ∧ type_of% (@aav_len)) ∧ (type_of% (@pav_len) ∧ type_of% (@rav_len))) ∧ ((type_of% (@bav_data) ∧ type_of% (@aav_data)) ∧ (type_of% (@pav_data) ∧ type_of% (@rav_data)))) ∧ (((type_of% (@bav_p) ∧ type_of% (@aav_p)) ∧ (type_of% (@pav_p) ∧ type_of% (@rav_p))) ∧ ((type_of% (@aav_v) ∧ type_of% (@pav_v)) ∧ (type_of% (@rav_v) ∧ (type_of% (@aav_b) ∧ type_of% (@pav_b)))))) ∧ ((((type_of% (@rav_b) ∧ type_of% (@pav_a)) ∧ (type_of% (@rav_a) ∧ type_of% (@pav_n))) ∧ ((type_of% (@rav_n) ∧ type_of% (@rav_h)) ∧ (type_of% (@rav_pf) ∧ (type_of% (@bav_o) ∧ type_of% (@pav_o))))) ∧ (((type_of% (@aav_o) ∧ type_of% (@rav_o)) ∧ (type_of% (@aav_ob) ∧ type_of% (@pav_oa))) ∧ ((type_of% (@pav_on) ∧ type_of% (@eq_bav)) ∧ (type_of% (@eq_aav) ∧ (type_of% (@eq_pav) ∧ type_of% (@eq_rav))))))) := ⟨⟨⟨⟨⟨@bav_len, @aav_len⟩, ⟨@pav_len, @rav_len⟩⟩, ⟨⟨@bav_data, @aav_data⟩, ⟨@pav_data, @rav_data⟩⟩⟩, ⟨⟨⟨@bav_p, @aav_p⟩, ⟨@pav_p, @rav_p⟩⟩, ⟨⟨@aav_v, @pav_v⟩, ⟨@rav_v, ⟨@aav_b, @pav_b⟩⟩⟩⟩⟩, ⟨⟨⟨⟨@rav_b, @pav_a⟩, ⟨@rav_a, @pav_n⟩⟩, ⟨⟨@rav_n, @rav_h⟩, ⟨@rav_pf, ⟨@bav_o, @pav_o⟩⟩⟩⟩, ⟨⟨⟨@aav_o, @rav_o⟩, ⟨@aav_ob, @pav_oa⟩⟩, ⟨⟨@pav_on, @eq_bav⟩, ⟨@eq_aav, ⟨@eq_pav, @eq_rav⟩⟩⟩⟩⟩⟩
theorem LPB : ((((type_of% (@refs_int) ∧ (type_of% (@refs_bool) ∧ type_of% (@refs_str))) ∧ ((type_of% (@refs_ro) ∧ type_of% (@refs_clip)) ∧ (type_of% (@refs_nilf) ∧ type_of% (@refs_nilp)))) ∧ ((type_of% (@refs_rp) ∧ (type_of% (@refs_yld) ∧ type_of% (@refs_refs))) ∧ ((type_of% (@refs_rq) ∧ type_of% (@belowR_nil)) ∧ (type_of% (@belowR_cons) ∧ type_of% (@refs_ptr))))) ∧ (((type_of% (@refs_lis) ∧ (type_of% (@refs_clo) ∧ type_of% (@refs_agg))) ∧ ((type_of% (@refs_tup) ∧ type_of% (@below_nil)) ∧ (type_of% (@below_cons) ∧ type_of% (@bref_dead)))) ∧ (((type_of% (@bref_box) ∧ type_of% (@bref_lst)) ∧ (type_of% (@ball_nil) ∧ type_of% (@ball_cons))) ∧ ((type_of% (@bav_below) ∧ type_of% (@aav_below)) ∧ (type_of% (@pav_below) ∧ type_of% (@rav_below)))))) := ⟨⟨⟨⟨@refs_int, ⟨@refs_bool, @refs_str⟩⟩, ⟨⟨@refs_ro, @refs_clip⟩, ⟨@refs_nilf, @refs_nilp⟩⟩⟩, ⟨⟨@refs_rp, ⟨@refs_yld, @refs_refs⟩⟩, ⟨⟨@refs_rq, @belowR_nil⟩, ⟨@belowR_cons, @refs_ptr⟩⟩⟩⟩, ⟨⟨⟨@refs_lis, ⟨@refs_clo, @refs_agg⟩⟩, ⟨⟨@refs_tup, @below_nil⟩, ⟨@below_cons, @bref_dead⟩⟩⟩, ⟨⟨⟨@bref_box, @bref_lst⟩, ⟨@ball_nil, @ball_cons⟩⟩, ⟨⟨@bav_below, @aav_below⟩, ⟨@pav_below, @rav_below⟩⟩⟩⟩⟩
end Go.Proofs.YtnpdaegfmfkghaaDoor.D

/- The order of prefixes, as data. No condition. -/
set_option linter.unusedSimpArgs false
namespace Go.Proofs.YtnpdaegfmfkghaaDoor.D
open Go Go.Proofs.YtnpdaegfmfkghaaDoor.A
def lexL : List Int → List Int → Int
  | a :: l, b :: r => if a < b then -1 else if b < a then 1 else lexL l r
  | _, _ => 0
def ints (b : B16) : List Int := b.l.map fun x : Nat => (x : Int)
def key (p : Pfx) : List Int := p.adr.ver :: (ints p.adr.b ++ [p.bits])
def cmpP (p q : Pfx) : Int := lexL (key p) (key q)
theorem ints_len (b : B16) : (ints b).length = 16 := by simp [ints, b.len]
theorem key_len (p : Pfx) : (key p).length = 18 := by simp [key, ints_len]
theorem lex_bytes : ∀ (l r : List Nat), l.length = r.length → (∀ x ∈ l, x < 256) → (∀ x ∈ r, x < 256) → Lib.compareBytes (l.map Nat.toUInt8) (r.map Nat.toUInt8) = lexL (l.map fun x : Nat => (x : Int)) (r.map fun x : Nat => (x : Int))
  | [], [], _, _, _ => rfl
  | a :: l, b :: r, h, h1, h2 => by
    have ih := lex_bytes l r (by simpa using h) (fun x hx => h1 x (List.mem_cons_of_mem _ hx)) (fun x hx => h2 x (List.mem_cons_of_mem _ hx))
    have ha := h1 a List.mem_cons_self
    have hb := h2 b List.mem_cons_self
    simp only [List.map_cons, lexL, Lib.compareBytes, ih]
    have e : ∀ x y : Nat, x < 256 → y < 256 → (x.toUInt8 < y.toUInt8 ↔ (x : Int) < (y : Int)) := fun x y hx hy => by
      rw [UInt8.lt_iff_toNat_lt]
      simp only [Nat.toUInt8_eq, UInt8.toNat_ofNat', Nat.reducePow]
      rw [Nat.mod_eq_of_lt hx, Nat.mod_eq_of_lt hy]; omega
    simp only [e a b ha hb, e b a hb ha]
  | [], _ :: _, h, _, _ => by simp at h
  | _ :: _, [], h, _, _ => by simp at h
def brows (b : B16) : List (List AV) := (bav b).map fun c => [c]
theorem brows_bytes (b : B16) : (brows b).mapM A.byteOf = some (b.l.map Nat.toUInt8) := by
  unfold brows bav
  rw [List.map_map]
  have : ∀ l : List Nat, (l.map ((fun c => [c]) ∘ u8c)).mapM A.byteOf = some (l.map Nat.toUInt8) := fun l => by
    induction l with
    | nil => rfl
    | cons a l ih => rw [List.map_cons, mapO_cons, ih]; rfl
  exact this b.l
theorem cmp_b16 (a b : B16) : pCmp [.ro (brows a), .ro (brows b)] [] = some (.int .i64 (lexL (ints a) (ints b)), []) := by
  simp only [pCmp, rowsOf, brows_bytes]
  rw [Lib.cmp_eq]
  exact congrArg (fun x => some (AV.int .i64 x, [])) (lex_bytes a.l b.l (by rw [a.len, b.len]) a.rng b.rng)
theorem lex_range : ∀ l r, lexL l r = -1 ∨ lexL l r = 0 ∨ lexL l r = 1
  | a :: l, b :: r => by
    unfold lexL
    split
    · exact Or.inl rfl
    · split
      · exact Or.inr (Or.inr rfl)
      · exact lex_range l r
  | [], _ => Or.inr (Or.inl rfl)
  | _ :: _, [] => Or.inr (Or.inl rfl)
theorem lex_append : ∀ (a b c d : List Int), a.length = b.length → lexL (a ++ c) (b ++ d) = if lexL a b ≠ 0 then lexL a b else lexL c d
  | [], [], c, d, _ => by simp [lexL]
  | x :: a, y :: b, c, d, h => by
    simp only [List.cons_append, lexL, lex_append a b c d (by simpa using h)]
    by_cases h1 : x < y
    · simp [h1]
    · by_cases h2 : y < x
      · simp [h1, h2]
      · simp [h1, h2]
  | [], _ :: _, _, _, h => by simp at h
  | _ :: _, [], _, _, h => by simp at h
theorem mutIds_data {l : List AV} (h : dataL l = true) : mutIds l = [] := by
  induction l with
  | nil => rfl
  | cons a l ih =>
    simp only [data_cons, Bool.and_eq_true] at h
    cases a <;> first | exact ih h.2 | (have := h.1; cases this)
theorem mutIds_pav (p : Pfx) : mutIds (pav p) = [] := mutIds_data (pav_data p)
theorem mutIds_aav (p : Adr) : mutIds (aav p) = [] := mutIds_data (aav_data p)
theorem mutIds_rav (p : Rw) : mutIds (rav p) = [] := mutIds_data (rav_data p)
theorem mutIds_bav (p : B16) : mutIds (bav p) = [] := mutIds_data (bav_data p)
theorem lex_anti : ∀ l r : List Int, lexL l r = - lexL r l
  | a :: l, b :: r => by
    simp only [lexL]
    by_cases h1 : a < b
    · simp [h1, show ¬ b < a by omega]
    · by_cases h2 : b < a
      · simp [h1, h2]
      · simp [h1, h2, lex_anti l r]
  | [], [] => rfl
  | [], _ :: _ => rfl
  | _ :: _, [] => rfl
theorem lex_self (l : List Int) : lexL l l = 0 := by
  have := lex_anti l l; omega
theorem lex_zero : ∀ {l r : List Int}, l.length = r.length → lexL l r = 0 → l = r
  | [], [], _, _ => rfl
  | a :: l, b :: r, h, h0 => by
    simp only [lexL] at h0
    by_cases h1 : a < b
    · simp [h1] at h0
    · by_cases h2 : b < a
      · simp [h1, h2] at h0
      · simp only [h1, h2, if_false] at h0
        rw [lex_zero (by simpa using h) h0, show a = b by omega]
  | [], _ :: _, h, _ => by simp at h
  | _ :: _, [], h, _ => by simp at h
theorem lex_trans : ∀ {l r s : List Int}, l.length = r.length → r.length = s.length → lexL l r < 0 → lexL r s < 0 → lexL l s < 0
  | [], [], [], _, _, h, _ => by simp [lexL] at h
  | a :: l, b :: r, c :: s, h1, h2, h3, h4 => by
    simp only [lexL] at h3 h4 ⊢
    have ih := lex_trans (l := l) (r := r) (s := s) (by simpa using h1) (by simpa using h2)
    by_cases e1 : a < b
    · by_cases e2 : b < c
      · simp [show a < c by omega]
      · by_cases e3 : c < b
        · simp [e2, e3] at h4
        · simp [show a < c by omega]
    · by_cases e2 : b < a
      · simp [e1, e2] at h3
      · simp only [e1, e2, if_false] at h3
        by_cases e3 : b < c
        · simp [show a < c by omega]
        · by_cases e4 : c < b
          · simp [e3, e4] at h4
          · simp only [e3, e4, if_false] at h4
            simp only [show ¬ a < c by omega, show ¬ c < a by omega, if_false]
            exact ih h3 h4
  | [], _ :: _, _, h, _, _, _ => by simp at h
  | _ :: _, [], _, h, _, _, _ => by simp at h
  | _, [], _ :: _, _, h, _, _ => by simp at h
  | _, _ :: _, [], _, h, _, _ => by simp at h
theorem key_inj {p q : Pfx} (h : key p = key q) : p = q := by
  obtain ⟨⟨v, ⟨l, hl, _⟩⟩, n⟩ := p
  obtain ⟨⟨w, ⟨r, hr, _⟩⟩, m⟩ := q
  simp only [key, ints, List.cons.injEq] at h
  obtain ⟨rfl, h⟩ := h
  obtain ⟨h1, h2⟩ := List.append_inj h (by simp [hl, hr])
  have h3 : l = r := (List.map_inj_right (fun x y h => Int.ofNat.inj h)).1 h1
  subst h3
  simp only [List.cons.injEq, and_true] at h2
  subst h2; rfl
theorem cmp_anti (p q : Pfx) : cmpP p q = - cmpP q p := lex_anti _ _
theorem cmp_self (p : Pfx) : cmpP p p = 0 := lex_self _
theorem cmp_zero {p q : Pfx} (h : cmpP p q = 0) : p = q := key_inj (lex_zero (by rw [key_len, key_len]) h)
theorem cmp_trans {p q r : Pfx} (h1 : cmpP p q < 0) (h2 : cmpP q r < 0) : cmpP p r < 0 := lex_trans (by rw [key_len, key_len]) (by rw [key_len, key_len]) h1 h2
theorem cmp_range (p q : Pfx) : cmpP p q = -1 ∨ cmpP p q = 0 ∨ cmpP p q = 1 := lex_range _ _
end Go.Proofs.YtnpdaegfmfkghaaDoor.D
namespace Go.Proofs.YtnpdaegfmfkghaaDoor.F
open Go Go.Proofs.YtnpdaegfmfkghaaDoor.A Go.Proofs.YtnpdaegfmfkghaaDoor.D
def cmpI (a b : Int) : Int := if a < b then -1 else if b < a then 1 else 0
theorem lex1 (a b : Int) : lexL [a] [b] = cmpI a b := by simp only [lexL, cmpI]
theorem cmp_key (p q : Pfx) : cmpP p q = if cmpI p.adr.ver q.adr.ver ≠ 0 then cmpI p.adr.ver q.adr.ver else if lexL (ints p.adr.b) (ints q.adr.b) ≠ 0 then lexL (ints p.adr.b) (ints q.adr.b) else cmpI p.bits q.bits := by
  have := lex_append [p.adr.ver] [q.adr.ver] (ints p.adr.b ++ [p.bits]) (ints q.adr.b ++ [q.bits]) rfl
  rw [lex_append (ints p.adr.b) (ints q.adr.b) _ _ (by rw [ints_len, ints_len]), lex1, lex1] at this
  exact this
end Go.Proofs.YtnpdaegfmfkghaaDoor.F

/- Intervals of numbers whose lengths are powers of two: they lie within one another, or apart; rows of them in the one form are known by the numbers that lie in them. No condition. -/
namespace Go.Proofs.YtnpdaegfmfkghaaDoor.Y

structure Iv where
  p : Nat
  k : Nat
  deriving DecidableEq
def Iv.e (x : Iv) : Nat := x.p + 2 ^ x.k
def Ok (x : Iv) : Prop := x.k ≤ 128 ∧ 2 ^ x.k ∣ x.p
def In (a : Nat) (x : Iv) : Prop := x.p ≤ a ∧ a < x.e
def Sub (y x : Iv) : Prop := x.p ≤ y.p ∧ y.e ≤ x.e
theorem two_pos (k : Nat) : 0 < 2 ^ k := Nat.pow_pos (by decide)
theorem Iv.lt_e (x : Iv) : x.p < x.e := by unfold Iv.e; have := two_pos x.k; omega
theorem In.self (x : Iv) : In x.p x := ⟨Nat.le_refl _, x.lt_e⟩
theorem Sub.mem {x y : Iv} (h : Sub y x) {a : Nat} (k : In a y) : In a x := ⟨Nat.le_trans h.1 k.1, Nat.lt_of_lt_of_le k.2 h.2⟩
theorem Sub.refl (x : Iv) : Sub x x := ⟨Nat.le_refl _, Nat.le_refl _⟩
theorem Sub.trans {x y z : Iv} (h : Sub x y) (k : Sub y z) : Sub x z := ⟨Nat.le_trans k.1 h.1, Nat.le_trans h.2 k.2⟩
theorem Sub.k_le {x y : Iv} (h : Sub y x) : y.k ≤ x.k := by
  have h1 : 2 ^ y.k ≤ 2 ^ x.k := by have := h.1; have := h.2; unfold Iv.e at *; omega
  exact (Nat.pow_le_pow_iff_right (by decide)).1 h1
theorem iv_ext {x y : Iv} (h : x.p = y.p) (k : x.k = y.k) : x = y := by cases x; cases y; simp_all
theorem Sub.eq {x y : Iv} (h : Sub y x) (hk : x.k ≤ y.k) : y = x := by
  have h1 := h.k_le
  have h2 : x.k = y.k := by omega
  have := h.1; have := h.2
  unfold Iv.e at *
  rw [h2] at this
  exact iv_ext (by omega) h2.symm
theorem Sub.anti {x y : Iv} (h : Sub y x) (k : Sub x y) : y = x := h.eq k.k_le
/-- Two that meet lie within one another. -/
theorem nest {x y : Iv} (hx : Ok x) (hy : Ok y) {a : Nat} (h : In a x) (k : In a y) (hk : y.k ≤ x.k) : Sub y x := by
  obtain ⟨m, hm⟩ := hx.2
  obtain ⟨n, hn⟩ := hy.2
  obtain ⟨d, hd⟩ : ∃ d, x.k = y.k + d := ⟨x.k - y.k, by omega⟩
  have hu := two_pos y.k
  have ep : 2 ^ x.k = 2 ^ y.k * 2 ^ d := by rw [hd, Nat.pow_add]
  unfold In Iv.e at h k
  unfold Sub Iv.e
  rw [hm, ep] at h
  rw [hn] at k
  rw [hm, hn, ep]
  generalize 2 ^ y.k = u at *
  generalize 2 ^ d = t at *
  have h1 : u * (t * m) < u * (n + 1) := by
    have := h.1; have := k.2
    rw [Nat.mul_assoc] at *
    rw [Nat.mul_add, Nat.mul_one]; omega
  have h2 : u * n < u * (t * m + t) := by
    have := h.2; have := k.1
    rw [Nat.mul_assoc] at *
    rw [Nat.mul_add]; omega
  have h3 := Nat.lt_of_mul_lt_mul_left h1
  have h4 := Nat.lt_of_mul_lt_mul_left h2
  have h5 : u * (t * m) ≤ u * n := Nat.mul_le_mul_left u (by omega)
  have h6 : u * (n + 1) ≤ u * (t * m + t) := Nat.mul_le_mul_left u (by omega)
  rw [Nat.mul_add, Nat.mul_one] at h6
  rw [Nat.mul_add] at h6
  rw [Nat.mul_assoc]
  exact ⟨h5, h6⟩
theorem nest' {x y : Iv} (hx : Ok x) (hy : Ok y) {a : Nat} (h : In a x) (k : In a y) : Sub y x ∨ Sub x y := by
  rcases Nat.le_total y.k x.k with e | e
  · exact .inl (nest hx hy h k e)
  · exact .inr (nest hy hx k h e)

/-! ### Halves -/
def lo (x : Iv) : Iv := ⟨x.p, x.k - 1⟩
def hi (x : Iv) : Iv := ⟨x.p + 2 ^ (x.k - 1), x.k - 1⟩
theorem pow_half {k : Nat} (h : 0 < k) : 2 ^ k = 2 ^ (k - 1) + 2 ^ (k - 1) := by
  obtain ⟨n, rfl⟩ : ∃ n, k = n + 1 := ⟨k - 1, by omega⟩
  rw [Nat.pow_succ]; simp; omega
theorem lo_ok {x : Iv} (h : Ok x) : Ok (lo x) := ⟨by unfold lo; simp only; have := h.1; omega, Nat.dvd_trans (Nat.pow_dvd_pow 2 (by unfold lo; simp only; omega)) h.2⟩
theorem hi_ok {x : Iv} (h : Ok x) : Ok (hi x) := ⟨by unfold hi; simp only; have := h.1; omega, Nat.dvd_add (lo_ok h).2 (Nat.dvd_refl _)⟩
theorem lo_sub {x : Iv} (h : 0 < x.k) : Sub (lo x) x := by
  have := pow_half h; have := two_pos (x.k - 1)
  unfold Sub lo Iv.e; simp only; omega
theorem hi_sub {x : Iv} (h : 0 < x.k) : Sub (hi x) x := by
  have := pow_half h; have := two_pos (x.k - 1)
  unfold Sub hi Iv.e; simp only; omega
theorem half_in {x : Iv} (h : 0 < x.k) {a : Nat} (ha : In a x) : In a (lo x) ∨ In a (hi x) := by
  have := pow_half h
  unfold In lo hi Iv.e at *; simp only at *; omega
theorem half_apart (x : Iv) : (lo x).e = (hi x).p := rfl
/-- Who holds one half and more holds both. -/
theorem up_lo {d x : Iv} (hd : Ok d) (hx : Ok x) (h : Sub (lo d) x) (hk : 0 < d.k) : x = lo d ∨ Sub d x := by
  by_cases e : d.k ≤ x.k
  · exact .inr (nest hx hd (h.mem (In.self _)) ((lo_sub hk).mem (In.self _)) e)
  · exact .inl (h.eq (by unfold lo; simp only; omega)).symm
theorem up_hi {d x : Iv} (hd : Ok d) (hx : Ok x) (h : Sub (hi d) x) (hk : 0 < d.k) : x = hi d ∨ Sub d x := by
  by_cases e : d.k ≤ x.k
  · exact .inr (nest hx hd (h.mem (In.self _)) ((hi_sub hk).mem (In.self _)) e)
  · exact .inl (h.eq (by unfold hi; simp only; omega)).symm

/-! ### Rows in the one form -/
def Cov (l : List Iv) (a : Nat) : Prop := ∃ x ∈ l, In a x
def Apart (l : List Iv) : Prop := l.Pairwise fun x y => x.e ≤ y.p
/-- The two halves of somebody. -/
def Sib (x y : Iv) : Prop := ∃ d, Ok d ∧ 0 < d.k ∧ x = lo d ∧ y = hi d
structure Can (l : List Iv) : Prop where
  ok : ∀ x ∈ l, Ok x
  ap : Apart l
  sib : ∀ x ∈ l, ∀ y ∈ l, ¬ Sib x y
theorem cov_nil (a : Nat) : ¬ Cov [] a := fun ⟨_, h, _⟩ => by cases h
theorem cov_app (l m : List Iv) (a : Nat) : Cov (l ++ m) a ↔ Cov l a ∨ Cov m a := by
  unfold Cov
  constructor
  · rintro ⟨x, h, k⟩
    rcases List.mem_append.1 h with h | h
    · exact .inl ⟨x, h, k⟩
    · exact .inr ⟨x, h, k⟩
  · rintro (⟨x, h, k⟩ | ⟨x, h, k⟩)
    · exact ⟨x, List.mem_append.2 (.inl h), k⟩
    · exact ⟨x, List.mem_append.2 (.inr h), k⟩
theorem cov_cons (x : Iv) (l : List Iv) (a : Nat) : Cov (x :: l) a ↔ In a x ∨ Cov l a := by
  rw [show x :: l = [x] ++ l from rfl, cov_app]
  constructor
  · rintro (⟨y, h, k⟩ | h)
    · rw [List.mem_singleton] at h; subst h; exact .inl k
    · exact .inr h
  · rintro (h | h)
    · exact .inl ⟨x, List.mem_singleton.2 rfl, h⟩
    · exact .inr h
theorem Can.nil : Can [] := ⟨fun _ h => by (cases h), List.Pairwise.nil, fun _ h => by (cases h)⟩
theorem Sib.k {x y : Iv} (h : Sib x y) : x.k = y.k ∧ x.e = y.p := by
  obtain ⟨d, _, _, rfl, rfl⟩ := h
  exact ⟨rfl, rfl⟩
theorem Can.one {x : Iv} (h : Ok x) : Can [x] := ⟨fun y hy => by rw [List.mem_singleton.1 hy]; exact h, List.pairwise_singleton _ _, fun y hy z hz s => by
  rw [List.mem_singleton.1 hy, List.mem_singleton.1 hz] at s
  have := s.k.2; have := x.lt_e; omega⟩
/-- Two of a row that meet are one. -/
theorem apart_eq : ∀ {l : List Iv}, Apart l → ∀ {x y : Iv}, x ∈ l → y ∈ l → ∀ {a : Nat}, In a x → In a y → x = y
  | [], _, _, _, h, _, _, _, _ => by cases h
  | z :: l, hl, x, y, hx, hy, a, ha, hb => by
    have h0 := List.pairwise_cons.1 hl
    rcases List.mem_cons.1 hx with rfl | hx' <;> rcases List.mem_cons.1 hy with rfl | hy'
    · rfl
    · have := h0.1 y hy'; have := ha.2; have := hb.1; omega
    · have := h0.1 x hx'; have := hb.2; have := ha.1; omega
    · exact apart_eq h0.2 hx' hy' ha hb
/-- Whom a row covers is held by one of it. -/
theorem Can.held {l : List Iv} (h : Can l) : ∀ (n : Nat) {d : Iv}, d.k = n → Ok d → (∀ a, In a d → Cov l a) → ∃ x ∈ l, Sub d x
  | 0, d, hn, hd, hc => by
    obtain ⟨x, hx, hi⟩ := hc d.p (In.self d)
    exact ⟨x, hx, nest (h.ok x hx) hd hi (In.self d) (by omega)⟩
  | n + 1, d, hn, hd, hc => by
    have hk : 0 < d.k := by omega
    obtain ⟨x, hx, sx⟩ := Can.held h n (d := lo d) (by unfold lo; simp only; omega) (lo_ok hd) fun a ha => hc a ((lo_sub hk).mem ha)
    obtain ⟨y, hy, sy⟩ := Can.held h n (d := hi d) (by unfold hi; simp only; omega) (hi_ok hd) fun a ha => hc a ((hi_sub hk).mem ha)
    rcases up_lo hd (h.ok x hx) sx hk with e1 | e1
    · rcases up_hi hd (h.ok y hy) sy hk with e2 | e2
      · exact absurd ⟨d, hd, hk, e1, e2⟩ (h.sib x hx y hy)
      · exact ⟨y, hy, e2⟩
    · exact ⟨x, hx, e1⟩
theorem Can.sub {l m : List Iv} (hl : Can l) (hm : Can m) (h : ∀ a, Cov l a ↔ Cov m a) {x : Iv} (hx : x ∈ l) : x ∈ m := by
  obtain ⟨y, hy, s⟩ := hm.held x.k rfl (hl.ok x hx) fun a ha => (h a).1 ⟨x, hx, ha⟩
  obtain ⟨z, hz, t⟩ := hl.held y.k rfl (hm.ok y hy) fun a ha => (h a).2 ⟨y, hy, ha⟩
  have e : x = z := apart_eq hl.ap hx hz (In.self x) ((s.trans t).mem (In.self x))
  subst e
  rw [s.anti t]; exact hy
theorem apart_same : ∀ {l m : List Iv}, Apart l → Apart m → (∀ x, x ∈ l ↔ x ∈ m) → l = m
  | [], [], _, _, _ => rfl
  | [], y :: m, _, _, h => by have := (h y).2 List.mem_cons_self; cases this
  | x :: l, [], _, _, h => by have := (h x).1 List.mem_cons_self; cases this
  | x :: l, y :: m, hl, hm, h => by
    have h1 := List.pairwise_cons.1 hl
    have h2 := List.pairwise_cons.1 hm
    have e : x = y := by
      rcases List.mem_cons.1 ((h x).1 List.mem_cons_self) with e | e
      · exact e
      · rcases List.mem_cons.1 ((h y).2 List.mem_cons_self) with f | f
        · exact f.symm
        · have a := h2.1 x e; have b := h1.1 y f; have := x.lt_e; have := y.lt_e; omega
    subst e
    rw [apart_same h1.2 h2.2 fun z => ?_]
    constructor
    · intro hz
      rcases List.mem_cons.1 ((h z).1 (List.mem_cons_of_mem _ hz)) with e | e
      · subst e; have := h1.1 z hz; have := z.lt_e; omega
      · exact e
    · intro hz
      rcases List.mem_cons.1 ((h z).2 (List.mem_cons_of_mem _ hz)) with e | e
      · subst e; have := h2.1 z hz; have := z.lt_e; omega
      · exact e
/-- The one form is one. -/
theorem Can.unique {l m : List Iv} (hl : Can l) (hm : Can m) (h : ∀ a, Cov l a ↔ Cov m a) : l = m :=
  apart_same hl.ap hm.ap fun _ => ⟨fun hx => hl.sub hm h hx, fun hx => hm.sub hl (fun a => (h a).symm) hx⟩
theorem Can.empty {l : List Iv} (hl : Can l) (h : ∀ a, ¬ Cov l a) : l = [] := hl.unique Can.nil fun a => ⟨fun k => absurd k (h a), fun k => absurd k (cov_nil a)⟩

/-! ### Rows of two halves -/
theorem Can.both {d : Iv} (hd : Ok d) (hk : 0 < d.k) {l m : List Iv} (hl : Can l) (hm : Can m) (il : ∀ x ∈ l, Sub x (lo d)) (im : ∀ x ∈ m, Sub x (hi d)) (hn : ¬ (l = [lo d] ∧ m = [hi d])) : Can (l ++ m) := by
  refine ⟨fun x hx => ?_, ?_, ?_⟩
  · rcases List.mem_append.1 hx with h | h
    · exact hl.ok x h
    · exact hm.ok x h
  · refine List.pairwise_append.2 ⟨hl.ap, hm.ap, fun x hx y hy => ?_⟩
    have := (il x hx).2; have := (im y hy).1; rw [half_apart] at *; omega
  · have key : ∀ x ∈ l, ∀ y ∈ m, ¬ Sib x y := by
      rintro x hx y hy ⟨c, hc, hck, rfl, rfl⟩
      have s1 := il _ hx
      have s2 := im _ hy
      have h1 := s1.k_le
      have h2 : c.k ≤ d.k := by unfold lo at h1; simp only at h1; omega
      have h3 : Sub c d := nest hd hc ((lo_sub hk).mem (s1.mem (In.self _))) ((lo_sub hck).mem (In.self _)) h2
      by_cases h4 : d.k ≤ c.k
      · have e := h3.eq h4
        subst e
        apply hn
        have t : ∀ {n : List Iv} {z : Iv}, Can n → z ∈ n → (∀ x ∈ n, Sub x z) → n = [z] := fun {n z} hn' hz hs => by
          refine apart_same hn'.ap (List.pairwise_singleton _ _) fun x => ⟨fun hx => ?_, fun hx => by rw [List.mem_singleton.1 hx]; exact hz⟩
          rw [List.mem_singleton]
          exact apart_eq hn'.ap hx hz (In.self x) ((hs x hx).mem (In.self x))
        exact ⟨t hl hx il, t hm hy im⟩
      · have h5 : c.k ≤ (lo d).k := by unfold lo; simp only; omega
        have h6 : Sub c (lo d) := nest (lo_ok hd) hc (s1.mem (In.self _)) ((lo_sub hck).mem (In.self _)) h5
        have h7 := (h6.mem ((hi_sub hck).mem (In.self (hi c)))).2
        have h8 := s2.1
        rw [half_apart] at h7; omega
    have rev : ∀ x ∈ m, ∀ y ∈ l, ¬ Sib x y := by
      intro x hx y hy s
      have := s.k.2; have h1 := (im x hx).1; have h2 := (il y hy).2; have := x.lt_e; have := y.lt_e
      rw [half_apart] at h2; omega
    intro x hx y hy
    rcases List.mem_append.1 hx with h | h <;> rcases List.mem_append.1 hy with h' | h'
    · exact hl.sib x h y h'
    · exact key x h y h'
    · exact rev x h y h'
    · exact hm.sib x h y h'
/-- Rows of two wholes. -/
theorem Can.wholes {c d : Iv} (hc : Ok c) (kc : c.k = 128) (hcd : c.e ≤ d.p) {l m : List Iv} (hl : Can l) (hm : Can m) (il : ∀ x ∈ l, Sub x c) (im : ∀ x ∈ m, Sub x d) : Can (l ++ m) := by
  refine ⟨fun x hx => ?_, ?_, ?_⟩
  · rcases List.mem_append.1 hx with h | h
    · exact hl.ok x h
    · exact hm.ok x h
  · refine List.pairwise_append.2 ⟨hl.ap, hm.ap, fun x hx y hy => ?_⟩
    have := (il x hx).2; have := (im y hy).1; omega
  · have key : ∀ x ∈ l, ∀ y ∈ m, ¬ Sib x y := by
      rintro x hx y hy ⟨b, hb, hbk, rfl, rfl⟩
      have s1 := il _ hx
      have h6 : Sub b c := nest hc hb (s1.mem (In.self _)) ((lo_sub hbk).mem (In.self _)) (by rw [kc]; exact hb.1)
      have h7 := (h6.mem ((hi_sub hbk).mem (In.self (hi b)))).2
      have h8 := (im _ hy).1
      omega
    have rev : ∀ x ∈ m, ∀ y ∈ l, ¬ Sib x y := by
      intro x hx y hy s
      have := s.k.2; have h1 := (im x hx).1; have h2 := (il y hy).2; have := x.lt_e; have := y.lt_e
      omega
    intro x hx y hy
    rcases List.mem_append.1 hx with h | h <;> rcases List.mem_append.1 hy with h' | h'
    · exact hl.sib x h y h'
    · exact key x h y h'
    · exact rev x h y h'
    · exact hm.sib x h y h'
end Go.Proofs.YtnpdaegfmfkghaaDoor.Y

/- Prefixes as intervals of numbers. No condition. -/
set_option linter.unusedSimpArgs false
namespace Go.Proofs.YtnpdaegfmfkghaaDoor.D
open Go Go.Proofs.YtnpdaegfmfkghaaDoor.A Go.Proofs.YtnpdaegfmfkghaaDoor.Y

/-! ### Bytes as a number -/
def numL : List Nat → Nat
  | [] => 0
  | x :: l => x * 256 ^ l.length + numL l
theorem numL_lt : ∀ {l : List Nat}, (∀ x ∈ l, x < 256) → numL l < 256 ^ l.length
  | [], _ => by simp [numL]
  | x :: l, h => by
    have ih := numL_lt (l := l) fun y hy => h y (List.mem_cons_of_mem _ hy)
    have hx := h x List.mem_cons_self
    simp only [numL, List.length_cons, Nat.pow_succ]
    have : x * 256 ^ l.length + 256 ^ l.length ≤ 256 * 256 ^ l.length := by
      rw [← Nat.succ_mul]; exact Nat.mul_le_mul_right _ hx
    rw [Nat.mul_comm (256 ^ l.length) 256]; omega
theorem p256 (n : Nat) : 256 ^ n = 2 ^ (8 * n) := by rw [show (256 : Nat) = 2 ^ 8 from rfl, ← Nat.pow_mul]
theorem numL_bit : ∀ {l : List Nat}, (∀ x ∈ l, x < 256) → ∀ i, i < 8 * l.length → (numL l).testBit (8 * l.length - 1 - i) = (l.getD (i / 8) 0).testBit (7 - i % 8)
  | [], _, i, hi => by simp at hi
  | x :: l, h, i, hi => by
    have hl : ∀ y ∈ l, y < 256 := fun y hy => h y (List.mem_cons_of_mem _ hy)
    have ih := numL_bit (l := l) hl
    have hn := numL_lt hl
    rw [p256] at hn
    simp only [List.length_cons] at hi ⊢
    rw [numL, p256, Nat.mul_comm, Nat.testBit_two_pow_mul_add _ hn]
    by_cases h8 : i < 8
    · rw [if_neg (by omega), show i / 8 = 0 by omega, show 8 * (l.length + 1) - 1 - i - 8 * l.length = 7 - i % 8 by omega]; rfl
    · rw [if_pos (by omega), show 8 * (l.length + 1) - 1 - i = 8 * l.length - 1 - (i - 8) by omega, ih (i - 8) (by omega), show i / 8 = (i - 8) / 8 + 1 by omega, show (i - 8) % 8 = i % 8 by omega]; rfl
def num (b : B16) : Nat := numL b.l
theorem num_lt (b : B16) : num b < 2 ^ 128 := by
  have := numL_lt b.rng
  rw [b.len, p256] at this; exact this
theorem num_bit (b : B16) (j : Nat) : (num b).testBit j = (decide (j < 128) && bit b (127 - j)) := by
  by_cases h : j < 128
  · have := numL_bit b.rng (127 - j) (by rw [b.len]; omega)
    rw [b.len, show 8 * 16 - 1 - (127 - j) = j by omega] at this
    rw [num, this]; simp [h, bit, B16.get]
  · rw [Nat.testBit_lt_two_pow (Nat.lt_of_lt_of_le (num_lt b) (Nat.pow_le_pow_right (by decide) (by omega)))]
    simp [h]
theorem num_inj {a b : B16} (h : num a = num b) : a = b := bits_ext fun k hk => by
  have := num_bit a (127 - k)
  rw [h, num_bit, show 127 - (127 - k) = k by omega] at this
  have h1 : 127 - k < 128 := by omega
  simpa [h1] using this.symm
theorem num_cut (b : B16) {n : Nat} (hn : n ≤ 128) : num (cut b n) = num b / 2 ^ (128 - n) * 2 ^ (128 - n) := by
  apply Nat.eq_of_testBit_eq
  intro j
  rw [← Nat.shiftLeft_eq, ← Nat.shiftRight_eq_div_pow, Nat.testBit_shiftLeft, Nat.testBit_shiftRight, num_bit]
  by_cases hj : j < 128
  · rw [cut_bit _ _ (by omega)]
    by_cases h1 : 128 - n ≤ j
    · rw [show 128 - n + (j - (128 - n)) = j by omega, num_bit]
      simp [h1, hj, show 127 - j < n by omega]
    · simp [h1, show ¬ 127 - j < n by omega]
  · by_cases h1 : 128 - n ≤ j
    · rw [show 128 - n + (j - (128 - n)) = j by omega, num_bit]; simp [hj]
    · simp [hj, h1]
theorem lex_num : ∀ {l r : List Nat}, l.length = r.length → (∀ x ∈ l, x < 256) → (∀ x ∈ r, x < 256) → (lexL (l.map fun x : Nat => (x : Int)) (r.map fun x : Nat => (x : Int)) = if numL l < numL r then -1 else if numL r < numL l then 1 else 0)
  | [], [], _, _, _ => by simp [lexL, numL]
  | a :: l, b :: r, h, h1, h2 => by
    have hl : ∀ y ∈ l, y < 256 := fun y hy => h1 y (List.mem_cons_of_mem _ hy)
    have hr : ∀ y ∈ r, y < 256 := fun y hy => h2 y (List.mem_cons_of_mem _ hy)
    have e : l.length = r.length := by simpa using h
    have ih := lex_num e hl hr
    have n1 := numL_lt hl
    have n2 := numL_lt hr
    rw [← e] at n2
    simp only [List.map_cons, lexL, ih, numL, ← e]
    generalize hu : 256 ^ l.length = u at *
    have key : ∀ {x y p q : Nat}, x < y → p < u → x * u + p < y * u + q := fun {x y p q} hxy hp => by
      have : (x + 1) * u ≤ y * u := Nat.mul_le_mul_right u hxy
      rw [Nat.add_mul, Nat.one_mul] at this; omega
    by_cases c1 : a < b
    · have := key (q := numL r) c1 n1
      rw [if_pos (by omega), if_pos (by omega)]
    · by_cases c2 : b < a
      · have := key (q := numL l) c2 n2
        rw [if_neg (by omega), if_pos (by omega), if_neg (by omega), if_pos (by omega)]
      · have : a = b := by omega
        subst this
        rw [if_neg (show ¬ (a : Int) < (a : Int) by omega), if_neg (show ¬ (a : Int) < (a : Int) by omega)]
        have k1 : (a * u + numL l < a * u + numL r) = (numL l < numL r) := propext ⟨fun h => by omega, fun h => by omega⟩
        have k2 : (a * u + numL r < a * u + numL l) = (numL r < numL l) := propext ⟨fun h => by omega, fun h => by omega⟩
        simp only [k1, k2]
  | [], _ :: _, h, _, _ => by simp at h
  | _ :: _, [], h, _, _ => by simp at h

/-! ### Prefixes as intervals -/
def pt (a : Adr) : Nat := a.ver.toNat * 2 ^ 128 + num a.b
def iv (p : Pfx) : Iv := ⟨pt p.adr, 128 - p.bits.toNat⟩
theorem ver_ok {a : Adr} (h : AddrOk a) : a.ver = 4 ∨ a.ver = 6 := by
  have := h.1; unfold width at this
  by_cases h4 : a.ver = 4
  · exact .inl h4
  · by_cases h6 : a.ver = 6
    · exact .inr h6
    · simp [h4, h6] at this
theorem bits_le {p : Pfx} (h : PfxOk p) : p.bits.toNat ≤ 128 := by have := h.2.2.1; have := width_le p.adr.ver; omega
theorem clr_dvd {b : B16} {n : Nat} (hn : n ≤ 128) : Clr b n ↔ 2 ^ (128 - n) ∣ num b := by
  constructor
  · intro h
    apply Nat.dvd_of_mod_eq_zero
    apply Nat.eq_of_testBit_eq
    intro j
    rw [Nat.testBit_mod_two_pow, num_bit, Nat.zero_testBit]
    by_cases h1 : j < 128 - n
    · simp [h1, h (127 - j) (by omega) (by omega)]
    · simp [h1]
  · intro h k h1 h2
    have h3 := Nat.mod_eq_zero_of_dvd h
    have h4 : (num b % 2 ^ (128 - n)).testBit (127 - k) = false := by rw [h3, Nat.zero_testBit]
    rw [Nat.testBit_mod_two_pow, num_bit, show 127 - (127 - k) = k by omega] at h4
    simpa [show 127 - k < 128 - n by omega, show 127 - k < 128 by omega] using h4
theorem iv_ok {p : Pfx} (h : PfxOk p) : Ok (iv p) := by
  refine ⟨by unfold iv; simp only; omega, ?_⟩
  unfold iv pt
  simp only
  have h1 := (clr_dvd (bits_le h)).1 h.2.2.2
  exact Nat.dvd_add (Nat.dvd_trans (Nat.pow_dvd_pow 2 (by omega)) (Nat.dvd_mul_left _ _)) h1
/-- The whole of a version holds it. -/
def whole (v : Int) : Iv := ⟨v.toNat * 2 ^ 128, 128⟩
theorem whole_ok (v : Int) : Ok (whole v) := ⟨Nat.le_refl _, Nat.dvd_mul_left _ _⟩
theorem iv_whole {p : Pfx} (h : PfxOk p) : Sub (iv p) (whole p.adr.ver) := by
  refine nest (a := pt p.adr) (whole_ok _) (iv_ok h) ?_ (In.self _) (by unfold iv whole; simp only; omega)
  unfold In whole pt Iv.e; simp only; have := num_lt p.adr.b; omega
theorem has_in {p : Pfx} {a : Adr} (hp : PfxOk p) (ha : AddrOk a) : Has p a ↔ In (pt a) (iv p) := by
  have hb := bits_le hp
  have h1 := (clr_dvd hb).1 hp.2.2.2
  have hu := two_pos (128 - p.bits.toNat)
  constructor
  · intro h
    have e := congrArg num h.2.2.2
    rw [num_cut _ hb] at e
    unfold In iv pt Iv.e
    simp only
    rw [← h.2.2.1, ← e]
    have := Nat.div_mul_le_self (num a.b) (2 ^ (128 - p.bits.toNat))
    have := Nat.lt_div_mul_add hu (a := num a.b)
    omega
  · intro h
    have hv : p.adr.ver = a.ver := by
      have h2 := (iv_whole hp).mem h
      unfold In whole Iv.e pt at h2
      simp only at h2
      have := num_lt a.b
      have h4 : p.adr.ver.toNat = a.ver.toNat := by
        rcases ver_ok hp.1 with e | e <;> rcases ver_ok ha with f | f <;> rw [e, f] at h2 ⊢ <;> first | rfl | (exfalso; simp at h2; omega)
      rcases ver_ok hp.1 with e | e <;> rcases ver_ok ha with f | f <;> rw [e, f] at h4 ⊢ <;> simp at h4
    refine ⟨hp, ha, hv, num_inj ?_⟩
    rw [num_cut _ hb]
    obtain ⟨m, hm⟩ := h1
    unfold In iv pt Iv.e at h
    simp only at h
    rw [hv] at h
    generalize 2 ^ (128 - p.bits.toNat) = u at *
    have : num a.b / u = m := Nat.div_eq_of_lt_le (by rw [Nat.mul_comm]; omega) (by rw [Nat.add_mul, Nat.one_mul, Nat.mul_comm]; omega)
    rw [this, hm, Nat.mul_comm]
theorem holds_sub {p q : Pfx} (hp : PfxOk p) (hq : PfxOk q) : Holds p q ↔ Sub (iv q) (iv p) := by
  have := bits_le hp; have := bits_le hq
  have h0 := hp.2.1; have h1 := hq.2.1
  constructor
  · intro h
    have h2 := (has_in hp hq.1).1 h.2.2
    refine nest (iv_ok hp) (iv_ok hq) h2 (In.self _) ?_
    have := h.2.1
    unfold iv; simp only; omega
  · intro h
    have := h.k_le
    unfold iv at this; simp only at this
    exact ⟨hq, by omega, (has_in hp hq.1).2 (h.mem (In.self _))⟩
theorem iv_inj {p q : Pfx} (hp : PfxOk p) (hq : PfxOk q) (h : iv p = iv q) : p = q := by
  have e1 := congrArg Iv.p h
  have e2 := congrArg Iv.k h
  have := bits_le hp; have := bits_le hq
  have h0 := hp.2.1; have h1 := hq.2.1
  have hw := num_lt p.adr.b; have hw' := num_lt q.adr.b
  unfold iv at e1 e2; simp only at e1 e2
  have hb : p.bits = q.bits := by omega
  have hv : p.adr.ver = q.adr.ver := by
    unfold pt at e1
    rcases ver_ok hp.1 with e | e <;> rcases ver_ok hq.1 with f | f <;> rw [e, f] at e1 ⊢ <;> (simp at e1; try omega)
  have hn : num p.adr.b = num q.adr.b := by unfold pt at e1; rw [hv] at e1; omega
  obtain ⟨⟨v, b⟩, n⟩ := p
  obtain ⟨⟨w, c⟩, m⟩ := q
  simp only at hb hv hn
  rw [hb, hv, num_inj hn]
theorem holds_anti {p q : Pfx} (h : Holds p q) (k : Holds q p) : p = q :=
  have hp := k.1; have hq := h.1
  iv_inj hp hq (((holds_sub hq hp).1 k).anti ((holds_sub hp hq).1 h))
theorem holds_refl {p : Pfx} (h : PfxOk p) : Holds p p := (holds_sub h h).2 (Sub.refl _)
/-- The order by numbers. -/
theorem cmp_iv {p q : Pfx} (hp : PfxOk p) (hq : PfxOk q) (h : cmpP p q ≤ 0) : (iv p).p ≤ (iv q).p ∧ ((iv p).p = (iv q).p → (iv q).k ≤ (iv p).k) := by
  have h1 : lexL (ints p.adr.b) (ints q.adr.b) = if num p.adr.b < num q.adr.b then -1 else if num q.adr.b < num p.adr.b then 1 else 0 := lex_num (by rw [p.adr.b.len, q.adr.b.len]) p.adr.b.rng q.adr.b.rng
  have h2 : cmpP p q = if p.adr.ver < q.adr.ver then -1 else if q.adr.ver < p.adr.ver then 1 else lexL (ints p.adr.b ++ [p.bits]) (ints q.adr.b ++ [q.bits]) := rfl
  have hw := num_lt p.adr.b; have hw' := num_lt q.adr.b
  have := bits_le hp; have := bits_le hq
  have h0 := hp.2.1; have h0' := hq.2.1
  rw [h2] at h
  unfold iv pt; simp only
  by_cases c1 : p.adr.ver < q.adr.ver
  · rcases ver_ok hp.1 with e | e <;> rcases ver_ok hq.1 with f | f <;> rw [e, f] at c1 ⊢ <;> first | (exfalso; omega) | skip
    have e4 : (4 : Int).toNat = 4 := rfl
    have e6 : (6 : Int).toNat = 6 := rfl
    rw [e4, e6]
    omega
  · by_cases c2 : q.adr.ver < p.adr.ver
    · rw [if_neg c1, if_pos c2] at h; omega
    · have hv : p.adr.ver = q.adr.ver := by omega
      rw [if_neg c1, if_neg c2, lex_append _ _ _ _ (by rw [ints_len, ints_len]), h1] at h
      rw [hv]
      by_cases c3 : num p.adr.b < num q.adr.b
      · omega
      · by_cases c4 : num q.adr.b < num p.adr.b
        · rw [if_neg c3, if_pos c4] at h; simp at h
        · rw [if_neg c3, if_neg c4] at h
          simp only [ne_eq, not_true_eq_false, if_false, lexL] at h
          refine ⟨by omega, fun _ => ?_⟩
          by_cases c5 : p.bits < q.bits
          · omega
          · by_cases c6 : q.bits < p.bits
            · rw [if_neg c5, if_pos c6] at h; omega
            · omega

/-! ### Halves -/
def flip (b : B16) (i : Nat) : B16 := b.put (i / 8) (b.get (i / 8) ^^^ 128 / 2 ^ (i % 8))
theorem pow7 {m : Nat} (h : m < 8) : 128 / 2 ^ m = 2 ^ (7 - m) := by
  have : ∀ m < 8, 128 / 2 ^ m = 2 ^ (7 - m) := by decide
  exact this m h
theorem flip_lt (b : B16) (i : Nat) : b.get (i / 8) ^^^ 128 / 2 ^ (i % 8) < 256 := by
  rw [pow7 (Nat.mod_lt _ (by decide))]
  exact Nat.xor_lt_two_pow (n := 8) (b.get_lt _) (Nat.pow_lt_pow_right (by decide) (by omega))
theorem flip_bit (b : B16) {i : Nat} (hi : i < 128) {k : Nat} (hk : k < 128) : bit (flip b i) k = if k = i then !bit b k else bit b k := by
  unfold bit flip
  rw [B16.get_put _ (by omega) (flip_lt b i)]
  by_cases h : k / 8 = i / 8
  · rw [if_pos h, Nat.testBit_xor, pow7 (Nat.mod_lt _ (by decide)), Nat.testBit_two_pow]
    by_cases e : k = i
    · subst e; simp
    · rw [if_neg e, h, show decide (7 - i % 8 = 7 - k % 8) = false by rw [decide_eq_false_iff_not]; omega]; simp
  · rw [if_neg h, if_neg (by omega)]
theorem flip_num (b : B16) {i : Nat} (hi : i < 128) : ∃ m, num (cut b i) = 2 ^ (128 - i) * m ∧ num (cut b (i + 1)) = 2 ^ (128 - i) * m + (if bit b i then 2 ^ (127 - i) else 0) ∧ (Clr b (i + 1) → num (flip b i) = 2 ^ (128 - i) * m + (if bit b i then 0 else 2 ^ (127 - i))) := by
  obtain ⟨m, hm⟩ : ∃ m, num (cut b i) = 2 ^ (128 - i) * m := by
    obtain ⟨m, hm⟩ := (clr_dvd (b := cut b i) (n := i) (by omega)).1 fun k h1 h2 => by rw [cut_bit _ _ h2]; simp [show ¬ k < i by omega]
    exact ⟨m, hm⟩
  have lt0 : 2 ^ (127 - i) < 2 ^ (128 - i) := Nat.pow_lt_pow_right (by decide) (by omega)
  have lt1 : ∀ c : Bool, (if c then 2 ^ (127 - i) else 0) < 2 ^ (128 - i) := fun c => by cases c <;> simp [two_pos, lt0]
  have tb : ∀ (c : Bool) (j : Nat), (if c then 2 ^ (127 - i) else 0).testBit j = (c && decide (127 - i = j)) := fun c j => by cases c <;> simp [Nat.testBit_two_pow]
  have hb : ∀ j, ¬ j < 128 - i → m.testBit (j - (128 - i)) = (decide (j < 128) && bit b (127 - j)) := fun j hj => by
    have h1 := num_bit (cut b i) j
    rw [hm, show 2 ^ (128 - i) * m = 2 ^ (128 - i) * m + 0 by omega, Nat.testBit_two_pow_mul_add _ (two_pos _), if_neg hj] at h1
    rw [h1]
    by_cases h2 : j < 128
    · rw [cut_bit _ _ (by omega)]; simp [h2, show 127 - j < i by omega]
    · simp [h2]
  refine ⟨m, hm, ?_, fun hc => ?_⟩
  · apply Nat.eq_of_testBit_eq
    intro j
    rw [Nat.testBit_two_pow_mul_add _ (lt1 _), tb, num_bit]
    by_cases hj : j < 128 - i
    · rw [if_pos hj, cut_bit _ _ (by omega)]
      by_cases e : 127 - i = j
      · subst e; simp [show 127 - i < 128 by omega, show 127 - (127 - i) = i by omega]
      · simp [e, show ¬ 127 - j < i + 1 by omega]
    · rw [if_neg hj, hb j hj]
      by_cases h2 : j < 128
      · rw [cut_bit _ _ (by omega)]; simp [h2, show 127 - j < i + 1 by omega]
      · simp [h2]
  · apply Nat.eq_of_testBit_eq
    intro j
    rw [show (if bit b i = true then 0 else 2 ^ (127 - i)) = if (!bit b i) = true then 2 ^ (127 - i) else 0 by cases bit b i <;> rfl]
    rw [Nat.testBit_two_pow_mul_add _ (lt1 _), tb, num_bit]
    by_cases h2 : j < 128
    · rw [flip_bit b hi (by omega)]
      by_cases hj : j < 128 - i
      · rw [if_pos hj]
        by_cases e : 127 - i = j
        · subst e; simp [show 127 - i < 128 by omega, show 127 - (127 - i) = i by omega]
        · rw [if_neg (by omega), hc (127 - j) (by omega) (by omega)]; simp [e]
      · rw [if_neg hj, hb j hj, if_neg (by omega)]
    · rw [if_neg (by omega), hb j (by omega)]; simp [h2]
end Go.Proofs.YtnpdaegfmfkghaaDoor.D

/- The one form of prefixes: how it is made, and that it is the one. No condition. -/
set_option linter.unusedSimpArgs false
namespace Go.Proofs.YtnpdaegfmfkghaaDoor.D
open Go Go.Proofs.YtnpdaegfmfkghaaDoor.A Go.Proofs.YtnpdaegfmfkghaaDoor.Y

/-- The other half; the two halves; the whole of them. -/
def half (p : Pfx) : Pfx := ⟨⟨p.adr.ver, flip p.adr.b (p.bits.toNat - 1)⟩, p.bits⟩
def loP (p : Pfx) : Pfx := ⟨p.adr, p.bits + 1⟩
def hiP (p : Pfx) : Pfx := ⟨⟨p.adr.ver, flip p.adr.b p.bits.toNat⟩, p.bits + 1⟩
def upP (p : Pfx) : Pfx := ⟨⟨p.adr.ver, cut p.adr.b (p.bits.toNat - 1)⟩, p.bits - 1⟩
theorem clr_up {b : B16} {n m : Nat} (h : Clr b n) (hnm : n ≤ m) : Clr b m := fun k h1 h2 => h k (by omega) h2
theorem clr_cut (b : B16) (n : Nat) : Clr (cut b n) n := fun k h1 h2 => by rw [cut_bit _ _ h2]; simp [show ¬ k < n by omega]
theorem clr_flip {b : B16} {i m : Nat} (hi : i < 128) (h : Clr b m) (him : i < m) : Clr (flip b i) m := fun k h1 h2 => by
  rw [flip_bit b hi h2, if_neg (by omega)]; exact h k h1 h2
theorem adr_of {v : Int} {b c : B16} {n : Nat} (h : AddrOk ⟨v, b⟩) (hn : n ≤ width v) (hc : Clr c n) : AddrOk ⟨v, c⟩ := ⟨h.1, clr_up hc hn⟩
theorem loP_ok {p : Pfx} (h : PfxOk p) (hb : p.bits < width p.adr.ver) : PfxOk (loP p) := by
  refine ⟨h.1, by have := h.2.1; unfold loP; simp only; omega, by unfold loP; simp only; omega, ?_⟩
  exact clr_up h.2.2.2 (by unfold loP; simp only; omega)
theorem hiP_ok {p : Pfx} (h : PfxOk p) (hb : p.bits < width p.adr.ver) : PfxOk (hiP p) := by
  have h0 := h.2.1
  have := width_le p.adr.ver
  have hc : Clr (flip p.adr.b p.bits.toNat) (p.bits.toNat + 1) := clr_flip (by omega) (clr_up h.2.2.2 (by omega)) (by omega)
  have e : (p.bits + 1).toNat = p.bits.toNat + 1 := by omega
  refine ⟨adr_of h.1 (n := p.bits.toNat + 1) (by omega) hc, by unfold hiP; simp only; omega, by unfold hiP; simp only; omega, ?_⟩
  unfold hiP; simp only; rw [e]; exact hc
theorem upP_ok {p : Pfx} (h : PfxOk p) (hb : 0 < p.bits) : PfxOk (upP p) := by
  have h0 := h.2.2.1
  have hc := clr_cut p.adr.b (p.bits.toNat - 1)
  have e : (p.bits - 1).toNat = p.bits.toNat - 1 := by omega
  refine ⟨adr_of h.1 (by omega) hc, by unfold upP; simp only; omega, by unfold upP; simp only; omega, ?_⟩
  unfold upP; simp only; rw [e]; exact hc
theorem half_ok {p : Pfx} (h : PfxOk p) (hb : 0 < p.bits) : PfxOk (half p) := by
  have h0 := h.2.2.1
  have := width_le p.adr.ver
  have hc := clr_flip (i := p.bits.toNat - 1) (by omega) h.2.2.2 (by omega)
  exact ⟨adr_of h.1 (by omega) hc, h.2.1, h0, hc⟩
theorem half_lo {p : Pfx} (h : 0 ≤ p.bits) : half (loP p) = hiP p := by
  unfold half loP hiP; simp only; rw [show (p.bits + 1).toNat - 1 = p.bits.toNat by omega]
theorem iv_lo {p : Pfx} (h : PfxOk p) (hb : p.bits < width p.adr.ver) : iv (loP p) = lo (iv p) := by
  have h0 := h.2.1
  unfold iv loP lo; simp only
  rw [show 128 - (p.bits + 1).toNat = 128 - p.bits.toNat - 1 by omega]
theorem iv_hi {p : Pfx} (h : PfxOk p) (hb : p.bits < width p.adr.ver) : iv (hiP p) = hi (iv p) := by
  have h0 := h.2.1
  have := width_le p.adr.ver
  obtain ⟨m, h1, h2, h3⟩ := flip_num p.adr.b (i := p.bits.toNat) (by omega)
  have h4 := h3 (clr_up h.2.2.2 (by omega))
  rw [show bit p.adr.b p.bits.toNat = false from h.2.2.2 _ (Nat.le_refl _) (by omega)] at h4
  have h5 : cut p.adr.b p.bits.toNat = p.adr.b := bits_ext fun k hk => by
    rw [cut_bit _ _ hk]
    by_cases e : k < p.bits.toNat
    · simp [e]
    · simp [e, h.2.2.2 k (by omega) hk]
  rw [h5] at h1
  unfold iv hiP hi pt; simp only
  rw [h4, h1, show 128 - (p.bits + 1).toNat = 128 - p.bits.toNat - 1 by omega, show 127 - p.bits.toNat = 128 - p.bits.toNat - 1 by omega]
  simp only [Bool.false_eq_true, if_false, Nat.add_assoc]
/-- One half behind the other: they are the halves of the whole of them. -/
theorem halves_up {x y : Pfx} (hy : PfxOk y) (hb : 0 < y.bits) (hx : x = half y) (ha : (iv x).p < (iv y).p) : iv x = lo (iv (upP y)) ∧ iv y = hi (iv (upP y)) := by
  subst hx
  have h0 := hy.2.2.1
  have := width_le y.adr.ver
  have hup := upP_ok hy hb
  have hw : (upP y).bits < width (upP y).adr.ver := by unfold upP; simp only; omega
  obtain ⟨m, h1, h2, h3⟩ := flip_num y.adr.b (i := y.bits.toNat - 1) (by omega)
  have hc : Clr y.adr.b (y.bits.toNat - 1 + 1) := clr_up hy.2.2.2 (by omega)
  have h4 := h3 hc
  have h5 : cut y.adr.b (y.bits.toNat - 1 + 1) = y.adr.b := bits_ext fun k hk => by
    rw [cut_bit _ _ hk]
    by_cases e : k < y.bits.toNat - 1 + 1
    · simp [e]
    · simp [e, hc k (by omega) hk]
  rw [h5] at h2
  unfold iv half pt at ha
  simp only at ha
  rw [h4, h2] at ha
  cases hbit : bit y.adr.b (y.bits.toNat - 1) with
  | false => rw [hbit] at ha; simp at ha; have := two_pos (127 - (y.bits.toNat - 1)); exfalso; omega
  | true =>
    rw [hbit] at h2 h4
    simp only [if_true] at h2 h4
    have ek : 128 - (y.bits - 1).toNat - 1 = 128 - y.bits.toNat := by omega
    refine ⟨?_, ?_⟩
    · unfold iv half lo upP pt; simp only
      rw [h4, h1, ek]; rfl
    · unfold iv hi upP pt; simp only
      rw [h1, h2, ek, show 127 - (y.bits.toNat - 1) = 128 - y.bits.toNat by omega, Nat.add_assoc]
/-- The halves of somebody are each other's. -/
theorem half_of {x y : Pfx} (hx : PfxOk x) (hy : PfxOk y) (h : Sib (iv x) (iv y)) : 0 < y.bits ∧ x = half y := by
  obtain ⟨d, hd, hk, e1, e2⟩ := h
  have hbx := bits_le hx; have hby := bits_le hy
  have hx0 := hx.2.1; have hy0 := hy.2.1
  have k1 : 128 - x.bits.toNat = d.k - 1 := congrArg Iv.k e1
  have k2 : 128 - y.bits.toNat = d.k - 1 := congrArg Iv.k e2
  have p1 : pt x.adr = d.p := congrArg Iv.p e1
  have p2 : pt y.adr = d.p + 2 ^ (d.k - 1) := congrArg Iv.p e2
  have hd1 := hd.1
  have hb : 0 < y.bits := by omega
  refine ⟨hb, ?_⟩
  have hbb : x.bits = y.bits := by omega
  obtain ⟨m, h1, h2, h3⟩ := flip_num y.adr.b (i := y.bits.toNat - 1) (by omega)
  have hc : Clr y.adr.b (y.bits.toNat - 1 + 1) := clr_up hy.2.2.2 (by omega)
  have h4 := h3 hc
  have h5 : cut y.adr.b (y.bits.toNat - 1 + 1) = y.adr.b := bits_ext fun k hk => by
    rw [cut_bit _ _ hk]
    by_cases e : k < y.bits.toNat - 1 + 1
    · simp [e]
    · simp [e, hc k (by omega) hk]
  rw [h5] at h2
  have ek : 128 - (y.bits.toNat - 1) = d.k := by omega
  have ek' : 127 - (y.bits.toNat - 1) = d.k - 1 := by omega
  rw [ek, ek'] at h2 h4
  -- the whole's number is a multiple of its length, and so is the version's
  obtain ⟨c, hc2⟩ := hd.2
  have hv : 2 ^ d.k ∣ y.adr.ver.toNat * 2 ^ 128 := Nat.dvd_trans (Nat.pow_dvd_pow 2 hd1) (Nat.dvd_mul_left _ _)
  obtain ⟨e, he⟩ := hv
  have hpos := two_pos (d.k - 1)
  have hpw := pow_half hk
  have hbit : bit y.adr.b (y.bits.toNat - 1) = true := by
    cases hbit : bit y.adr.b (y.bits.toNat - 1) with
    | true => rfl
    | false =>
      rw [hbit] at h2
      simp only [Bool.false_eq_true, if_false, Nat.add_zero] at h2
      unfold pt at p2
      rw [he, h2, hc2] at p2
      have h6 : 2 ^ d.k * (e + m) = 2 ^ d.k * c + 2 ^ (d.k - 1) := by rw [Nat.mul_add]; exact p2
      have h7 := congrArg (· % 2 ^ d.k) h6
      simp only [Nat.mul_mod_right, Nat.mul_add_mod] at h7
      rw [Nat.mod_eq_of_lt (by omega)] at h7
      omega
  rw [hbit] at h2 h4
  simp only [if_true, Nat.add_zero] at h2 h4
  have hpx : pt x.adr = y.adr.ver.toNat * 2 ^ 128 + num (flip y.adr.b (y.bits.toNat - 1)) := by
    rw [h4, p1]
    unfold pt at p2
    omega
  refine iv_inj hx (half_ok hy hb) ?_
  unfold iv half; simp only
  rw [hpx, hbb]; rfl

/-! ### The making of the one form -/
/-- The last two, as long as they are halves (the last one stands first). -/
def upF : Nat → List Pfx → List Pfx
  | n + 1, y :: x :: r => if 0 < y.bits ∧ x = half y then upF n (upP y :: r) else y :: x :: r
  | _, l => l
def upM (l : List Pfx) : List Pfx := upF l.length l
def stepO (st : List Pfx) (p : Pfx) : List Pfx := match st with
  | [] => [p]
  | y :: r => if Holds y p then y :: r else upM (p :: y :: r)
def insP (p : Pfx) : List Pfx → List Pfx
  | [] => [p]
  | q :: l => if cmpP p q ≤ 0 then p :: q :: l else q :: insP p l
def isort (l : List Pfx) : List Pfx := l.foldr insP []
def oneL (l : List Pfx) : List Pfx := ((isort l).foldl stepO []).reverse

theorem insP_mem (p : Pfx) : ∀ (l : List Pfx) (x : Pfx), x ∈ insP p l ↔ x = p ∨ x ∈ l
  | [], x => by simp [insP]
  | q :: l, x => by
    unfold insP
    split
    · simp
    · simp only [List.mem_cons, insP_mem p l x]; constructor <;> rintro (h | h | h) <;> simp [h]
theorem isort_mem : ∀ (l : List Pfx) (x : Pfx), x ∈ isort l ↔ x ∈ l
  | [], x => by simp [isort]
  | p :: l, x => by
    have := isort_mem l x
    unfold isort at this ⊢
    rw [List.foldr_cons, insP_mem, this, List.mem_cons]
theorem insP_len (p : Pfx) : ∀ l : List Pfx, (insP p l).length = l.length + 1
  | [] => rfl
  | q :: l => by unfold insP; split <;> simp [insP_len p l]
theorem isort_len : ∀ l : List Pfx, (isort l).length = l.length
  | [] => rfl
  | p :: l => by have := isort_len l; unfold isort at *; rw [List.foldr_cons, insP_len, this, List.length_cons]
theorem insP_perm (p : Pfx) : ∀ l : List Pfx, (insP p l).Perm (p :: l)
  | [] => List.Perm.refl _
  | q :: l => by
    unfold insP; split
    · exact List.Perm.refl _
    · exact ((insP_perm p l).cons q).trans (List.Perm.swap p q l)
theorem isort_perm : ∀ l : List Pfx, (isort l).Perm l
  | [] => List.Perm.refl _
  | p :: l => by have := isort_perm l; unfold isort at *; exact (insP_perm p _).trans (this.cons p)
theorem cmp_le_trans {p q r : Pfx} (h : cmpP p q ≤ 0) (k : cmpP q r ≤ 0) : cmpP p r ≤ 0 := by
  by_cases e : cmpP p q = 0
  · rw [cmp_zero e]; exact k
  · by_cases f : cmpP q r = 0
    · rw [← cmp_zero f]; exact h
    · have := cmp_trans (p := p) (q := q) (r := r) (by omega) (by omega); omega
theorem insP_sort {p : Pfx} : ∀ {l : List Pfx}, l.Pairwise (fun x y => cmpP x y ≤ 0) → (insP p l).Pairwise (fun x y => cmpP x y ≤ 0)
  | [], _ => List.pairwise_singleton _ _
  | q :: l, h => by
    have h1 := List.pairwise_cons.1 h
    unfold insP; split
    · rename_i hc
      refine List.pairwise_cons.2 ⟨fun y hy => ?_, h⟩
      rcases List.mem_cons.1 hy with rfl | hy
      · exact hc
      · exact cmp_le_trans hc (h1.1 y hy)
    · rename_i hc
      refine List.pairwise_cons.2 ⟨fun y hy => ?_, insP_sort h1.2⟩
      rcases (insP_mem p l y).1 hy with rfl | hy
      · rw [cmp_anti]; omega
      · exact h1.1 y hy
theorem isort_sort : ∀ l : List Pfx, (isort l).Pairwise (fun x y => cmpP x y ≤ 0)
  | [] => List.Pairwise.nil
  | p :: l => by have := isort_sort l; unfold isort at *; exact insP_sort this
theorem sorted_eq : ∀ {l m : List Pfx}, l.Perm m → l.Pairwise (fun x y => cmpP x y ≤ 0) → m.Pairwise (fun x y => cmpP x y ≤ 0) → l = m
  | [], m, h, _, _ => (List.Perm.nil_eq h)
  | x :: l, [], h, _, _ => by have := h.length_eq; simp at this
  | x :: l, y :: m, h, hl, hm => by
    have h1 := List.pairwise_cons.1 hl
    have h2 := List.pairwise_cons.1 hm
    have e : x = y := by
      rcases List.mem_cons.1 (h.mem_iff.1 (List.mem_cons_self : x ∈ x :: l)) with e | e
      · exact e
      · rcases List.mem_cons.1 (h.mem_iff.2 (List.mem_cons_self : y ∈ y :: m)) with f | f
        · exact f.symm
        · have a := h2.1 x e; have b := h1.1 y f
          rw [cmp_anti] at a
          exact cmp_zero (by omega)
    subst e
    rw [sorted_eq (List.Perm.cons_inv h) h1.2 h2.2]

/-- A stack of prefixes that lie apart, the last one first. -/
structure Stk (st : List Pfx) : Prop where
  ok : ∀ x ∈ st, PfxOk x
  ap : st.Pairwise fun y x => (iv x).e ≤ (iv y).p
structure StkC (st : List Pfx) : Prop extends Stk st where
  sib : ∀ x ∈ st, ∀ y ∈ st, ¬ Sib (iv x) (iv y)
def CovP (l : List Pfx) (a : Nat) : Prop := ∃ x ∈ l, In a (iv x)
theorem covP_cons (x : Pfx) (l : List Pfx) (a : Nat) : CovP (x :: l) a ↔ In a (iv x) ∨ CovP l a := by simp [CovP]
theorem covP_nil (a : Nat) : ¬ CovP [] a := by simp [CovP]
theorem covP_app (l m : List Pfx) (a : Nat) : CovP (l ++ m) a ↔ CovP l a ∨ CovP m a := by
  induction l with
  | nil => simp [covP_nil]
  | cons x l ih => rw [List.cons_append, covP_cons, covP_cons, ih, or_assoc]
theorem covP_map (l : List Pfx) (a : Nat) : Cov (l.map iv) a ↔ CovP l a := by
  constructor
  · rintro ⟨x, hx, h⟩
    obtain ⟨p, hp, rfl⟩ := List.mem_map.1 hx
    exact ⟨p, hp, h⟩
  · rintro ⟨p, hp, h⟩
    exact ⟨iv p, List.mem_map.2 ⟨p, hp, rfl⟩, h⟩
theorem covP_mem {l m : List Pfx} (h : ∀ x, x ∈ l ↔ x ∈ m) (a : Nat) : CovP l a ↔ CovP m a := by simp [CovP, h]
/-- All of a stack come of prefixes that were told. -/
def From (st done : List Pfx) : Prop := ∀ y ∈ st, ∃ q ∈ done, (iv q).p = (iv y).p ∧ (iv q).k ≤ (iv y).k
theorem upF_ok : ∀ (n : Nat) {y : Pfx} {r done : List Pfx}, r.length < n → Stk (y :: r) → StkC r → From (y :: r) done →
    StkC (upF n (y :: r)) ∧ From (upF n (y :: r)) done ∧ (∀ a, CovP (upF n (y :: r)) a ↔ CovP (y :: r) a) ∧ (upF n (y :: r)).length ≤ r.length + 1
  | 0, _, _, _, h, _, _, _ => by omega
  | n + 1, y, [], done, _, hs, hc, hf => by
    refine ⟨⟨hs, fun x hx z hz s => ?_⟩, hf, fun a => Iff.rfl, Nat.le_refl _⟩
    rw [show upF (n + 1) [y] = [y] from rfl, List.mem_singleton] at hx hz
    subst hx; subst hz
    have := s.k.2; have := (iv z).lt_e; omega
  | n + 1, y, x :: r, done, hn, hs, hc, hf => by
    have hp := List.pairwise_cons.1 hs.ap
    have hyx := hp.1 x List.mem_cons_self
    have hlt := (iv x).lt_e
    unfold upF
    by_cases h : 0 < y.bits ∧ x = half y
    · rw [if_pos h]
      have hyo := hs.ok y List.mem_cons_self
      obtain ⟨e1, e2⟩ := halves_up hyo h.1 h.2 (by omega)
      have hup := upP_ok hyo h.1
      have hk : 0 < (iv (upP y)).k := by
        have := hyo.2.2.1; have := width_le y.adr.ver; have h0 := h.1
        unfold iv upP; simp only; omega
      have ep : (iv (upP y)).p = (iv x).p := by rw [e1]; rfl
      have hr := List.pairwise_cons.1 hp.2
      have s1 : Stk (upP y :: r) := ⟨fun z hz => by
        rcases List.mem_cons.1 hz with rfl | hz
        · exact hup
        · exact hs.ok z (List.mem_cons_of_mem _ (List.mem_cons_of_mem _ hz)), List.pairwise_cons.2 ⟨fun z hz => by rw [ep]; exact hr.1 z hz, hr.2⟩⟩
      have c1 : StkC r := ⟨⟨fun z hz => hc.ok z (List.mem_cons_of_mem _ hz), hr.2⟩, fun u hu v hv => hc.sib u (List.mem_cons_of_mem _ hu) v (List.mem_cons_of_mem _ hv)⟩
      have f1 : From (upP y :: r) done := fun z hz => by
        rcases List.mem_cons.1 hz with rfl | hz
        · obtain ⟨q, hq, q1, q2⟩ := hf x (List.mem_cons_of_mem _ List.mem_cons_self)
          refine ⟨q, hq, by rw [ep]; exact q1, ?_⟩
          have : (iv x).k = (iv (upP y)).k - 1 := by rw [e1]; rfl
          omega
        · exact hf z (List.mem_cons_of_mem _ (List.mem_cons_of_mem _ hz))
      obtain ⟨a1, a2, a3, a4⟩ := upF_ok n (by simp at hn; omega) s1 c1 f1
      refine ⟨a1, a2, fun a => ?_, by simp only [List.length_cons]; omega⟩
      rw [a3, covP_cons, covP_cons, covP_cons, e1, e2, ← or_assoc]
      refine or_congr_left ⟨fun h => (half_in hk h).symm, fun h => ?_⟩
      rcases h with h | h
      · exact (hi_sub hk).mem h
      · exact (lo_sub hk).mem h
    · rw [if_neg h]
      refine ⟨⟨hs, fun u hu v hv s => ?_⟩, hf, fun a => Iff.rfl, Nat.le_refl _⟩
      have sk := s.k.2
      have hly := (iv y).lt_e
      rcases List.mem_cons.1 hu with rfl | hu' <;> rcases List.mem_cons.1 hv with rfl | hv'
      · omega
      · have := hp.1 v hv'; have := (iv v).lt_e; omega
      · rcases List.mem_cons.1 hu' with rfl | hu''
        · exact h (half_of (hs.ok _ (List.mem_cons_of_mem _ List.mem_cons_self)) (hs.ok _ List.mem_cons_self) s)
        · have := (List.pairwise_cons.1 hp.2).1 u hu''; omega
      · exact hc.sib u hu' v hv' s
theorem stepO_ok {st done : List Pfx} {p : Pfx} (hc : StkC st) (hf : From st done) (hp : PfxOk p) (hd : ∀ q ∈ done, PfxOk q ∧ cmpP q p ≤ 0) :
    StkC (stepO st p) ∧ From (stepO st p) (done ++ [p]) ∧ (∀ a, CovP (stepO st p) a ↔ CovP st a ∨ In a (iv p)) ∧ (stepO st p).length ≤ st.length + 1 := by
  have fm : ∀ {s : List Pfx}, From s done → From s (done ++ [p]) := fun h y hy => by
    obtain ⟨q, h1, h2⟩ := h y hy
    exact ⟨q, List.mem_append.2 (.inl h1), h2⟩
  cases st with
  | nil =>
    refine ⟨⟨⟨fun x hx => ?_, List.pairwise_singleton _ _⟩, fun x hx y hy s => ?_⟩, fun y hy => ?_, fun a => ?_, Nat.le_refl _⟩
    · rw [show stepO [] p = [p] from rfl, List.mem_singleton] at hx; subst hx; exact hp
    · rw [show stepO [] p = [p] from rfl, List.mem_singleton] at hx hy
      subst hx; subst hy
      have := s.k.2; have := (iv y).lt_e; omega
    · rw [show stepO [] p = [p] from rfl, List.mem_singleton] at hy; subst hy
      exact ⟨y, by simp, rfl, Nat.le_refl _⟩
    · rw [show stepO [] p = [p] from rfl, covP_cons]; simp [covP_nil]
  | cons y r =>
    have hy := hc.ok y List.mem_cons_self
    unfold stepO
    simp only
    by_cases h : Holds y p
    · rw [if_pos h]
      refine ⟨hc, fm hf, fun a => ⟨.inl, fun h' => ?_⟩, Nat.le_succ _⟩
      rcases h' with h' | h'
      · exact h'
      · exact (covP_cons _ _ _).2 (.inl (((holds_sub hy hp).1 h).mem h'))
    · rw [if_neg h]
      have hn : ¬ Sub (iv p) (iv y) := fun s => h ((holds_sub hy hp).2 s)
      obtain ⟨q, q1, q2, q3⟩ := hf y List.mem_cons_self
      obtain ⟨qo, qc⟩ := hd q q1
      obtain ⟨o1, o2⟩ := cmp_iv qo hp qc
      have key : (iv y).e ≤ (iv p).p := by
        rcases Nat.lt_or_ge (iv p).p (iv y).e with hlt | hge
        · exfalso
          have hin : In (iv p).p (iv y) := ⟨by omega, hlt⟩
          have hk : (iv p).k ≤ (iv y).k := by
            rcases Nat.le_total (iv p).k (iv y).k with e | e
            · exact e
            · have s := nest (iv_ok hp) (iv_ok hy) (In.self _) hin e
              have := s.1
              have := o2 (by omega)
              omega
          exact hn (nest (iv_ok hy) (iv_ok hp) hin (In.self _) hk)
        · exact hge
      have hap : (p :: y :: r).Pairwise fun y x => (iv x).e ≤ (iv y).p := by
        refine List.pairwise_cons.2 ⟨fun z hz => ?_, hc.ap⟩
        rcases List.mem_cons.1 hz with rfl | hz
        · exact key
        · have := (List.pairwise_cons.1 hc.ap).1 z hz; have := (iv y).lt_e; omega
      have hs : Stk (p :: y :: r) := ⟨fun z hz => by
        rcases List.mem_cons.1 hz with rfl | hz
        · exact hp
        · exact hc.ok z hz, hap⟩
      have hf' : From (p :: y :: r) (done ++ [p]) := fun z hz => by
        rcases List.mem_cons.1 hz with rfl | hz
        · exact ⟨z, by simp, rfl, Nat.le_refl _⟩
        · exact fm hf z hz
      obtain ⟨a1, a2, a3, a4⟩ := upF_ok (p :: y :: r).length (y := p) (r := y :: r) (by simp) hs hc hf'
      refine ⟨a1, a2, fun a => ?_, a4⟩
      show CovP (upF (p :: y :: r).length (p :: y :: r)) a ↔ _
      rw [a3, covP_cons, Or.comm]
theorem fold_ok : ∀ (l : List Pfx) {st done : List Pfx}, StkC st → From st done → (∀ a, CovP st a ↔ CovP done a) → st.length ≤ done.length → (done ++ l).Pairwise (fun x y => cmpP x y ≤ 0) → (∀ q ∈ done ++ l, PfxOk q) →
    StkC (l.foldl stepO st) ∧ (∀ a, CovP (l.foldl stepO st) a ↔ CovP (done ++ l) a) ∧ (l.foldl stepO st).length ≤ (done ++ l).length
  | [], st, done, h1, _, h3, h4, _, _ => by simpa using ⟨h1, h3, h4⟩
  | p :: l, st, done, h1, h2, h3, h4, h5, h6 => by
    have hp := h6 p (by simp)
    have h7 := (List.pairwise_append.1 h5).2.2
    obtain ⟨a1, a2, a3, a4⟩ := stepO_ok h1 h2 hp fun q hq => ⟨h6 q (by simp [hq]), h7 q hq p List.mem_cons_self⟩
    have e : done ++ p :: l = (done ++ [p]) ++ l := by simp
    rw [e] at h5 h6 ⊢
    rw [List.foldl_cons]
    refine fold_ok l a1 a2 (fun a => ?_) (by simp; omega) h5 h6
    rw [a3, covP_app, h3, covP_cons]; simp [covP_nil]
/-- Rows in the one form. -/
def Form (l : List Pfx) : Prop := Y.Can (l.map iv) ∧ ∀ p ∈ l, PfxOk p
theorem map_iv_inj : ∀ {l m : List Pfx}, (∀ p ∈ l, PfxOk p) → (∀ p ∈ m, PfxOk p) → l.map iv = m.map iv → l = m
  | [], [], _, _, _ => rfl
  | [], _ :: _, _, _, h => by simp at h
  | _ :: _, [], _, _, h => by simp at h
  | x :: l, y :: m, h1, h2, h => by
    simp only [List.map_cons, List.cons.injEq] at h
    rw [iv_inj (h1 x List.mem_cons_self) (h2 y List.mem_cons_self) h.1, map_iv_inj (fun p hp => h1 p (List.mem_cons_of_mem _ hp)) (fun p hp => h2 p (List.mem_cons_of_mem _ hp)) h.2]
theorem Form.unique {l m : List Pfx} (h : Form l) (k : Form m) (he : ∀ a, CovP l a ↔ CovP m a) : l = m :=
  map_iv_inj h.2 k.2 (h.1.unique k.1 fun a => by rw [covP_map, covP_map]; exact he a)
theorem Form.nil : Form [] := ⟨Y.Can.nil, fun _ h => by cases h⟩
theorem Form.empty {l : List Pfx} (h : Form l) (he : ∀ a, ¬ CovP l a) : l = [] := h.unique Form.nil fun a => ⟨fun k => absurd k (he a), fun k => absurd k (covP_nil a)⟩
theorem oneL_ok {l : List Pfx} (h : ∀ p ∈ l, PfxOk p) : Form (oneL l) ∧ (∀ a, CovP (oneL l) a ↔ CovP l a) ∧ (oneL l).length ≤ l.length := by
  obtain ⟨a1, a2, a3⟩ := fold_ok (isort l) (st := []) (done := []) ⟨⟨fun _ h => (by cases h), List.Pairwise.nil⟩, fun _ h => (by cases h)⟩ (fun _ h => (by cases h)) (fun a => Iff.rfl) (Nat.le_refl _) (by simpa using isort_sort l) (fun q hq => h q ((isort_mem l q).1 (by simpa using hq)))
  unfold oneL
  refine ⟨⟨⟨fun x hx => ?_, ?_, fun x hx y hy => ?_⟩, fun p hp => a1.ok p (List.mem_reverse.1 hp)⟩, fun a => ?_, ?_⟩
  · obtain ⟨p, hp, rfl⟩ := List.mem_map.1 hx
    exact iv_ok (a1.ok p (List.mem_reverse.1 hp))
  · unfold Apart
    rw [List.pairwise_map, List.pairwise_reverse]
    exact a1.ap
  · obtain ⟨p, hp, rfl⟩ := List.mem_map.1 hx
    obtain ⟨q, hq, rfl⟩ := List.mem_map.1 hy
    exact a1.sib p (List.mem_reverse.1 hp) q (List.mem_reverse.1 hq)
  · rw [covP_mem (fun x => List.mem_reverse), a2, List.nil_append, covP_mem (isort_mem l)]
  · rw [List.length_reverse]; simpa [isort_len] using a3
theorem oneL_id {l : List Pfx} (h : Form l) : oneL l = l :=
  (oneL_ok h.2).1.unique h (oneL_ok h.2).2.1
theorem form_iff {l : List Pfx} (h : ∀ p ∈ l, PfxOk p) : oneL l = l ↔ Form l := ⟨fun e => by rw [← e]; exact (oneL_ok h).1, oneL_id⟩
end Go.Proofs.YtnpdaegfmfkghaaDoor.D

/- What two rows come to, by halves; meets and rests, as the program tells them: all are told by the numbers that lie in them. No condition. -/
set_option linter.unusedSimpArgs false
namespace Go.Proofs.YtnpdaegfmfkghaaDoor.D
open Go Go.Proofs.YtnpdaegfmfkghaaDoor.A Go.Proofs.YtnpdaegfmfkghaaDoor.Y

def statS (l : List Pfx) (p : Pfx) : Int := if l.any (fun q => decide (Holds q p)) = true then 2 else if l.any (fun q => decide (Holds p q)) = true then 1 else 0
def whatS (kind a b : Int) : Int :=
  if kind = 0 then (if a = 2 ∨ b = 2 then 2 else if a = 0 ∧ b = 0 then 0 else 1)
  else if kind = 1 then (if a = 0 ∨ b = 0 then 0 else if a = 2 ∧ b = 2 then 2 else 1)
  else if a = 0 ∨ b = 2 then 0 else if a = 2 ∧ b = 0 then 2 else 1
def wth (kind : Int) (a b : List Pfx) : Nat → Pfx → List Pfx
  | 0, p => if whatS kind (statS a p) (statS b p) = 2 then [p] else []
  | n + 1, p => if whatS kind (statS a p) (statS b p) = 0 then [] else if whatS kind (statS a p) (statS b p) = 2 then [p] else
      if wth kind a b n (loP p) = [loP p] ∧ wth kind a b n (hiP p) = [hiP p] then [p] else wth kind a b n (loP p) ++ wth kind a b n (hiP p)
def rootP (v : Int) : Pfx := ⟨⟨v, zerB⟩, 0⟩
def comesL (kind : Int) (a b : List Pfx) : List Pfx := wth kind a b 32 (rootP 4) ++ wth kind a b 128 (rootP 6)
def opB (kind : Int) (x y : Prop) : Prop := if kind = 0 then x ∨ y else if kind = 1 then x ∧ y else x ∧ ¬ y
theorem opB_congr {kind : Int} {x y z w : Prop} (h : x ↔ z) (k : y ↔ w) : opB kind x y ↔ opB kind z w := by unfold opB; rw [propext h, propext k]
abbrev Oks (l : List Pfx) : Prop := ∀ p ∈ l, PfxOk p

theorem stat_range (l : List Pfx) (p : Pfx) : statS l p = 0 ∨ statS l p = 1 ∨ statS l p = 2 := by
  unfold statS; split
  · simp
  · split <;> simp
theorem stat_two {l : List Pfx} {p : Pfx} (h : statS l p = 2) {t : Nat} (ht : In t (iv p)) : CovP l t := by
  unfold statS at h
  split at h
  · rename_i h1
    obtain ⟨q, hq, k⟩ := List.any_eq_true.1 h1
    rw [decide_eq_true_eq] at k
    exact ⟨q, hq, ((holds_sub k.2.2.1 k.1).1 k).mem ht⟩
  · split at h <;> simp at h
theorem stat_zero {l : List Pfx} {p : Pfx} (hl : Oks l) (hp : PfxOk p) (h : statS l p = 0) {t : Nat} (ht : In t (iv p)) : ¬ CovP l t := by
  rintro ⟨q, hq, k⟩
  unfold statS at h
  split at h
  · simp at h
  · split at h
    · simp at h
    · rename_i h1 h2
      rcases nest' (iv_ok hp) (iv_ok (hl q hq)) ht k with e | e
      · exact h2 (List.any_eq_true.2 ⟨q, hq, decide_eq_true ((holds_sub hp (hl q hq)).2 e)⟩)
      · exact h1 (List.any_eq_true.2 ⟨q, hq, decide_eq_true ((holds_sub (hl q hq) hp).2 e)⟩)
theorem stat_one {l : List Pfx} {p : Pfx} (h : statS l p = 1) : p.bits < width p.adr.ver := by
  unfold statS at h
  split at h
  · simp at h
  · rename_i h1
    split at h
    · rename_i h2
      obtain ⟨q, hq, k⟩ := List.any_eq_true.1 h2
      rw [decide_eq_true_eq] at k
      have hp : PfxOk p := k.2.2.1
      have hq' : PfxOk q := k.1
      have hv : p.adr.ver = q.adr.ver := k.2.2.2.2.1
      have hbp := hp.2.2.1
      rcases (show p.bits < (width p.adr.ver : Int) ∨ (width p.adr.ver : Int) ≤ p.bits by omega) with e | e
      · exact e
      · exfalso
        apply h1
        refine List.any_eq_true.2 ⟨q, hq, decide_eq_true ?_⟩
        have hb := k.2.1
        have hbq := hq'.2.2.1
        rw [← hv] at hbq
        have hpq : iv q = iv p := ((holds_sub hp hq').1 k).eq (by unfold iv; simp only; omega)
        rw [iv_inj hq' hp hpq]
        exact holds_refl hp
    · simp at h
theorem what_two {kind a b : Int} (ha : a = 0 ∨ a = 1 ∨ a = 2) (hb : b = 0 ∨ b = 1 ∨ b = 2) (h : whatS kind a b = 2) {x y : Prop} (h1 : a = 2 → x) (h2 : b = 2 → y) (h3 : b = 0 → ¬ y) : opB kind x y := by
  unfold whatS at h
  unfold opB
  by_cases k0 : kind = 0
  · rw [if_pos k0] at h ⊢
    split at h
    · rename_i c; rcases c with c | c
      · exact .inl (h1 c)
      · exact .inr (h2 c)
    · split at h <;> simp at h
  · rw [if_neg k0] at h ⊢
    by_cases k1 : kind = 1
    · rw [if_pos k1] at h ⊢
      split at h
      · simp at h
      · split at h
        · rename_i c; exact ⟨h1 c.1, h2 c.2⟩
        · simp at h
    · rw [if_neg k1] at h ⊢
      split at h
      · simp at h
      · split at h
        · rename_i c; exact ⟨h1 c.1, h3 c.2⟩
        · simp at h
theorem what_zero {kind a b : Int} (h : whatS kind a b = 0) {x y : Prop} (h1 : a = 0 → ¬ x) (h2 : b = 2 → y) (h3 : b = 0 → ¬ y) : ¬ opB kind x y := by
  unfold whatS at h
  unfold opB
  by_cases k0 : kind = 0
  · rw [if_pos k0] at h ⊢
    split at h
    · simp at h
    · split at h
      · rename_i c; rintro (e | e)
        · exact h1 c.1 e
        · exact h3 c.2 e
      · simp at h
  · rw [if_neg k0] at h ⊢
    by_cases k1 : kind = 1
    · rw [if_pos k1] at h ⊢
      split at h
      · rename_i c; rcases c with c | c
        · exact fun e => h1 c e.1
        · exact fun e => h3 c e.2
      · split at h <;> simp at h
    · rw [if_neg k1] at h ⊢
      split at h
      · rename_i c; rcases c with c | c
        · exact fun e => h1 c e.1
        · exact fun e => e.2 (h2 c)
      · split at h <;> simp at h
theorem what_one {kind a b : Int} (ha : a = 0 ∨ a = 1 ∨ a = 2) (hb : b = 0 ∨ b = 1 ∨ b = 2) (h0 : whatS kind a b ≠ 0) (h2 : whatS kind a b ≠ 2) : a = 1 ∨ b = 1 := by
  unfold whatS at h0 h2
  rcases ha with rfl | rfl | rfl <;> rcases hb with rfl | rfl | rfl <;> simp at h0 h2 ⊢ <;> (by_cases k0 : kind = 0 <;> by_cases k1 : kind = 1 <;> simp_all)
theorem wth_ok {kind : Int} {a b : List Pfx} (ha : Oks a) (hb : Oks b) : ∀ (n : Nat) {p : Pfx}, PfxOk p → (n : Int) = width p.adr.ver - p.bits →
    Form (wth kind a b n p) ∧ (∀ x ∈ wth kind a b n p, Sub (iv x) (iv p)) ∧ ∀ t, CovP (wth kind a b n p) t ↔ In t (iv p) ∧ opB kind (CovP a t) (CovP b t) := by
  have one : ∀ {p : Pfx}, PfxOk p → Form [p] := fun hp => ⟨Y.Can.one (iv_ok hp), fun q hq => by rw [List.mem_singleton.1 hq]; exact hp⟩
  have case2 : ∀ {p : Pfx}, PfxOk p → whatS kind (statS a p) (statS b p) = 2 → Form [p] ∧ (∀ x ∈ [p], Sub (iv x) (iv p)) ∧ ∀ t, CovP [p] t ↔ In t (iv p) ∧ opB kind (CovP a t) (CovP b t) := fun {p} hp h => by
    refine ⟨one hp, fun x hx => by rw [List.mem_singleton.1 hx]; exact Sub.refl _, fun t => ?_⟩
    rw [covP_cons]
    constructor
    · rintro (ht | ht)
      · exact ⟨ht, what_two (stat_range _ _) (stat_range _ _) h (fun e => stat_two e ht) (fun e => stat_two e ht) (fun e => stat_zero hb hp e ht)⟩
      · exact absurd ht (covP_nil t)
    · exact fun h => .inl h.1
  have case0 : ∀ {p : Pfx}, PfxOk p → whatS kind (statS a p) (statS b p) = 0 → Form [] ∧ (∀ x ∈ ([] : List Pfx), Sub (iv x) (iv p)) ∧ ∀ t, CovP [] t ↔ In t (iv p) ∧ opB kind (CovP a t) (CovP b t) := fun {p} hp h => by
    refine ⟨Form.nil, fun x hx => (by cases hx), fun t => ⟨fun ht => absurd ht (covP_nil t), fun ht => ?_⟩⟩
    exact absurd ht.2 (what_zero h (fun e => stat_zero ha hp e ht.1) (fun e => stat_two e ht.1) (fun e => stat_zero hb hp e ht.1))
  intro n
  induction n with
  | zero =>
    intro p hp hn
    unfold wth
    by_cases h2 : whatS kind (statS a p) (statS b p) = 2
    · rw [if_pos h2]; exact case2 hp h2
    · rw [if_neg h2]
      refine case0 hp ?_
      by_cases h0 : whatS kind (statS a p) (statS b p) = 0
      · exact h0
      · rcases what_one (stat_range _ _) (stat_range _ _) h0 h2 with e | e <;> (have := stat_one e; omega)
  | succ n ih =>
    intro p hp hn
    unfold wth
    by_cases h0 : whatS kind (statS a p) (statS b p) = 0
    · rw [if_pos h0]; exact case0 hp h0
    · rw [if_neg h0]
      by_cases h2 : whatS kind (statS a p) (statS b p) = 2
      · rw [if_pos h2]; exact case2 hp h2
      · rw [if_neg h2]
        have hw : p.bits < width p.adr.ver := by omega
        have hlo := loP_ok hp hw
        have hhi := hiP_ok hp hw
        obtain ⟨l1, l2, l3⟩ := ih hlo (by unfold loP; simp only; omega)
        obtain ⟨m1, m2, m3⟩ := ih hhi (by unfold hiP; simp only; omega)
        have hk : 0 < (iv p).k := by
          have h9 := width_le p.adr.ver; have h8 := hp.2.1; unfold iv; simp only; omega
        rw [iv_lo hp hw] at l2 l3
        rw [iv_hi hp hw] at m2 m3
        have cov : ∀ t, (CovP (wth kind a b n (loP p)) t ∨ CovP (wth kind a b n (hiP p)) t) ↔ In t (iv p) ∧ opB kind (CovP a t) (CovP b t) := fun t => by
          rw [l3, m3]
          constructor
          · rintro (h | h)
            · exact ⟨(lo_sub hk).mem h.1, h.2⟩
            · exact ⟨(hi_sub hk).mem h.1, h.2⟩
          · rintro ⟨h, k⟩
            rcases half_in hk h with e | e
            · exact .inl ⟨e, k⟩
            · exact .inr ⟨e, k⟩
        by_cases hb2 : wth kind a b n (loP p) = [loP p] ∧ wth kind a b n (hiP p) = [hiP p]
        · rw [if_pos hb2]
          refine ⟨one hp, fun x hx => by rw [List.mem_singleton.1 hx]; exact Sub.refl _, fun t => ?_⟩
          rw [← cov t, hb2.1, hb2.2, covP_cons, covP_cons, covP_cons, iv_lo hp hw, iv_hi hp hw]
          constructor
          · rintro (h | h)
            · exact (half_in hk h).imp .inl .inl
            · exact absurd h (covP_nil t)
          · rintro ((h | h) | (h | h))
            · exact .inl ((lo_sub hk).mem h)
            · exact absurd h (covP_nil t)
            · exact .inl ((hi_sub hk).mem h)
            · exact absurd h (covP_nil t)
        · rw [if_neg hb2]
          refine ⟨⟨?_, fun x hx => ?_⟩, fun x hx => ?_, fun t => ?_⟩
          · rw [List.map_append]
            refine Y.Can.both (iv_ok hp) hk l1.1 m1.1 (fun x hx => ?_) (fun x hx => ?_) (fun h => hb2 ?_)
            · obtain ⟨q, hq, rfl⟩ := List.mem_map.1 hx; exact l2 q hq
            · obtain ⟨q, hq, rfl⟩ := List.mem_map.1 hx; exact m2 q hq
            · refine ⟨map_iv_inj l1.2 (one hlo).2 ?_, map_iv_inj m1.2 (one hhi).2 ?_⟩
              · rw [h.1, List.map_singleton, iv_lo hp hw]
              · rw [h.2, List.map_singleton, iv_hi hp hw]
          · rcases List.mem_append.1 hx with h | h
            · exact l1.2 x h
            · exact m1.2 x h
          · rcases List.mem_append.1 hx with h | h
            · exact (l2 x h).trans (lo_sub hk)
            · exact (m2 x h).trans (hi_sub hk)
          · rw [covP_app]; exact cov t
theorem root_ok {v : Int} (h : v = 4 ∨ v = 6) : PfxOk (rootP v) := by
  rcases h with rfl | rfl <;> decide
theorem iv_root {v : Int} (h : v = 4 ∨ v = 6) : iv (rootP v) = whole v := by
  rcases h with rfl | rfl <;> decide
theorem covP_whole {l : List Pfx} (hl : Oks l) {t : Nat} (h : CovP l t) : In t (whole 4) ∨ In t (whole 6) := by
  obtain ⟨q, hq, k⟩ := h
  have := (iv_whole (hl q hq)).mem k
  rcases ver_ok (hl q hq).1 with e | e
  · rw [e] at this; exact .inl this
  · rw [e] at this; exact .inr this
theorem comes_ok {kind : Int} {a b : List Pfx} (ha : Oks a) (hb : Oks b) : Form (comesL kind a b) ∧ ∀ t, CovP (comesL kind a b) t ↔ opB kind (CovP a t) (CovP b t) := by
  obtain ⟨l1, l2, l3⟩ := wth_ok (kind := kind) ha hb 32 (root_ok (.inl rfl)) (by decide)
  obtain ⟨m1, m2, m3⟩ := wth_ok (kind := kind) ha hb 128 (root_ok (.inr rfl)) (by decide)
  rw [iv_root (.inl rfl)] at l2 l3
  rw [iv_root (.inr rfl)] at m2 m3
  unfold comesL
  refine ⟨⟨?_, fun x hx => ?_⟩, fun t => ?_⟩
  · rw [List.map_append]
    refine Y.Can.wholes (c := whole 4) (d := whole 6) (whole_ok _) rfl (by decide) l1.1 m1.1 (fun x hx => ?_) (fun x hx => ?_)
    · obtain ⟨q, hq, rfl⟩ := List.mem_map.1 hx; exact l2 q hq
    · obtain ⟨q, hq, rfl⟩ := List.mem_map.1 hx; exact m2 q hq
  · rcases List.mem_append.1 hx with h | h
    · exact l1.2 x h
    · exact m1.2 x h
  · rw [covP_app, l3, m3]
    constructor
    · rintro (h | h) <;> exact h.2
    · intro h
      have : CovP a t ∨ CovP b t := by
        unfold opB at h
        split at h
        · exact h
        · split at h
          · exact .inl h.1
          · exact .inl h.1
      have hw : In t (whole 4) ∨ In t (whole 6) := by
        rcases this with e | e
        · exact covP_whole ha e
        · exact covP_whole hb e
      rcases hw with e | e
      · exact .inl ⟨e, h⟩
      · exact .inr ⟨e, h⟩

/-! ### Meets and rests -/
def pairM (p q : Pfx) : List Pfx := (if Holds p q then [q] else []) ++ (if Holds q p ∧ p ≠ q then [p] else [])
def meetL (a b : List Pfx) : List Pfx := a.flatMap fun p => b.flatMap fun q => pairM p q
def restL : Nat → Pfx → List Pfx → List Pfx
  | n, p, b => if b.any (fun q => decide (Holds q p)) = true then [] else
    if (b.filter fun q => decide (Holds p q)) = [] then [p] else match n with
      | 0 => []
      | n + 1 => restL n (loP p) (b.filter fun q => decide (Holds p q)) ++ restL n (hiP p) (b.filter fun q => decide (Holds p q))
def gap (p : Pfx) : Nat := width p.adr.ver - p.bits.toNat
def minusL (a b : List Pfx) : List Pfx := a.flatMap fun p => restL (gap p) p b
theorem pair_mem {p q x : Pfx} (h : x ∈ pairM p q) : (x = q ∧ Holds p q) ∨ (x = p ∧ Holds q p) := by
  unfold pairM at h
  rcases List.mem_append.1 h with h | h
  · split at h
    · rename_i c; exact .inl ⟨List.mem_singleton.1 h, c⟩
    · cases h
  · split at h
    · rename_i c; exact .inr ⟨List.mem_singleton.1 h, c.1⟩
    · cases h
theorem meet_oks (a b : List Pfx) : Oks (meetL a b) := fun x hx => by
  obtain ⟨p, hp, hx⟩ := List.mem_flatMap.1 hx
  obtain ⟨q, hq, hx⟩ := List.mem_flatMap.1 hx
  rcases pair_mem hx with ⟨rfl, h⟩ | ⟨rfl, h⟩
  · exact h.1
  · exact h.1
theorem meet_cov {a b : List Pfx} (ha : Oks a) (hb : Oks b) (t : Nat) : CovP (meetL a b) t ↔ CovP a t ∧ CovP b t := by
  constructor
  · rintro ⟨x, hx, h⟩
    obtain ⟨p, hp, hx⟩ := List.mem_flatMap.1 hx
    obtain ⟨q, hq, hx⟩ := List.mem_flatMap.1 hx
    rcases pair_mem hx with ⟨rfl, k⟩ | ⟨rfl, k⟩
    · exact ⟨⟨p, hp, ((holds_sub k.2.2.1 k.1).1 k).mem h⟩, ⟨x, hq, h⟩⟩
    · exact ⟨⟨x, hp, h⟩, ⟨q, hq, ((holds_sub k.2.2.1 k.1).1 k).mem h⟩⟩
  · rintro ⟨⟨p, hp, h⟩, ⟨q, hq, k⟩⟩
    rcases nest' (iv_ok (ha p hp)) (iv_ok (hb q hq)) h k with e | e
    · refine ⟨q, List.mem_flatMap.2 ⟨p, hp, List.mem_flatMap.2 ⟨q, hq, ?_⟩⟩, k⟩
      unfold pairM
      rw [if_pos ((holds_sub (ha p hp) (hb q hq)).2 e)]; simp
    · have hh := (holds_sub (hb q hq) (ha p hp)).2 e
      by_cases epq : p = q
      · subst epq
        refine ⟨p, List.mem_flatMap.2 ⟨p, hp, List.mem_flatMap.2 ⟨p, hq, ?_⟩⟩, k⟩
        unfold pairM
        rw [if_pos hh]; simp
      · refine ⟨p, List.mem_flatMap.2 ⟨p, hp, List.mem_flatMap.2 ⟨q, hq, ?_⟩⟩, h⟩
        unfold pairM
        exact List.mem_append.2 (.inr (by rw [if_pos (show Holds q p ∧ p ≠ q from ⟨hh, epq⟩)]; exact List.mem_singleton.2 rfl))
theorem flat_len {α β : Type} {f : α → List β} {c : Nat} : ∀ {l : List α}, (∀ x ∈ l, (f x).length ≤ c) → (l.flatMap f).length ≤ l.length * c
  | [], _ => by simp
  | x :: l, h => by
    have ih := flat_len (l := l) fun y hy => h y (List.mem_cons_of_mem _ hy)
    have := h x List.mem_cons_self
    rw [List.flatMap_cons, List.length_append, List.length_cons, Nat.add_mul, Nat.one_mul]; omega
theorem meet_len (a b : List Pfx) : (meetL a b).length ≤ a.length * (b.length * 2) :=
  flat_len fun p _ => flat_len fun q _ => by
    unfold pairM
    split <;> split <;> simp
theorem any_holds {b : List Pfx} {p : Pfx} (h : b.any (fun q => decide (Holds q p)) = true) {t : Nat} (ht : In t (iv p)) : CovP b t := by
  obtain ⟨q, hq, k⟩ := List.any_eq_true.1 h
  rw [decide_eq_true_eq] at k
  exact ⟨q, hq, ((holds_sub k.2.2.1 k.1).1 k).mem ht⟩
theorem filter_cov {b : List Pfx} {p : Pfx} (hb : Oks b) (hp : PfxOk p) (h : ¬ b.any (fun q => decide (Holds q p)) = true) {t : Nat} (ht : In t (iv p)) : CovP (b.filter fun q => decide (Holds p q)) t ↔ CovP b t := by
  constructor
  · rintro ⟨q, hq, k⟩
    exact ⟨q, (List.mem_filter.1 hq).1, k⟩
  · rintro ⟨q, hq, k⟩
    refine ⟨q, List.mem_filter.2 ⟨hq, decide_eq_true ?_⟩, k⟩
    rcases nest' (iv_ok hp) (iv_ok (hb q hq)) ht k with e | e
    · exact (holds_sub hp (hb q hq)).2 e
    · exact absurd (List.any_eq_true.2 ⟨q, hq, decide_eq_true ((holds_sub (hb q hq) hp).2 e)⟩) h
theorem filter_step {b : List Pfx} {p : Pfx} (hb : Oks b) (hp : PfxOk p) (h : ¬ b.any (fun q => decide (Holds q p)) = true) (h2 : ¬ (b.filter fun q => decide (Holds p q)) = []) : p.bits < width p.adr.ver := by
  refine stat_one (l := b) ?_
  unfold statS
  rw [if_neg h, if_pos]
  obtain ⟨q, hq⟩ := List.exists_mem_of_ne_nil _ h2
  obtain ⟨h3, h4⟩ := List.mem_filter.1 hq
  exact List.any_eq_true.2 ⟨q, h3, h4⟩
theorem rest_ok : ∀ (n : Nat) {p : Pfx} {b : List Pfx}, Oks b → PfxOk p → (n : Int) = width p.adr.ver - p.bits → Oks (restL n p b) ∧ ∀ t, CovP (restL n p b) t ↔ In t (iv p) ∧ ¬ CovP b t := by
  intro n
  induction n with
  | zero =>
    intro p b hb hp hn
    unfold restL
    by_cases h : b.any (fun q => decide (Holds q p)) = true
    · rw [if_pos h]
      exact ⟨fun x hx => (by cases hx), fun t => ⟨fun k => absurd k (covP_nil t), fun k => absurd (any_holds h k.1) k.2⟩⟩
    · rw [if_neg h]
      by_cases h2 : (b.filter fun q => decide (Holds p q)) = []
      · rw [if_pos h2]
        refine ⟨fun x hx => by rw [List.mem_singleton.1 hx]; exact hp, fun t => ?_⟩
        rw [covP_cons]
        constructor
        · rintro (k | k)
          · refine ⟨k, fun c => ?_⟩
            have := (filter_cov hb hp h k).2 c
            rw [h2] at this; exact covP_nil t this
          · exact absurd k (covP_nil t)
        · exact fun k => .inl k.1
      · have := filter_step hb hp h h2; omega
  | succ n ih =>
    intro p b hb hp hn
    unfold restL
    by_cases h : b.any (fun q => decide (Holds q p)) = true
    · rw [if_pos h]
      exact ⟨fun x hx => (by cases hx), fun t => ⟨fun k => absurd k (covP_nil t), fun k => absurd (any_holds h k.1) k.2⟩⟩
    · rw [if_neg h]
      by_cases h2 : (b.filter fun q => decide (Holds p q)) = []
      · rw [if_pos h2]
        refine ⟨fun x hx => by rw [List.mem_singleton.1 hx]; exact hp, fun t => ?_⟩
        rw [covP_cons]
        constructor
        · rintro (k | k)
          · refine ⟨k, fun c => ?_⟩
            have := (filter_cov hb hp h k).2 c
            rw [h2] at this; exact covP_nil t this
          · exact absurd k (covP_nil t)
        · exact fun k => .inl k.1
      · rw [if_neg h2]
        have hw := filter_step hb hp h h2
        have hin : Oks (b.filter fun q => decide (Holds p q)) := fun q hq => hb q (List.mem_filter.1 hq).1
        obtain ⟨l1, l2⟩ := ih hin (loP_ok hp hw) (by unfold loP; simp only; omega)
        obtain ⟨m1, m2⟩ := ih hin (hiP_ok hp hw) (by unfold hiP; simp only; omega)
        have hk : 0 < (iv p).k := by
          have h9 := width_le p.adr.ver; have h8 := hp.2.1; unfold iv; simp only; omega
        rw [iv_lo hp hw] at l2
        rw [iv_hi hp hw] at m2
        refine ⟨fun x hx => ?_, fun t => ?_⟩
        · rcases List.mem_append.1 hx with e | e
          · exact l1 x e
          · exact m1 x e
        · simp only
          rw [covP_app, l2, m2]
          constructor
          · rintro (⟨k1, k2⟩ | ⟨k1, k2⟩)
            · have := (lo_sub hk).mem k1
              exact ⟨this, fun c => k2 ((filter_cov hb hp h this).2 c)⟩
            · have := (hi_sub hk).mem k1
              exact ⟨this, fun c => k2 ((filter_cov hb hp h this).2 c)⟩
          · rintro ⟨k1, k2⟩
            have k3 : ¬ CovP (b.filter fun q => decide (Holds p q)) t := fun c => k2 ((filter_cov hb hp h k1).1 c)
            rcases half_in hk k1 with e | e
            · exact .inl ⟨e, k3⟩
            · exact .inr ⟨e, k3⟩
theorem gap_ok {p : Pfx} (h : PfxOk p) : (gap p : Int) = width p.adr.ver - p.bits := by
  have h1 := h.2.1; have h2 := h.2.2.1
  unfold gap; omega
theorem minus_ok {a b : List Pfx} (ha : Oks a) (hb : Oks b) : Oks (minusL a b) ∧ ∀ t, CovP (minusL a b) t ↔ CovP a t ∧ ¬ CovP b t := by
  refine ⟨fun x hx => ?_, fun t => ?_⟩
  · obtain ⟨p, hp, hx⟩ := List.mem_flatMap.1 hx
    exact (rest_ok (gap p) hb (ha p hp) (gap_ok (ha p hp))).1 x hx
  · constructor
    · rintro ⟨x, hx, h⟩
      obtain ⟨p, hp, hx⟩ := List.mem_flatMap.1 hx
      have := ((rest_ok (gap p) hb (ha p hp) (gap_ok (ha p hp))).2 t).1 ⟨x, hx, h⟩
      exact ⟨⟨p, hp, this.1⟩, this.2⟩
    · rintro ⟨⟨p, hp, h⟩, k⟩
      obtain ⟨x, hx, h'⟩ := ((rest_ok (gap p) hb (ha p hp) (gap_ok (ha p hp))).2 t).2 ⟨h, k⟩
      exact ⟨x, List.mem_flatMap.2 ⟨p, hp, hx⟩, h'⟩
theorem halves_len {b : List Pfx} {p : Pfx} (hp : PfxOk p) (hw : p.bits < width p.adr.ver) : (b.filter fun q => decide (Holds (loP p) q)).length + (b.filter fun q => decide (Holds (hiP p) q)).length ≤ b.length := by
  induction b with
  | nil => simp
  | cons q b ih =>
    have no : ¬ (Holds (loP p) q ∧ Holds (hiP p) q) := fun h => by
      have h1 := (holds_sub (loP_ok hp hw) h.1.1).1 h.1
      have h2 := (holds_sub (hiP_ok hp hw) h.1.1).1 h.2
      rw [iv_lo hp hw] at h1
      rw [iv_hi hp hw] at h2
      have a1 := (h1.mem (In.self _)).2
      have a2 := (h2.mem (In.self _)).1
      rw [half_apart] at a1; omega
    by_cases h1 : Holds (loP p) q
    · have h2 : ¬ Holds (hiP p) q := fun h => no ⟨h1, h⟩
      simp only [List.filter_cons, h1, h2, decide_true, decide_false, if_true, Bool.false_eq_true, if_false, List.length_cons]; omega
    · by_cases h2 : Holds (hiP p) q
      · simp only [List.filter_cons, h1, h2, decide_true, decide_false, if_true, Bool.false_eq_true, if_false, List.length_cons]; omega
      · simp only [List.filter_cons, h1, h2, decide_false, Bool.false_eq_true, if_false, List.length_cons]; omega
theorem rest_len : ∀ (n : Nat) {p : Pfx} {b : List Pfx}, Oks b → PfxOk p → (n : Int) = width p.adr.ver - p.bits → (restL n p b).length ≤ 1 + n * (b.filter fun q => decide (Holds p q)).length := by
  intro n
  induction n with
  | zero =>
    intro p b hb hp hn
    unfold restL
    by_cases h : b.any (fun q => decide (Holds q p)) = true
    · rw [if_pos h]; simp
    · rw [if_neg h]
      by_cases h2 : (b.filter fun q => decide (Holds p q)) = []
      · rw [if_pos h2]; simp
      · rw [if_neg h2]; simp
  | succ n ih =>
    intro p b hb hp hn
    unfold restL
    by_cases h : b.any (fun q => decide (Holds q p)) = true
    · rw [if_pos h]; simp
    · rw [if_neg h]
      by_cases h2 : (b.filter fun q => decide (Holds p q)) = []
      · rw [if_pos h2]; simp
      · rw [if_neg h2]
        have hw := filter_step hb hp h h2
        have hin : Oks (b.filter fun q => decide (Holds p q)) := fun q hq => hb q (List.mem_filter.1 hq).1
        have l1 := ih hin (loP_ok hp hw) (by unfold loP; simp only; omega)
        have m1 := ih hin (hiP_ok hp hw) (by unfold hiP; simp only; omega)
        have hs := halves_len (b := b.filter fun q => decide (Holds p q)) hp hw
        have hpos : 0 < (b.filter fun q => decide (Holds p q)).length := List.length_pos_iff.2 h2
        simp only [List.length_append]
        generalize (b.filter fun q => decide (Holds p q)) = c at *
        have : n * (c.filter fun q => decide (Holds (loP p) q)).length + n * (c.filter fun q => decide (Holds (hiP p) q)).length ≤ n * c.length := by
          rw [← Nat.mul_add]; exact Nat.mul_le_mul_left n hs
        rw [Nat.add_mul, Nat.one_mul]; omega
theorem gap_le (p : Pfx) : gap p ≤ 128 := by have := width_le p.adr.ver; unfold gap; omega
theorem minus_len {a b : List Pfx} (ha : Oks a) (hb : Oks b) : (minusL a b).length ≤ a.length * (1 + 128 * b.length) :=
  flat_len fun p hp => by
    have h1 := rest_len (gap p) hb (ha p hp) (gap_ok (ha p hp))
    have h2 : gap p * (b.filter fun q => decide (Holds p q)).length ≤ 128 * b.length := Nat.mul_le_mul (gap_le p) (List.length_filter_le _ _)
    omega
end Go.Proofs.YtnpdaegfmfkghaaDoor.D
