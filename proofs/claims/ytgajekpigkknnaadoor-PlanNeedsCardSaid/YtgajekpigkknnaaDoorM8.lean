/- Part 8 of the proofs of these statements. No condition. -/
import Derived.Test.YtgajekpigkknnaaDoorM7
import Derived.IntWalk
import Derived.Lib.Bytealg
import Derived.Shelf.SlSortCmp.NoneTotal
set_option linter.unusedVariables false
set_option linter.unusedSimpArgs false
/- Addresses, prefixes and rows as data, and their cells. No condition. -/
set_option linter.unusedSimpArgs false
namespace Go.Proofs.YtgajekpigkknnaaDoor.D
open Go Go.Proofs.YtgajekpigkknnaaDoor.A

structure B16 where
  l : List Nat
  len : l.length = 16
  rng : ∀ x ∈ l, x < 256
  deriving DecidableEq
structure Adr where
  ver : Int
  b : B16
  deriving DecidableEq
structure Pfx where
  adr : Adr
  bits : Int
  deriving DecidableEq
structure Rw where
  p : Pfx
  hop : Int
  deriving DecidableEq

def zerB : B16 := ⟨List.replicate 16 0, rfl, by decide⟩
def zerA : Adr := ⟨0, zerB⟩
def zerP : Pfx := ⟨zerA, 0⟩
def u8c (x : Nat) : AV := .int .u8 (x : Int)
def bav (b : B16) : List AV := b.l.map u8c
def aav (a : Adr) : List AV := .int .i64 a.ver :: bav a.b
def pav (p : Pfx) : List AV := .int .i64 p.adr.ver :: (bav p.adr.b ++ [.int .i64 p.bits])
def rav (r : Rw) : List AV := .int .i64 r.p.adr.ver :: (bav r.p.adr.b ++ [.int .i64 r.p.bits, .int .i64 r.hop])

theorem bav_len (b : B16) : (bav b).length = 16 := by simp [bav, b.len]
theorem aav_len (a : Adr) : (aav a).length = 17 := by simp [aav, bav_len]
theorem pav_len (p : Pfx) : (pav p).length = 18 := by simp [pav, bav_len]
theorem rav_len (r : Rw) : (rav r).length = 19 := by simp [rav, bav_len]
theorem bav_data (b : B16) : dataL (bav b) = true := by
  simp only [dataL, bav, List.all_map, List.all_eq_true, Function.comp]
  intro x _; rfl
theorem all_data (l r : List AV) : dataL (l ++ r) = (dataL l && dataL r) := by simp [dataL]
theorem aav_data (a : Adr) : dataL (aav a) = true := by
  have := bav_data a.b; simp only [dataL, aav, List.all_cons, AV.isData, Bool.true_and] at *; exact this
theorem pav_data (p : Pfx) : dataL (pav p) = true := by
  have := bav_data p.adr.b
  simp only [dataL, pav, List.all_cons, AV.isData, Bool.true_and, List.all_append, List.all_nil, Bool.and_true] at *; exact this
theorem rav_data (r : Rw) : dataL (rav r) = true := by
  have := bav_data r.p.adr.b
  simp only [dataL, rav, List.all_cons, AV.isData, Bool.true_and, List.all_append, List.all_nil, Bool.and_true] at *; exact this
theorem below_data (m : Nat) : ∀ {l : List AV}, dataL l = true → belowL m l = true
  | [], _ => rfl
  | a :: l, h => by
    simp only [dataL, List.all_cons, Bool.and_eq_true] at h
    simp only [belowL, below_data m (l := l) h.2, Bool.and_true]
    cases a <;> first | rfl | (have := h.1; cases this)
theorem bav_below (m : Nat) (b : B16) : belowL m (bav b) = true := below_data m (bav_data b)
theorem aav_below (m : Nat) (b : Adr) : belowL m (aav b) = true := below_data m (aav_data b)
theorem pav_below (m : Nat) (b : Pfx) : belowL m (pav b) = true := below_data m (pav_data b)
theorem rav_below (m : Nat) (b : Rw) : belowL m (rav b) = true := below_data m (rav_data b)

theorem pc_all (l : List AV) (n : Nat) (h : l.length = n) : piece l 0 n = some l := by
  unfold piece; rw [if_pos (by omega)]; subst h; simp
theorem bav_p (b : B16) : piece (bav b) 0 16 = some (bav b) := pc_all _ _ (bav_len b)
theorem aav_p (a : Adr) : piece (aav a) 0 17 = some (aav a) := pc_all _ _ (aav_len a)
theorem pav_p (p : Pfx) : piece (pav p) 0 18 = some (pav p) := pc_all _ _ (pav_len p)
theorem rav_p (r : Rw) : piece (rav r) 0 19 = some (rav r) := pc_all _ _ (rav_len r)
theorem aav_v (a : Adr) : piece (aav a) 0 1 = some [.int .i64 a.ver] := by
  unfold piece; rw [if_pos (by rw [aav_len]; omega)]; rfl
theorem pav_v (a : Pfx) : piece (pav a) 0 1 = some [.int .i64 a.adr.ver] := by
  unfold piece; rw [if_pos (by rw [pav_len]; omega)]; rfl
theorem rav_v (a : Rw) : piece (rav a) 0 1 = some [.int .i64 a.p.adr.ver] := by
  unfold piece; rw [if_pos (by rw [rav_len]; omega)]; rfl
theorem aav_b (a : Adr) : piece (aav a) 1 16 = some (bav a.b) := by
  unfold piece; rw [if_pos (by rw [aav_len]; omega)]
  have := bav_len a.b
  simp only [aav, List.drop_succ_cons, List.drop_zero]
  rw [← this, List.take_length]
theorem pav_b (a : Pfx) : piece (pav a) 1 16 = some (bav a.adr.b) := by
  unfold piece; rw [if_pos (by rw [pav_len]; omega)]
  have := bav_len a.adr.b
  simp only [pav, List.drop_succ_cons, List.drop_zero]
  rw [← this, List.take_left]
theorem rav_b (a : Rw) : piece (rav a) 1 16 = some (bav a.p.adr.b) := by
  unfold piece; rw [if_pos (by rw [rav_len]; omega)]
  have := bav_len a.p.adr.b
  simp only [rav, List.drop_succ_cons, List.drop_zero]
  rw [← this, List.take_left]
theorem pav_a (a : Pfx) : piece (pav a) 0 17 = some (aav a.adr) := by
  unfold piece; rw [if_pos (by rw [pav_len]; omega)]
  have := bav_len a.adr.b
  simp only [pav, aav, List.take_succ_cons, List.drop_zero]
  rw [← this, List.take_left]
theorem rav_a (a : Rw) : piece (rav a) 0 17 = some (aav a.p.adr) := by
  unfold piece; rw [if_pos (by rw [rav_len]; omega)]
  have := bav_len a.p.adr.b
  simp only [rav, aav, List.take_succ_cons, List.drop_zero]
  rw [← this, List.take_left]
theorem drop16 (b : B16) (r : List AV) (n : Nat) : (bav b ++ r).drop (16 + n) = r.drop n := by
  rw [← bav_len b, List.drop_append]; simp
theorem pav_n (a : Pfx) : piece (pav a) 17 1 = some [.int .i64 a.bits] := by
  unfold piece; rw [if_pos (by rw [pav_len]; omega)]
  simp only [pav, List.drop_succ_cons]
  rw [show (16 : Nat) = 16 + 0 from rfl, drop16]; rfl
theorem rav_n (a : Rw) : piece (rav a) 17 1 = some [.int .i64 a.p.bits] := by
  unfold piece; rw [if_pos (by rw [rav_len]; omega)]
  simp only [rav, List.drop_succ_cons]
  rw [show (16 : Nat) = 16 + 0 from rfl, drop16]; rfl
theorem rav_h (a : Rw) : piece (rav a) 18 1 = some [.int .i64 a.hop] := by
  unfold piece; rw [if_pos (by rw [rav_len]; omega)]
  simp only [rav, List.drop_succ_cons]
  rw [show (17 : Nat) = 16 + 1 from rfl, drop16]; rfl
theorem rav_pf (a : Rw) : piece (rav a) 0 18 = some (pav a.p) := by
  unfold piece; rw [if_pos (by rw [rav_len]; omega)]
  have := bav_len a.p.adr.b
  simp only [rav, pav, List.take_succ_cons, List.drop_zero]
  rw [show (17 : Nat) = (bav a.p.adr.b).length + 1 by rw [this], List.take_length_add_append]; rfl

def B16.get (b : B16) (n : Nat) : Nat := b.l.getD n 0
theorem B16.get_lt (b : B16) (n : Nat) : b.get n < 256 := by
  unfold B16.get
  rw [List.getD_eq_getElem?_getD]
  cases h : b.l[n]? with
  | none => simp
  | some x => simpa using b.rng x (List.mem_of_getElem? h)
theorem B16.get_some (b : B16) {n : Nat} (h : n < 16) : b.l[n]? = some (b.get n) := by
  have h' : n < b.l.length := by rw [b.len]; exact h
  simp [B16.get, List.getElem?_eq_getElem h']
theorem bav_i (b : B16) (n : Nat) (h : n < 16) : piece (bav b) n 1 = some [.int .u8 (b.get n : Int)] := by
  unfold piece; rw [if_pos (by rw [bav_len]; omega)]
  have h' : n < (bav b).length := by rw [bav_len]; exact h
  rw [List.drop_eq_getElem_cons h']
  have : (bav b)[n]? = some (u8c (b.get n)) := by simp [bav, b.get_some h]
  rw [List.getElem?_eq_getElem h'] at this
  rw [Option.some.inj this]
  rfl
theorem B16.ext' {a b : B16} (h : ∀ n < 16, a.get n = b.get n) : a = b := by
  have : a.l = b.l := List.ext_getElem? fun n => by
    by_cases hn : n < 16
    · rw [a.get_some hn, b.get_some hn, h n hn]
    · rw [List.getElem?_eq_none (by rw [a.len]; omega), List.getElem?_eq_none (by rw [b.len]; omega)]
  cases a; cases b; simp only [B16.mk.injEq]; exact this
def B16.put (b : B16) (n v : Nat) : B16 := if h : v < 256 then ⟨b.l.set n v, by simp [b.len], fun x hx => by
  rcases List.mem_or_eq_of_mem_set hx with h' | h'
  · exact b.rng x h'
  · omega⟩ else b
def gen (f : Nat → Nat) : B16 := ⟨(List.range 16).map (fun i => f i % 256), by simp, fun x hx => by
  obtain ⟨i, _, rfl⟩ := List.mem_map.1 hx; exact Nat.mod_lt _ (by decide)⟩
/-! ### Bits -/
def bit (b : B16) (k : Nat) : Bool := (b.get (k / 8)).testBit (7 - k % 8)
def Clr (b : B16) (n : Nat) : Prop := ∀ k, n ≤ k → k < 128 → bit b k = false
instance {b : B16} {n : Nat} : Decidable (Clr b n) := decidable_of_iff (∀ k, k < 128 → n ≤ k → bit b k = false) ⟨fun h k h1 h2 => h k h2 h1, fun h k h1 h2 => h k h2 h1⟩
def width (v : Int) : Nat := if v = 4 then 32 else if v = 6 then 128 else 0
def AddrOk (a : Adr) : Prop := width a.ver ≠ 0 ∧ Clr a.b (width a.ver)
instance {a : Adr} : Decidable (AddrOk a) := by unfold AddrOk; infer_instance
def PfxOk (p : Pfx) : Prop := AddrOk p.adr ∧ 0 ≤ p.bits ∧ p.bits ≤ width p.adr.ver ∧ Clr p.adr.b p.bits.toNat
instance {p : Pfx} : Decidable (PfxOk p) := by unfold PfxOk; infer_instance
def cutN (x n : Nat) : Nat := x / 2 ^ (8 - n) * 2 ^ (8 - n)
def cut (b : B16) (n : Nat) : B16 := gen fun i => cutN (b.get i) (n - 8 * i)
def Has (p : Pfx) (a : Adr) : Prop := PfxOk p ∧ AddrOk a ∧ p.adr.ver = a.ver ∧ cut a.b p.bits.toNat = p.adr.b
instance {p : Pfx} {a : Adr} : Decidable (Has p a) := by unfold Has; infer_instance
def Holds (p q : Pfx) : Prop := PfxOk q ∧ p.bits ≤ q.bits ∧ Has p q.adr
instance {p q : Pfx} : Decidable (Holds p q) := by unfold Holds; infer_instance
/-! ### Whole numbers in the machine -/
theorem quo8 (k : Nat) (h : k ≤ 9223372036854775807) : IntKind.i64.wrap ((k : Int).tdiv 8) = ((k / 8 : Nat) : Int) := by
  rw [IntWalk.i64_quo _ _ (by omega)]; omega
theorem rem8 (k : Nat) : (k : Int).tmod 8 = ((k % 8 : Nat) : Int) := by
  rw [Int.tmod_eq_emod_of_nonneg (by omega)]; omega
theorem sub7 (k : Nat) : IntKind.i64.wrap (7 - ((k % 8 : Nat) : Int)) = ((7 - k % 8 : Nat) : Int) := by
  rw [IntWalk.i64_in _ (by omega)]; omega
theorem shrN (x j : Nat) (h : j ≤ 8) : ((x : Int).fdiv (2 ^ (Nat.min j 8))) = ((x / 2 ^ j : Nat) : Int) := by
  rw [show Nat.min j 8 = j from Nat.min_eq_left h, Int.fdiv_eq_ediv_of_nonneg _ (Int.pow_nonneg (by decide))]
  simp
theorem and1 (x : Nat) (h : x < 256) : bits2 .and .u8 (x : Int) 1 = some ((x % 2 : Nat) : Int) := by
  have : ∀ x < 256, bits2 .and .u8 ((x : Nat) : Int) 1 = some ((x % 2 : Nat) : Int) := by decide +kernel
  exact this x h
theorem bit_and (b : B16) (k : Nat) : (((b.get (k / 8) / 2 ^ (7 - k % 8)) % 2 : Nat) : Int) = if bit b k then 1 else 0 := by
  unfold bit
  rw [Nat.testBit_eq_decide_div_mod_eq]
  have := Nat.mod_two_eq_zero_or_one (b.get (k / 8) / 2 ^ (7 - k % 8))
  rcases this with h | h <;> rw [h] <;> simp

theorem eqInts (k : IntKind) : ∀ (l r : List Int), l.length = r.length → eqCells (List.replicate l.length 1) (l.map (.int k)) (r.map (.int k)) = some (decide (l = r))
  | [], [], _ => rfl
  | a :: l, b :: r, h => by
    simp only [List.length_cons, List.replicate_succ, List.map_cons, eqCells, A.kindOk, if_true, eqCell, eqInts k l r (by simpa using h), List.cons.injEq, Option.some.injEq]
    by_cases h1 : a = b <;> by_cases h2 : l = r <;> simp [h1, h2]
  | [], _ :: _, h => by simp at h
  | _ :: _, [], h => by simp at h
theorem eqCells_append : ∀ (k1 k2 : List Nat) (a b c d : List AV), k1.length = a.length → a.length = c.length → eqCells (k1 ++ k2) (a ++ b) (c ++ d) = match eqCells k1 a c, eqCells k2 b d with
    | some x, some y => some (x && y)
    | _, _ => none
  | [], k2, [], b, [], d, _, _ => by
    simp only [List.nil_append, eqCells]
    cases eqCells k2 b d <;> simp
  | n :: k1, k2, x :: a, b, y :: c, d, h1, h2 => by
    simp only [List.cons_append, eqCells]
    rw [eqCells_append k1 k2 a b c d (by simpa using h1) (by simpa using h2)]
    cases A.kindOk n x <;> simp only [Bool.false_eq_true, if_false, if_true]
    cases eqCell x y <;> cases eqCells k1 a c <;> cases eqCells k2 b d <;> simp [Bool.and_assoc]
  | [], _, _ :: _, _, _, _, h, _ => by simp at h
  | _ :: _, _, [], _, _, _, h, _ => by simp at h
  | _, _, [], _, _ :: _, _, _, h => by simp at h
  | _, _, _ :: _, _, [], _, _, h => by simp at h
theorem bav_ints (b : B16) : bav b = (b.l.map (fun x : Nat => (x : Int))).map (.int .u8) := by simp only [bav, List.map_map]; rfl
theorem eq_bav (a b : B16) : eqCells [1, 1, 1, 1, 1, 1, 1, 1, 1, 1, 1, 1, 1, 1, 1, 1] (bav a) (bav b) = some (decide (a = b)) := by
  have h := eqInts .u8 (a.l.map fun x : Nat => (x : Int)) (b.l.map fun x : Nat => (x : Int)) (by simp [a.len, b.len])
  rw [← bav_ints, ← bav_ints] at h
  simp only [List.length_map, a.len] at h
  refine h.trans (congrArg some (decide_eq_decide.2 ?_))
  constructor
  · intro h
    have : a.l = b.l := List.map_inj_right (fun x y h => Int.ofNat.inj h) |>.1 h
    cases a; cases b; simp only [B16.mk.injEq]; exact this
  · intro h; rw [h]
theorem eq1 (k : IntKind) (x y : Int) : eqCells [1] [.int k x] [.int k y] = some (decide (x = y)) := by
  simp only [eqCells, A.kindOk, if_true, eqCell, Bool.and_true, Option.some.injEq]
  by_cases h : x = y <;> simp [h]
theorem eq_aav (a b : Adr) : eqCells [1, 1, 1, 1, 1, 1, 1, 1, 1, 1, 1, 1, 1, 1, 1, 1, 1] (aav a) (aav b) = some (decide (a = b)) := by
  have := eqCells_append [1] [1, 1, 1, 1, 1, 1, 1, 1, 1, 1, 1, 1, 1, 1, 1, 1] [.int .i64 a.ver] (bav a.b) [.int .i64 b.ver] (bav b.b) rfl rfl
  rw [eq1, eq_bav] at this
  refine this.trans (congrArg some ?_)
  obtain ⟨v, x⟩ := a; obtain ⟨w, y⟩ := b
  by_cases h1 : v = w <;> by_cases h2 : x = y <;> simp [h1, h2]
theorem eq_pav (a b : Pfx) : eqCells [1, 1, 1, 1, 1, 1, 1, 1, 1, 1, 1, 1, 1, 1, 1, 1, 1, 1] (pav a) (pav b) = some (decide (a = b)) := by
  have := eqCells_append [1, 1, 1, 1, 1, 1, 1, 1, 1, 1, 1, 1, 1, 1, 1, 1, 1] [1] (aav a.adr) [.int .i64 a.bits] (aav b.adr) [.int .i64 b.bits] (by rw [aav_len]; rfl) (by rw [aav_len, aav_len])
  rw [eq1, eq_aav] at this
  refine this.trans (congrArg some ?_)
  obtain ⟨v, x⟩ := a; obtain ⟨w, y⟩ := b
  by_cases h1 : v = w <;> by_cases h2 : x = y <;> simp [h1, h2]
theorem eq_rav (a b : Rw) : eqCells [1, 1, 1, 1, 1, 1, 1, 1, 1, 1, 1, 1, 1, 1, 1, 1, 1, 1, 1] (rav a) (rav b) = some (decide (a = b)) := by
  have := eqCells_append [1, 1, 1, 1, 1, 1, 1, 1, 1, 1, 1, 1, 1, 1, 1, 1, 1, 1] [1] (pav a.p) [.int .i64 a.hop] (pav b.p) [.int .i64 b.hop] (by rw [pav_len]; rfl) (by rw [pav_len, pav_len])
  have e : ∀ a : Rw, pav a.p ++ [.int .i64 a.hop] = rav a := fun a => by simp [pav, rav]
  rw [eq1, eq_pav, e, e] at this
  refine this.trans (congrArg some ?_)
  obtain ⟨v, x⟩ := a; obtain ⟨w, y⟩ := b
  by_cases h1 : v = w <;> by_cases h2 : x = y <;> simp [h1, h2]

theorem ovr_all (l r : List AV) (h : l.length = r.length) : ovr l 0 r = some r := by
  unfold ovr; rw [if_pos (by omega)]; simp [h]
theorem bav_o (l : List AV) (b : B16) (h : l.length = 16) : ovr l 0 (bav b) = some (bav b) := ovr_all _ _ (by rw [h, bav_len])
theorem aav_o (l : List AV) (b : Adr) (h : l.length = 17) : ovr l 0 (aav b) = some (aav b) := ovr_all _ _ (by rw [h, aav_len])
theorem pav_o (l : List AV) (b : Pfx) (h : l.length = 18) : ovr l 0 (pav b) = some (pav b) := ovr_all _ _ (by rw [h, pav_len])
theorem rav_o (l : List AV) (b : Rw) (h : l.length = 19) : ovr l 0 (rav b) = some (rav b) := ovr_all _ _ (by rw [h, rav_len])
theorem aav_ob (a : Adr) (b : B16) : ovr (aav a) 1 (bav b) = some (aav ⟨a.ver, b⟩) := by
  unfold ovr; rw [if_pos (by rw [aav_len, bav_len]; omega)]
  simp only [aav, bav_len, List.take_succ_cons, List.take_zero, List.cons_append, List.nil_append, List.drop_succ_cons]
  rw [List.drop_eq_nil_of_le (by rw [bav_len]; omega)]; simp
theorem pav_oa (p : Pfx) (a : Adr) : ovr (pav p) 0 (aav a) = some (pav ⟨a, p.bits⟩) := by
  unfold ovr; rw [if_pos (by rw [pav_len, aav_len]; omega)]
  simp only [aav_len, List.take_zero, List.nil_append, Nat.zero_add]
  simp only [pav, aav, List.drop_succ_cons]
  rw [show (16 : Nat) = 16 + 0 from rfl, drop16]; rfl
theorem pav_on (p : Pfx) (n : Int) : ovr (pav p) 17 [.int .i64 n] = some (pav ⟨p.adr, n⟩) := by
  unfold ovr; rw [if_pos (by rw [pav_len]; simp)]
  have h := bav_len p.adr.b
  simp only [pav, List.take_succ_cons, List.length_cons, List.length_nil, List.drop_succ_cons]
  rw [show (bav p.adr.b ++ [AV.int IntKind.i64 p.bits]).take 16 = bav p.adr.b by rw [← h, List.take_left], show (17 : Nat) = 16 + 1 from rfl, drop16]; simp
theorem DB : (((((type_of% (@bav_len) ∧ type_of% (@aav_len)) ∧ (type_of% (@pav_len) ∧ type_of% (@rav_len))) ∧ ((type_of% (@bav_data) ∧ type_of% (@aav_data)) ∧ (type_of% (@pav_data) ∧ type_of% (@rav_data)))) ∧ (((type_of% (@bav_p) ∧ type_of% (@aav_p)) ∧ (type_of% (@pav_p) ∧ type_of% (@rav_p))) ∧ ((type_of% (@aav_v) ∧ type_of% (@pav_v)) ∧ (type_of% (@rav_v) ∧ (type_of% (@aav_b) ∧ type_of% (@pav_b)))))) ∧ ((((type_of% (@rav_b) ∧ type_of% (@pav_a)) ∧ (type_of% (@rav_a) ∧ type_of% (@pav_n))) ∧ ((type_of% (@rav_n) ∧ type_of% (@rav_h)) ∧ (type_of% (@rav_pf) ∧ (type_of% (@bav_o) ∧ type_of% (@pav_o))))) ∧ (((type_of% (@aav_o) ∧ type_of% (@rav_o)) ∧ (type_of% (@aav_ob) ∧ type_of% (@pav_oa))) ∧ ((type_of% (@pav_on) ∧ type_of% (@eq_bav)) ∧ (type_of% (@eq_aav) ∧ (type_of% (@eq_pav) ∧ type_of% (@eq_rav))))))) := ⟨⟨⟨⟨⟨@bav_len, @aav_len⟩, ⟨@pav_len, @rav_len⟩⟩, ⟨⟨@bav_data, @aav_data⟩, ⟨@pav_data, @rav_data⟩⟩⟩, ⟨⟨⟨@bav_p, @aav_p⟩, ⟨@pav_p, @rav_p⟩⟩, ⟨⟨@aav_v, @pav_v⟩, ⟨@rav_v, ⟨@aav_b, @pav_b⟩⟩⟩⟩⟩, ⟨⟨⟨⟨@rav_b, @pav_a⟩, ⟨@rav_a, @pav_n⟩⟩, ⟨⟨@rav_n, @rav_h⟩, ⟨@rav_pf, ⟨@bav_o, @pav_o⟩⟩⟩⟩, ⟨⟨⟨@aav_o, @rav_o⟩, ⟨@aav_ob, @pav_oa⟩⟩, ⟨⟨@pav_on, @eq_bav⟩, ⟨@eq_aav, ⟨@eq_pav, @eq_rav⟩⟩⟩⟩⟩⟩
theorem LPB : ((((type_of% (@refs_int) ∧ (type_of% (@refs_bool) ∧ type_of% (@refs_str))) ∧ ((type_of% (@refs_ro) ∧ type_of% (@refs_clip)) ∧ (type_of% (@refs_nilf) ∧ type_of% (@refs_nilp)))) ∧ (((type_of% (@refs_rp) ∧ type_of% (@refs_yld)) ∧ (type_of% (@refs_yp) ∧ type_of% (@refs_refs))) ∧ ((type_of% (@refs_rq) ∧ type_of% (@belowR_nil)) ∧ (type_of% (@belowR_cons) ∧ type_of% (@refs_ptr))))) ∧ (((type_of% (@refs_lis) ∧ (type_of% (@refs_clo) ∧ type_of% (@refs_agg))) ∧ ((type_of% (@refs_tup) ∧ type_of% (@below_nil)) ∧ (type_of% (@below_cons) ∧ type_of% (@bref_dead)))) ∧ (((type_of% (@bref_box) ∧ type_of% (@bref_lst)) ∧ (type_of% (@ball_nil) ∧ type_of% (@ball_cons))) ∧ ((type_of% (@bav_below) ∧ type_of% (@aav_below)) ∧ (type_of% (@pav_below) ∧ type_of% (@rav_below)))))) := ⟨⟨⟨⟨@refs_int, ⟨@refs_bool, @refs_str⟩⟩, ⟨⟨@refs_ro, @refs_clip⟩, ⟨@refs_nilf, @refs_nilp⟩⟩⟩, ⟨⟨⟨@refs_rp, @refs_yld⟩, ⟨@refs_yp, @refs_refs⟩⟩, ⟨⟨@refs_rq, @belowR_nil⟩, ⟨@belowR_cons, @refs_ptr⟩⟩⟩⟩, ⟨⟨⟨@refs_lis, ⟨@refs_clo, @refs_agg⟩⟩, ⟨⟨@refs_tup, @below_nil⟩, ⟨@below_cons, @bref_dead⟩⟩⟩, ⟨⟨⟨@bref_box, @bref_lst⟩, ⟨@ball_nil, @ball_cons⟩⟩, ⟨⟨@bav_below, @aav_below⟩, ⟨@pav_below, @rav_below⟩⟩⟩⟩⟩
end Go.Proofs.YtgajekpigkknnaaDoor.D

/- The order of prefixes, as data. No condition. -/
set_option linter.unusedSimpArgs false
namespace Go.Proofs.YtgajekpigkknnaaDoor.D
open Go Go.Proofs.YtgajekpigkknnaaDoor.A
def lexL : List Int → List Int → Int
  | a :: l, b :: r => if a < b then -1 else if b < a then 1 else lexL l r
  | _, _ => 0
def ints (b : B16) : List Int := b.l.map fun x : Nat => (x : Int)
def key (p : Pfx) : List Int := p.adr.ver :: (ints p.adr.b ++ [p.bits])
def cmpP (p q : Pfx) : Int := lexL (key p) (key q)
theorem ints_len (b : B16) : (ints b).length = 16 := by simp [ints, b.len]
theorem key_len (p : Pfx) : (key p).length = 18 := by simp [key, ints_len]
theorem lex_bytes : ∀ (l r : List Nat), l.length = r.length → (∀ x ∈ l, x < 256) → (∀ x ∈ r, x < 256) → Lib.compareBytes (l.map Nat.toUInt8) (r.map Nat.toUInt8) = lexL (l.map fun x : Nat => (x : Int)) (r.map fun x : Nat => (x : Int))
  | [], [], _, _, _ => rfl
  | a :: l, b :: r, h, h1, h2 => by
    have ih := lex_bytes l r (by simpa using h) (fun x hx => h1 x (List.mem_cons_of_mem _ hx)) (fun x hx => h2 x (List.mem_cons_of_mem _ hx))
    have ha := h1 a List.mem_cons_self
    have hb := h2 b List.mem_cons_self
    simp only [List.map_cons, lexL, Lib.compareBytes, ih]
    have e : ∀ x y : Nat, x < 256 → y < 256 → (x.toUInt8 < y.toUInt8 ↔ (x : Int) < (y : Int)) := fun x y hx hy => by
      rw [UInt8.lt_iff_toNat_lt]
      simp only [Nat.toUInt8_eq, UInt8.toNat_ofNat', Nat.reducePow]
      rw [Nat.mod_eq_of_lt hx, Nat.mod_eq_of_lt hy]; omega
    simp only [e a b ha hb, e b a hb ha]
  | [], _ :: _, h, _, _ => by simp at h
  | _ :: _, [], h, _, _ => by simp at h
def brows (b : B16) : List (List AV) := (bav b).map fun c => [c]
theorem brows_bytes (b : B16) : (brows b).mapM A.byteOf = some (b.l.map Nat.toUInt8) := by
  unfold brows bav
  rw [List.map_map]
  have : ∀ l : List Nat, (l.map ((fun c => [c]) ∘ u8c)).mapM A.byteOf = some (l.map Nat.toUInt8) := fun l => by
    induction l with
    | nil => rfl
    | cons a l ih => rw [List.map_cons, mapO_cons, ih]; rfl
  exact this b.l
theorem cmp_b16 (a b : B16) : pCmp [.ro (brows a), .ro (brows b)] [] = some (.int .i64 (lexL (ints a) (ints b)), []) := by
  simp only [pCmp, rowsOf, brows_bytes]
  rw [Lib.cmp_eq]
  exact congrArg (fun x => some (AV.int .i64 x, [])) (lex_bytes a.l b.l (by rw [a.len, b.len]) a.rng b.rng)
theorem lex_append : ∀ (a b c d : List Int), a.length = b.length → lexL (a ++ c) (b ++ d) = if lexL a b ≠ 0 then lexL a b else lexL c d
  | [], [], c, d, _ => by simp [lexL]
  | x :: a, y :: b, c, d, h => by
    simp only [List.cons_append, lexL, lex_append a b c d (by simpa using h)]
    by_cases h1 : x < y
    · simp [h1]
    · by_cases h2 : y < x
      · simp [h1, h2]
      · simp [h1, h2]
  | [], _ :: _, _, _, h => by simp at h
  | _ :: _, [], _, _, h => by simp at h
theorem mutIds_data {l : List AV} (h : dataL l = true) : mutIds l = [] := by
  induction l with
  | nil => rfl
  | cons a l ih =>
    simp only [data_cons, Bool.and_eq_true] at h
    cases a <;> first | exact ih h.2 | (have := h.1; cases this)
theorem lex_anti : ∀ l r : List Int, lexL l r = - lexL r l
  | a :: l, b :: r => by
    simp only [lexL]
    by_cases h1 : a < b
    · simp [h1, show ¬ b < a by omega]
    · by_cases h2 : b < a
      · simp [h1, h2]
      · simp [h1, h2, lex_anti l r]
  | [], [] => rfl
  | [], _ :: _ => rfl
  | _ :: _, [] => rfl
theorem lex_self (l : List Int) : lexL l l = 0 := by
  have := lex_anti l l; omega
theorem lex_zero : ∀ {l r : List Int}, l.length = r.length → lexL l r = 0 → l = r
  | [], [], _, _ => rfl
  | a :: l, b :: r, h, h0 => by
    simp only [lexL] at h0
    by_cases h1 : a < b
    · simp [h1] at h0
    · by_cases h2 : b < a
      · simp [h1, h2] at h0
      · simp only [h1, h2, if_false] at h0
        rw [lex_zero (by simpa using h) h0, show a = b by omega]
  | [], _ :: _, h, _ => by simp at h
  | _ :: _, [], h, _ => by simp at h
theorem lex_trans : ∀ {l r s : List Int}, l.length = r.length → r.length = s.length → lexL l r < 0 → lexL r s < 0 → lexL l s < 0
  | [], [], [], _, _, h, _ => by simp [lexL] at h
  | a :: l, b :: r, c :: s, h1, h2, h3, h4 => by
    simp only [lexL] at h3 h4 ⊢
    have ih := lex_trans (l := l) (r := r) (s := s) (by simpa using h1) (by simpa using h2)
    by_cases e1 : a < b
    · by_cases e2 : b < c
      · simp [show a < c by omega]
      · by_cases e3 : c < b
        · simp [e2, e3] at h4
        · simp [show a < c by omega]
    · by_cases e2 : b < a
      · simp [e1, e2] at h3
      · simp only [e1, e2, if_false] at h3
        by_cases e3 : b < c
        · simp [show a < c by omega]
        · by_cases e4 : c < b
          · simp [e3, e4] at h4
          · simp only [e3, e4, if_false] at h4
            simp only [show ¬ a < c by omega, show ¬ c < a by omega, if_false]
            exact ih h3 h4
  | [], _ :: _, _, h, _, _, _ => by simp at h
  | _ :: _, [], _, h, _, _, _ => by simp at h
  | _, [], _ :: _, _, h, _, _ => by simp at h
  | _, _ :: _, [], _, h, _, _ => by simp at h
theorem key_inj {p q : Pfx} (h : key p = key q) : p = q := by
  obtain ⟨⟨v, ⟨l, hl, _⟩⟩, n⟩ := p
  obtain ⟨⟨w, ⟨r, hr, _⟩⟩, m⟩ := q
  simp only [key, ints, List.cons.injEq] at h
  obtain ⟨rfl, h⟩ := h
  obtain ⟨h1, h2⟩ := List.append_inj h (by simp [hl, hr])
  have h3 : l = r := (List.map_inj_right (fun x y h => Int.ofNat.inj h)).1 h1
  subst h3
  simp only [List.cons.injEq, and_true] at h2
  subst h2; rfl
theorem cmp_anti (p q : Pfx) : cmpP p q = - cmpP q p := lex_anti _ _
theorem cmp_self (p : Pfx) : cmpP p p = 0 := lex_self _
theorem cmp_zero {p q : Pfx} (h : cmpP p q = 0) : p = q := key_inj (lex_zero (by rw [key_len, key_len]) h)
theorem cmp_trans {p q r : Pfx} (h1 : cmpP p q < 0) (h2 : cmpP q r < 0) : cmpP p r < 0 := lex_trans (by rw [key_len, key_len]) (by rw [key_len, key_len]) h1 h2
end Go.Proofs.YtgajekpigkknnaaDoor.D
namespace Go.Proofs.YtgajekpigkknnaaDoor.F
open Go Go.Proofs.YtgajekpigkknnaaDoor.A Go.Proofs.YtgajekpigkknnaaDoor.D
def cmpI (a b : Int) : Int := if a < b then -1 else if b < a then 1 else 0
theorem lex1 (a b : Int) : lexL [a] [b] = cmpI a b := by simp only [lexL, cmpI]
theorem cmp_key (p q : Pfx) : cmpP p q = if cmpI p.adr.ver q.adr.ver ≠ 0 then cmpI p.adr.ver q.adr.ver else if lexL (ints p.adr.b) (ints q.adr.b) ≠ 0 then lexL (ints p.adr.b) (ints q.adr.b) else cmpI p.bits q.bits := by
  have := lex_append [p.adr.ver] [q.adr.ver] (ints p.adr.b ++ [p.bits]) (ints q.adr.b ++ [q.bits]) rfl
  rw [lex_append (ints p.adr.b) (ints q.adr.b) _ _ (by rw [ints_len, ints_len]), lex1, lex1] at this
  exact this
end Go.Proofs.YtgajekpigkknnaaDoor.F

/- What the evaluator is told of a comparison, ahead of the sort. No condition. -/
namespace Go.Proofs.YtgajekpigkknnaaDoor.F0
open Go Go.Proofs.YtgajekpigkknnaaDoor.A Go.Proofs.YtgajekpigkknnaaDoor.F
def fns : FuncId → Option AFunc
  | 68 => some f68
  | 71 => some f71
  | 72 => some f72
  | 73 => some f73
  | 91 => some f91
  | 92 => some f92
  | _ => none
def prims : FuncId → Option (List AV → List Blk → Option (AV × List Blk))
  | 105 => some (pCmp)
  | _ => none
def E : Env := ⟨fns, prims⟩
theorem envOk : EnvOk Tryd.prog G E := by
  refine ⟨fun f af _ h => ?_, fun f p h => ?_⟩
  · show ∃ fm g, _
    change fns f = some af at h
    unfold fns at h
    split at h
    · cases h; exact ⟨Tryd.f68, f68, Tryd.func68, by kernel_rfl, c68⟩
    · cases h; exact ⟨Tryd.f71, f71, Tryd.func71, by kernel_rfl, c71⟩
    · cases h; exact ⟨Tryd.f72, f72, Tryd.func72, by kernel_rfl, c72⟩
    · cases h; exact ⟨Tryd.f73, f73, Tryd.func73, by kernel_rfl, c73⟩
    · cases h; exact ⟨Tryd.f91, f91, Tryd.func91, by kernel_rfl, c91⟩
    · cases h; exact ⟨Tryd.f92, f92, Tryd.func92, by kernel_rfl, c92⟩
    · cases h
  · change prims f = some p at h
    unfold prims at h
    split at h
    · cases h; exact pCmp_ok Tryd.func105 (by kernel_rfl) (by kernel_rfl) (by kernel_rfl) (by kernel_rfl)
    · cases h
end Go.Proofs.YtgajekpigkknnaaDoor.F0

/- The comparison of prefixes, ahead of the sort. No condition. -/
set_option linter.unusedSimpArgs false
namespace Go.Proofs.YtgajekpigkknnaaDoor.F0
open Go Go.Proofs.YtgajekpigkknnaaDoor.A Go.Proofs.YtgajekpigkknnaaDoor.D Go.Proofs.YtgajekpigkknnaaDoor.F
theorem e_cmp_isNaN_int (v : Int) : LV E 92 [.int .i64 v] = some (.bool false) := by
  rw [LV_R (fn := f92) rfl rfl rfl]
  simp only [f92, RB, abin, cmpInt, params, Nat.reduceEqDiff, ↓reduceIte, reduceCtorEq, bne_self_eq_false]
theorem e_cmp_Compare_int (a b : Int) : LV E 73 [.int .i64 a, .int .i64 b] = some (.int .i64 (cmpI a b)) := by
  rw [LV_R (fn := f73) rfl rfl rfl]
  simp only [f73, RB, abin, cmpInt, params, argIds, Nat.reduceEqDiff, Int.reduceNeg, ↓reduceIte, reduceCtorEq, e_cmp_isNaN_int]
  (repeat' (first
    | (refine Ci_cases (fun h => ?_) (fun h => ?_) <;> simp only [h, RB, abin, cmpInt, Nat.reduceEqDiff, Int.reduceNeg, ↓reduceIte, reduceCtorEq])
    | (refine Gi_cases (fun h => ?_) (fun h => ?_) <;> simp only [h, RB, pickV, eqbV, notV, negV, convV, faddrV, fldV, idxV, eqaggV, iaddrV, isnilV, nilckV, pnilV, cloV, extrV, slenV, minV, sidxV, abin, cmpInt, params, growLists, fillCells, newAt, rdPtr, wrPtr, AV.cells, asVal, lenOf, boundOf, rowsOf, argIds, freshIn, scalar1, setAll, AV.isData, AV.isYld, Nat.reduceAdd, Nat.reduceMul, Nat.reduceSub, Nat.reduceEqDiff, Nat.reduceLeDiff, Nat.reduceLT, Int.reduceNeg, ↓reduceIte, reduceCtorEq, Int.reduceEq, Int.reduceLT, Int.reduceLE, Int.reduceBEq, Int.reduceBNe, Int.reduceToNat, IntKind.bits, Int.reduceAdd, Int.reduceSub, Int.reduceMul, Int.reduceTDiv, Int.reduceTMod])
    | (refine Gj_cases (fun h => ?_) (fun h => ?_) <;> simp only [h, RB, pickV, eqbV, notV, negV, convV, faddrV, fldV, idxV, eqaggV, iaddrV, isnilV, nilckV, pnilV, cloV, extrV, slenV, minV, sidxV, abin, cmpInt, params, growLists, fillCells, newAt, rdPtr, wrPtr, AV.cells, asVal, lenOf, boundOf, rowsOf, argIds, freshIn, scalar1, setAll, AV.isData, AV.isYld, Nat.reduceAdd, Nat.reduceMul, Nat.reduceSub, Nat.reduceEqDiff, Nat.reduceLeDiff, Nat.reduceLT, Int.reduceNeg, ↓reduceIte, reduceCtorEq, Int.reduceEq, Int.reduceLT, Int.reduceLE, Int.reduceBEq, Int.reduceBNe, Int.reduceToNat, IntKind.bits, Int.reduceAdd, Int.reduceSub, Int.reduceMul, Int.reduceTDiv, Int.reduceTMod])))
  all_goals (simp only [decide_eq_true_eq, decide_eq_false_iff_not] at *; simp only [cmpI, Option.some.injEq, AV.int.injEq, true_and]; (repeat split) <;> omega)
theorem e_bytes_Compare (a b : B16) : LV E 91 [.ro (brows a), .ro (brows b)] = some (.int .i64 (lexL (ints a) (ints b))) := by
  rw [LV_R (fn := f91) rfl rfl rfl]
  have h : LV E 105 [.ro (brows a), .ro (brows b)] = some (.int .i64 (lexL (ints a) (ints b))) := by
    rw [LV_prim (p := pCmp) rfl, cmp_b16]; rfl
  simp only [f91, RB, params, argIds, Nat.reduceEqDiff, ↓reduceIte, reduceCtorEq, h]
theorem e_cmp_Or_int (a b c : Int) : LV E 71 [.clip [[.int .i64 a], [.int .i64 b], [.int .i64 c]]] = some (.int .i64 (if a ≠ 0 then a else if b ≠ 0 then b else c)) := by
  rw [LV_R (fn := f71) rfl rfl rfl]
  simp only [f71, RB, params, lenOf, Nat.reduceAdd, Nat.reduceEqDiff, ↓reduceIte, reduceCtorEq]
  by_cases ha : a = 0
  · subst ha
    by_cases hb : b = 0
    · subst hb
      by_cases hc : c = 0
      · subst hc
        simp only [RB, iaddrV, abin, cmpInt, rdPtr, asVal, Nat.reduceEqDiff, Int.reduceNeg, ↓reduceIte, Int.reduceLT, Int.reduceLE, Int.reduceToNat, Int.reduceAdd, W_go, LPB, bne_self_eq_false]
      · simp only [RB, iaddrV, abin, cmpInt, rdPtr, asVal, Nat.reduceEqDiff, Int.reduceNeg, ↓reduceIte, Int.reduceLT, Int.reduceLE, Int.reduceToNat, Int.reduceAdd, W_go, LPB, bne_self_eq_false, bne_iff_ne.2 hc]
    · simp only [RB, iaddrV, abin, cmpInt, rdPtr, asVal, Nat.reduceEqDiff, Int.reduceNeg, ↓reduceIte, Int.reduceLT, Int.reduceLE, Int.reduceToNat, W_go, LPB, bne_self_eq_false, bne_iff_ne.2 hb, hb]
  · simp only [RB, iaddrV, abin, cmpInt, rdPtr, asVal, Nat.reduceEqDiff, ↓reduceIte, Int.reduceLT, Int.reduceLE, Int.reduceToNat, W_go, LPB, bne_iff_ne.2 ha, ha]
theorem e_prefix_Compare (p q : Pfx) : LV E 72 [.agg (pav p), .agg (pav q)] = some (.int .i64 (cmpP p q)) := by
  rw [LV_R (fn := f72) rfl rfl rfl]
  have hb : ∀ b : B16, (bav b).map (fun c => [c]) = brows b := fun _ => rfl
  simp only [f72, RB, faddrV, params, growLists, newAt, rdPtr, AV.cells, asVal, boundOf, argIds, AV.isData, Nat.reduceAdd, Nat.reduceEqDiff, Nat.reduceLT, ↓reduceIte, reduceCtorEq, DB, e_cmp_Compare_int, aop, O_buildSlq, quietOk, hb, e_bytes_Compare, e_cmp_Or_int, fillRows, asData]
  rw [cmp_key]
end Go.Proofs.YtgajekpigkknnaaDoor.F0

/- A function of the library that is taken as told: slices.SortFunc, whose order tells any two apart. No condition. -/
set_option linter.unusedVariables false
set_option linter.unusedSimpArgs false
namespace Go.Proofs.YtgajekpigkknnaaDoor.A
open Go Go.RowKit Go.Shelf
variable {U : Nat → Prop} {w w' : World} {Pr Pr' : Nat → Nat → Prop} {σ σ' : List Blk} {γ γ' : List Ghost} {ls : List Nat} {P : Program} {G : Nat → Option (List AV)}

/-- Plain values. -/
def plainA : AV → Bool
  | .bool _ | .int _ _ | .str _ => true
  | _ => false
def toV : AV → Value
  | .bool b => .bool b
  | .int k n => .int k n
  | .str s => .string s
  | _ => undef
theorem toV_rep {a : AV} (h : plainA a = true) : Rep w Pr σ γ ls a (toV a) := by
  cases a <;> first | (cases h; done) | constructor
theorem toV_inv {a : AV} {v : Value} (hr : Rep w Pr σ γ ls a v) (h : plainA a = true) : v = toV a := by
  cases hr <;> first | (cases h; done) | rfl
theorem toV_one {a : AV} (h : plainA a = true) : (toV a).oneCell' = true := by
  cases a <;> first | (cases h; done) | rfl
theorem plainA_data {a : AV} (h : plainA a = true) : a.isData = true := by
  cases a <;> first | (cases h; done) | rfl
theorem toV_repL {l : List AV} (h : ∀ a ∈ l, plainA a = true) : RepL w Pr σ γ l (l.map toV) :=
  ⟨by simp, fun i a v h1 h2 => by
    rw [List.getElem?_map, h1] at h2
    cases h2
    exact toV_rep (h a (List.mem_of_getElem? h1))⟩
theorem toV_invL {l : List AV} {vs : List Value} (hr : RepL w Pr σ γ l vs) (h : ∀ a ∈ l, plainA a = true) : vs = l.map toV := by
  refine List.ext_getElem? fun i => ?_
  rw [List.getElem?_map]
  cases ha : l[i]? with
  | none => rw [List.getElem?_eq_none (by rw [hr.1]; exact List.getElem?_eq_none_iff.1 ha)]; rfl
  | some a =>
    have hi : i < vs.length := by rw [hr.1]; exact (List.getElem?_eq_some_iff.1 ha).1
    rw [List.getElem?_eq_getElem hi]
    rw [toV_inv (hr.2 i a _ ha (List.getElem?_eq_getElem hi)) (h a (List.mem_of_getElem? ha))]; rfl

def sortL {α : Type} (cf : α → α → Int) (xs : List α) : List α := xs.mergeSort fun x y => !(ltOf cf) y x
def pSort {α : Type} (enc : α → List AV) (dec : List AV → Option α) (cf : α → α → Int) (e : TypeId) (k : Nat) (g : FuncId) : List AV → List Blk → Option (AV × List Blk)
  | [.lis id gn off len, .clo g' []], bs => match bs[id]? with
    | some (.lst 0 gn' e' k' rows) => if (gn' = gn ∧ off = 0 ∧ rows.length = len ∧ e' = e ∧ k' = k ∧ g' = g) ∧ len < 4611686018427387904 then
        match rows.mapM dec with
        | some xs => some (.tup [], bs.set id (.lst 0 gn e k ((sortL cf xs).map enc)))
        | none => none
      else none
    | _ => none
  | _, _ => none

theorem pos_of_lt {t n k : Nat} (h : t < n * k) : 0 < k := by
  rcases Nat.eq_zero_or_pos k with h0 | h0
  · subst h0; simp at h
  · exact h0
theorem flatten_get {β : Type} {k : Nat} {rows : List (List β)} (h : ∀ r ∈ rows, r.length = k) {t : Nat} (ht : t < rows.length * k) : rows.flatten[t]? = (rows[t / k]?).bind (·[t % k]?) := by
  have hk : 0 < k := pos_of_lt ht
  have hq : t / k < rows.length := (Nat.div_lt_iff_lt_mul hk).2 ht
  have hrow := flatten_row h (List.getElem?_eq_getElem hq)
  rw [List.getElem?_eq_getElem hq, Option.bind_some, ← hrow, List.getElem?_take, if_pos (Nat.mod_lt _ hk), List.getElem?_drop, Nat.mul_comm, Nat.div_add_mod]
theorem flatK_list {α : Type} [Inhabited α] {enc : α → List Value} {k : Nat} (hk : ∀ x, (enc x).length = k) (xs : List α) : Sort.flatK enc k xs.toArray = (xs.map enc).flatten.toArray := by
  apply Array.ext
  · rw [Sort.size_flatK, List.size_toArray, List.size_toArray, flatten_length (k := k) _ (fun r hr => by obtain ⟨x, _, rfl⟩ := List.mem_map.1 hr; exact hk x)]; simp
  · intro t h1 h2
    rw [Sort.size_flatK, List.size_toArray] at h1
    have hkp : 0 < k := pos_of_lt h1
    have hq : t / k < xs.length := (Nat.div_lt_iff_lt_mul hkp).2 h1
    have e1 := Sort.get_flatK enc k xs.toArray t (by simpa using h1)
    rw [getElem!_pos (Sort.flatK enc k xs.toArray) t (by rw [Sort.size_flatK]; simpa using h1)] at e1
    rw [e1]
    have e2 := flatten_get (rows := xs.map enc) (fun r hr => by obtain ⟨x, _, rfl⟩ := List.mem_map.1 hr; exact hk x) (t := t) (by simpa using h1)
    rw [List.getElem?_map, List.getElem?_eq_getElem hq] at e2
    simp only [Option.map_some, Option.bind_some] at e2
    have hm : t % k < (enc xs[t / k]).length := by rw [hk]; exact Nat.mod_lt _ hkp
    rw [List.getElem?_eq_getElem hm] at e2
    have e3 : (xs.map enc).flatten[t]'(by simpa using h2) = (enc xs[t / k])[t % k] := (List.getElem?_eq_some_iff.1 e2).2
    rw [List.getElem_toArray, e3]
    rw [getElem!_pos xs.toArray (t / k) (by simpa using hq)]
    simp only [List.getElem_toArray]
    exact getElem!_pos (enc xs[t / k]) (t % k) hm
theorem mapM_dec {α : Type} {enc : α → List AV} {dec : List AV → Option α} (hdec : ∀ r x, dec r = some x → r = enc x) : ∀ {rows : List (List AV)} {xs : List α}, rows.mapM dec = some xs → rows = xs.map enc
  | [], xs, h => by rw [mapM_nil_inv h]; rfl
  | r :: rows, xs, h => by
    obtain ⟨x, l, h1, h2, rfl⟩ := mapM_cons_inv h
    rw [List.map_cons, hdec r x h1, ← mapM_dec hdec h2]
theorem setRow_map (w : World) (b : Nat) (R : Array Value) : w.setRow b R = Sort.mapBlock w b fun _ => R := by
  unfold World.setRow Sort.mapBlock Sort.onCells
  congr 1
theorem putRow_setRow {b : Nat} {cur F : Array Value} {e : TypeId} (hc : w.heap[b]? = some (.cells cur e (0, 0))) (hs : F.size ≤ cur.size) : Sort.putRow id w b 0 F = w.setRow b (F.toList ++ cur.toList.drop F.size).toArray := by
  rw [setRow_map]
  refine Sort.mapBlock_congr w b _ _ fun c e' fr h => ?_
  rw [hc] at h
  cases h
  unfold Sort.putCells
  apply Array.ext
  · simp; omega
  · intro t h1 h2
    simp only [Array.size_mapIdx] at h1
    simp only [Array.getElem_mapIdx, Nat.zero_le, true_and, Nat.zero_add, Nat.sub_zero, id]
    by_cases ht : t < F.size
    · rw [if_pos ht, getElem!_pos F t ht]
      simp [ht]
    · rw [if_neg ht]
      have ht' : F.size ≤ t := by omega
      simp [List.getElem_append, ht, Nat.add_sub_cancel' ht']
theorem grow_form (h : Evo (w.heap.size ≤ ·) [] w Pr w' Pr') : ∃ q os, w' = Sort.grow (w.drewN q) os := by
  refine ⟨w'.drawn - w.drawn, w'.heap.extract w.heap.size w'.heap.size, ?_⟩
  obtain ⟨heap, tape, drawn, os, output⟩ := w
  obtain ⟨heap', tape', drawn', os', output'⟩ := w'
  have h1 := h.os; have h2 := h.tape; have h3 := h.output; have h4 := h.size; have h5 := h.same; have h6 := h.drawn
  simp only at h1 h2 h3 h4 h5 h6
  subst h1; subst h2; subst h3
  unfold Sort.grow World.drewN
  simp only [World.mk.injEq, true_and, and_true]
  refine ⟨?_, by omega⟩
  apply Array.ext_getElem?
  intro i
  by_cases hi : i < heap.size
  · rw [Array.getElem?_append_left hi]; exact h5 i (by omega)
  · rw [Array.getElem?_append_right (by omega), Array.getElem?_extract]
    by_cases h7 : i < heap'.size
    · rw [if_pos (by omega)]; congr 1; omega
    · rw [if_neg (by omega), Array.getElem?_eq_none (by omega)]
theorem Evo.grown (hU : ∀ b, w.heap.size ≤ b → U b) (hold : ∀ b i, Pr b i → b < w.heap.size) (n : Nat) (os : Array Obj) : Evo U ls w Pr (Sort.grow (w.drewN n) os) Pr := by
  have hb : ∀ b, b < w.heap.size → (Sort.grow (w.drewN n) os).heap[b]? = w.heap[b]? := fun b hb => Array.getElem?_append_left hb
  refine ⟨rfl, rfl, rfl, by simp [Sort.grow, World.drewN], fun b h => hb b (Nat.lt_of_not_le fun hx => h (hU b hx)), fun b o h _ _ => (hb b (Array.getElem?_eq_some_iff.1 h).1).trans h, fun b i hp => ⟨hp, fun v hv => ?_⟩, fun _ _ _ h => h, Nat.le_add_right _ _⟩
  rw [World.cell?_of_block (w := w) (hb b (hold b i hp))]; exact hv

theorem pSort_ok {ρ : Ren} {α : Type} [Inhabited α] {enc : α → List AV} {dec : List AV → Option α} {cf : α → α → Int} {e : TypeId} {k : Nat} {g : FuncId} {E0 : Env} (L : SlLaysF0.n6 P ρ) (hent : Ent P (ρ.f 6)) (aE : ∀ w, (isAgg (ρ.t 24)).run P w = .ok true w) (zE : ∀ w, (Go.sizeOf (ρ.t 24)).run P w = .ok k w)
    (hk : ∀ x, (enc x).length = k) (hp : ∀ x, ∀ a ∈ enc x, plainA a = true) (hdec : ∀ r x, dec r = some x → r = enc x) (hO : Sort.SWO (ltOf cf)) (hT : ∀ x y, (ltOf cf) x y = false → (ltOf cf) y x = false → x = y)
    (hE0 : EnvOk P G E0) (hcmp : ∀ x y, LV E0 g [.agg (enc x), .agg (enc y)] = some (.int .i64 (cf x y))) (hentg : Ent P g) :
    PrimOk P G (ρ.f 6) (pSort enc dec cf e k g) := by
  intro args bs r bs' h U w Pr γ vs hI hG hA
  unfold pSort at h
  split at h
  case h_2 => cases h
  rename_i id gn off len g'
  split at h
  case h_2 => cases h
  rename_i gn' e' k' rows hid
  split at h
  case isFalse => cases h
  rename_i hc
  obtain ⟨⟨rfl, rfl, hlen, rfl, rfl, rfl⟩, hbig⟩ := hc
  split at h
  case h_2 => cases h
  rename_i xs hxs
  cases h
  have hrows := mapM_dec hdec hxs
  have hxl : xs.length = len := by rw [← hlen, hrows, List.length_map]
  obtain ⟨v0, vs1, rfl, r0, hA⟩ := hA.cons_inv
  obtain ⟨v1, vs2, rfl, r1, hA⟩ := hA.cons_inv
  rw [hA.nil_inv]
  have hv1 : v1 = .func (.func g') #[] #[] := by
    cases r1 with
    | clo f caps vs hl h => have : vs = [] := List.eq_nil_of_length_eq_zero (by simpa using hl)
                            subst this; rfl
  subst hv1
  obtain ⟨gh, us, hg, hkp, hrk, hd, hV, hR, hone⟩ := hI.lst id 0 gn' e' k' rows hid
  have hM : MutIs gh.v k' 0 len v0 := by
    cases r0 with
    | lisOld id gen off len lk g2 e k rows u h3 h4 ho => rw [hid] at h3; cases h3; omega
    | lis id off len lk g2 e k rows gh2 u h3 h4 h5 h6 => rw [hid] at h3; cases h3; rw [hg] at h4; cases h4; exact h6
  obtain ⟨base, n0, cap, hgv, ⟨_, rfl, hlc, hbs⟩ | ⟨h0, _⟩⟩ := hM
  case inr => exact absurd h0 (Nat.lt_irrefl 0)
  have hpl : ∀ (l : List α), ∀ a ∈ (l.map enc).flatten, plainA a = true := fun l a ha => by
    obtain ⟨r, h1, h2⟩ := List.mem_flatten.1 ha
    obtain ⟨x, _, rfl⟩ := List.mem_map.1 h1
    exact hp x a h2
  have hpr : ∀ (l : List α), ∀ r ∈ l.map enc, r.length = k' := fun l r hr => by
    obtain ⟨x, _, rfl⟩ := List.mem_map.1 hr; exact hk x
  by_cases hn : len = 0
  · -- no element
    subst hn
    have hx0 : xs = [] := List.eq_nil_of_length_eq_zero hxl
    subst hx0
    have hr0 : rows = [] := by rw [hrows]; rfl
    subst hr0
    refine .inl ⟨hent _ _, (AnyF.slices_SortFunc_none L base cap (.func (.func g') #[] #[]) w).mono ?_⟩
    rintro e1 w1 ⟨rfl, rfl⟩
    have hs : bs.set id (.lst 0 gn' e' k' ((sortL cf ([] : List α)).map enc)) = bs := by
      rw [show (sortL cf ([] : List α)).map enc = ([] : List (List AV)) by simp [sortL]]
      exact set_self hid
    rw [hs]
    exact ⟨_, rfl, Pr, γ, hI, Keeps.refl _ _, Evo.refl _ _ _ _, .tup [] [] rfl (fun i a v h1 h2 => by simp at h1)⟩
  · obtain ⟨hul, ⟨h0, _⟩ | ⟨b, c, cur, hv, hh, hnc, hcm, hcs, htk⟩⟩ := hV
    · omega
    rw [hgv] at hv
    simp only [Value.slice.injEq] at hv
    obtain ⟨rfl, rfl, rfl⟩ := hv
    have hm : memB bs γ id = some b := by rw [memB_lst hid hg, hgv]; rfl
    obtain ⟨hU, hP⟩ := hI.free id _ b hid (fun h => by cases h) hm
    have hbl : b < w.heap.size := (Array.getElem?_eq_some_iff.1 hh).1
    obtain ⟨venc, hvenc⟩ : ∃ venc : α → List Value, venc = fun x => (enc x).map toV := ⟨_, rfl⟩
    have hvk : ∀ x, (venc x).length = k' := fun x => by rw [hvenc]; simp [hk]
    have hv1 : ∀ x, ∀ v ∈ venc x, v.oneCell' = true := fun x v hv => by
      rw [hvenc] at hv
      obtain ⟨a, ha, rfl⟩ := List.mem_map.1 hv
      exact toV_one (hp x a ha)
    have hvf : ∀ l : List α, (l.map venc).flatten = ((l.map enc).flatten).map toV := fun l => by
      rw [hvenc, List.map_flatten, List.map_map]; rfl
    have hus : us = ((xs.map enc).flatten).map toV := by
      rw [hrows] at hR
      exact toV_invL hR (hpl xs)
    have hfl : Sort.flatK venc k' xs.toArray = us.toArray := by rw [flatK_list hvk, hvf, hus]
    have hulen : us.length = len * k' := by rw [hul, hlen]
    have hsz : xs.toArray.size = len := by simp [hxl]
    have hH : Sort.HoldsK venc k' w b 0 xs.toArray := by
      intro j hj
      rw [hfl] at hj ⊢
      have hj' : j < us.length := by simpa using hj
      refine ⟨?_, by simp [World.frozen?, hh]⟩
      rw [getElem!_pos _ j hj, List.getElem_toArray, Nat.zero_add]
      simp only [World.cell?, hh, _root_.id]
      rw [← Array.getElem?_toList]
      have h9 : (cur.toList.take (rows.length * k'))[j]? = some us[j] := by rw [htk]; exact List.getElem?_eq_getElem hj'
      rw [List.getElem?_take] at h9
      split at h9
      · exact h9
      · cases h9
    have hC : CmpLays P g' #[] venc k' cf b 0 xs.toArray.size w := by
      intro m os dk hdk x y
      obtain ⟨W, hW⟩ : ∃ W, W = sortWorldK venc k' w b 0 m dk os := ⟨_, rfl⟩
      rw [← hW]
      have hWs : w.heap.size ≤ W.heap.size := by rw [hW]; simp [sortWorldK, Sort.grow, Sort.putRowK, Sort.putRow, Sort.mapBlock, Sort.ahead]
      have hWb : ∀ j, j < w.heap.size → j ≠ b → W.heap[j]? = w.heap[j]? := fun j hj hne => by
        rw [hW]
        unfold sortWorldK Sort.grow Sort.putRowK Sort.putRow Sort.mapBlock Sort.ahead
        simp only
        rw [Array.getElem?_append_left (by simpa using hj), Array.getElem?_modify, if_neg (Ne.symm hne)]
      have hst : Stays w Pr W Pr := fun q i hq => ⟨hq, fun v hv => by
        have hql := hI.old q i hq
        have hqb : q ≠ b := fun e => hP i (e ▸ hq)
        rw [World.cell?_of_block (w := w) (hWb q hql hqb)]; exact hv⟩
      obtain ⟨n, hn⟩ := LV_iff.1 (hcmp x y)
      have hcall := sound_call (w := W) (Pr := Pr) hE0 hn (vs := [.agg (venc x).toArray, .agg (venc y).toArray]) (fun q i hq => Nat.lt_of_lt_of_le (hI.old q i hq) hWs) (hG.mono hst) (by
        have hr : ∀ z, Rep W Pr [] [] [] (.agg (enc z)) (.agg (venc z).toArray) := fun z => by
          have h5 := toV_repL (w := W) (Pr := Pr) (σ := []) (γ := []) (hp z)
          rw [hvenc]
          exact .agg _ _ h5.1 (fun u hu => hv1 z u (by rw [hvenc]; exact hu)) h5.2
        exact RepL.cons (hr x) (RepL.cons (hr y) RepL.nil))
      refine (hcall.calls hentg).mono ?_
      rintro e1 w1 ⟨v, rfl, Pr1, k1, k2, k3⟩
      cases k3
      exact ⟨rfl, grow_form k1⟩
    have eg : ∀ args w, (callFunc g' args).run P w = .ok (.enter g' args) w := fun args w => hentg args w
    have hS := AnyQ.slices_SortFunc_total L k' aE zE venc hvk hv1 cf hO g' #[] b 0 (c + 1) xs.toArray w eg hC hH hbl (by rw [hsz]; exact hbig) hT
    rw [hsz] at hS
    rw [← hlen] at hS ⊢
    refine .inl ⟨hent _ _, hS.mono ?_⟩
    rintro e1 w1 ⟨rfl, n, os, rfl⟩
    obtain ⟨ys, hys⟩ : ∃ ys, ys = sortL cf xs := ⟨_, rfl⟩
    have hys' : (xs.toArray.toList.mergeSort fun x y => !(ltOf cf) y x) = ys := by rw [hys]; rfl
    have hyl : ys.length = xs.length := by rw [hys]; unfold sortL; exact List.length_mergeSort _
    rw [hys', ← hys]
    have hR' : RepL w Pr bs γ (ys.map enc).flatten ((ys.map venc).flatten) := by rw [hvf]; exact toV_repL (hpl ys)
    have hl' : (ys.map venc).flatten.length = rows.length * k' := by
      rw [flatten_length (k := k') _ (fun r hr => by obtain ⟨x, _, rfl⟩ := List.mem_map.1 hr; exact hvk x), List.length_map, hyl, hxl, hlen]
    obtain ⟨h3, h4, h5⟩ := hI.setLst (ls := []) hid hg (b := b) (by rw [hgv]; rfl) (ys.map enc) ((ys.map venc).flatten) (by rw [List.length_map, hyl, hxl, hlen]) (hpr ys)
      (List.all_eq_true.2 fun a ha => plainA_data (hpl ys a ha)) hl' hR' (fun u hu => by
        obtain ⟨r, h1, h2⟩ := List.mem_flatten.1 hu
        obtain ⟨x, _, rfl⟩ := List.mem_map.1 h1
        exact hv1 x u h2) hh
    have hcur : rows.length * k' ≤ cur.size := by rw [hcs]; exact Nat.mul_le_mul_right _ hnc
    have hw : sortWorldK venc k' w b 0 n ys.toArray os = Sort.grow ((w.setRow b ((ys.map venc).flatten ++ cur.toList.drop (rows.length * k')).toArray).drewN n) os := by
      unfold sortWorldK Sort.putRowK
      rw [flatK_list hvk, Sort.putRow_ahead, putRow_setRow hh (by rw [List.size_toArray, hl']; exact hcur), List.size_toArray, hl']
      rfl
    rw [hw]
    have hE2 := Evo.grown (U := U) (ls := []) h3.new h3.old n os
    have h6 := h3.world hE2 (fun j q hq => Array.getElem?_append_left (h3.memB_lt hq)) (fun _ _ _ _ h => h) (fun q i hq => Nat.lt_of_lt_of_le (h3.old q i hq) hE2.size)
    exact ⟨_, rfl, Pr, γ, h6, h4, h5.trans hE2, .tup [] [] rfl (fun i a v h1 h2 => by simp at h1)⟩
open Classical in
/-- The datum of a row. -/
noncomputable def decOf {α : Type} (enc : α → List AV) (r : List AV) : Option α := if h : ∃ x, r = enc x then some h.choose else none
theorem decOf_ok {α : Type} {enc : α → List AV} (r : List AV) (x : α) (h : decOf enc r = some x) : r = enc x := by
  unfold decOf at h
  split at h
  · rename_i h1; cases h; exact h1.choose_spec
  · cases h
theorem decOf_enc {α : Type} {enc : α → List AV} (hi : ∀ x y, enc x = enc y → x = y) (x : α) : decOf enc (enc x) = some x := by
  have h : ∃ y, enc x = enc y := ⟨x, rfl⟩
  unfold decOf
  rw [dif_pos h]
  exact congrArg some (hi _ _ h.choose_spec).symm
theorem mapM_decOf {α : Type} {enc : α → List AV} (hi : ∀ x y, enc x = enc y → x = y) : ∀ xs : List α, (xs.map enc).mapM (decOf enc) = some xs
  | [] => rfl
  | x :: xs => by rw [List.map_cons, List.mapM_cons, decOf_enc hi, mapM_decOf hi xs]; rfl
theorem pSort_run {α : Type} {enc : α → List AV} (hi : ∀ x y, enc x = enc y → x = y) {cf : α → α → Int} {e : TypeId} {k : Nat} {g : FuncId} {bs : List Blk} {id gn len : Nat} {xs : List α} (hb : bs[id]? = some (.lst 0 gn e k (xs.map enc))) (hl : xs.length = len) (hn : len < 4611686018427387904) :
    pSort enc (decOf enc) cf e k g [.lis id gn 0 len, .clo g []] bs = some (.tup [], bs.set id (.lst 0 gn e k ((sortL cf xs).map enc))) := by
  unfold pSort
  simp only [hb, List.length_map, hl, true_and, and_self, hn, if_true, mapM_decOf hi]
theorem sortL_perm {α : Type} (cf : α → α → Int) (xs : List α) : (sortL cf xs).Perm xs := List.mergeSort_perm _ _
theorem sortL_len {α : Type} (cf : α → α → Int) (xs : List α) : (sortL cf xs).length = xs.length := (sortL_perm cf xs).length_eq
theorem LR_primS {E : Env} {ys : List Hd} {hp : Hp} {f : FuncId} {args : List AV} {p : List AV → List Blk → Option (AV × List Blk)} (h1 : E.prim f = some p) (ha : args.any AV.isYld = false) : LR E ys f args hp = (p args hp.bs).map fun r => (r.1, { hp with bs := r.2 }) := by
  rw [LR_eq, h1]; simp [ha]
end Go.Proofs.YtgajekpigkknnaaDoor.A

/- A function of the library that is taken as told: slices.SortFunc of rows of which no two are alike for the order. No condition. -/
set_option linter.unusedVariables false
set_option linter.unusedSimpArgs false
namespace Go.Proofs.YtgajekpigkknnaaDoor.A
open Go Go.RowKit Go.Shelf
variable {U : Nat → Prop} {w w' : World} {Pr Pr' : Nat → Nat → Prop} {σ σ' : List Blk} {γ γ' : List Ghost} {ls : List Nat} {P : Program} {G : Nat → Option (List AV)}
def SortD {β : Type} (ok : β → Prop) (cf : β → β → Int) (xs : List β) : Prop := (∀ x ∈ xs, ok x) ∧ ∀ x ∈ xs, ∀ y ∈ xs, cf x y = 0 → x = y
open Classical in
noncomputable def pSortD {β : Type} (enc : β → List AV) (ok : β → Prop) (cf : β → β → Int) (e : TypeId) (k : Nat) (g : FuncId) : List AV → List Blk → Option (AV × List Blk)
  | [.lis id gn off len, .clo g' []], bs => match bs[id]? with
    | some (.lst 0 gn' e' k' rows) => if (gn' = gn ∧ off = 0 ∧ rows.length = len ∧ e' = e ∧ k' = k ∧ g' = g) ∧ len < 4611686018427387904 then
        match rows.mapM (decOf enc) with
        | some xs => if SortD ok cf xs then some (.tup [], bs.set id (.lst 0 gn e k ((sortL cf xs).map enc))) else none
        | none => none
      else none
    | _ => none
  | _, _ => none
theorem sortL_sub {β : Type} {S : List β} {cf : β → β → Int} (xs : List {x // x ∈ S}) : (sortL (fun x y : {x // x ∈ S} => cf x.1 y.1) xs).map (·.1) = sortL cf (xs.map (·.1)) := by
  unfold sortL
  exact List.map_mergeSort (fun a _ b _ => rfl)
theorem pSortD_ok {ρ : Ren} {β : Type} (d : β) {enc : β → List AV} {ok : β → Prop} {cf : β → β → Int} {e : TypeId} {k : Nat} {g : FuncId} {E0 : Env} (L : SlLaysF0.n6 P ρ) (hent : Ent P (ρ.f 6)) (aE : ∀ w, (isAgg (ρ.t 24)).run P w = .ok true w) (zE : ∀ w, (Go.sizeOf (ρ.t 24)).run P w = .ok k w)
    (hk : ∀ x, (enc x).length = k) (hp : ∀ x, ∀ a ∈ enc x, plainA a = true) (hi : ∀ x y, enc x = enc y → x = y) (hd : ok d) (hO : Sort.SWO (ltOf cf)) (hz : ∀ x y, (ltOf cf) x y = false → (ltOf cf) y x = false → cf x y = 0)
    (hE0 : EnvOk P G E0) (hcmp : ∀ x y, ok x → ok y → LV E0 g [.agg (enc x), .agg (enc y)] = some (.int .i64 (cf x y))) (hentg : Ent P g) :
    PrimOk P G (ρ.f 6) (pSortD enc ok cf e k g) := by
  intro args bs r bs' h
  unfold pSortD at h
  split at h
  case h_2 => cases h
  rename_i id gn off len g'
  split at h
  case h_2 => cases h
  rename_i gn' e' k' rows hid
  split at h
  case isFalse => cases h
  rename_i hc
  obtain ⟨⟨rfl, rfl, hlen, rfl, rfl, rfl⟩, hbig⟩ := hc
  split at h
  case h_2 => cases h
  rename_i xs hxs
  split at h
  case isFalse => cases h
  rename_i hsd
  cases h
  have hrows := mapM_dec decOf_ok hxs
  obtain ⟨S, hS1, hS2, hS3, hne⟩ : ∃ S : List β, (∀ x ∈ xs, x ∈ S) ∧ (∀ x ∈ S, ok x) ∧ (∀ x ∈ S, ∀ y ∈ S, cf x y = 0 → x = y) ∧ ∃ x, x ∈ S := by
    cases xs with
    | nil => exact ⟨[d], by simp, fun x hx => by rw [List.mem_singleton.1 hx]; exact hd, fun x hx y hy _ => by rw [List.mem_singleton.1 hx, List.mem_singleton.1 hy], d, by simp⟩
    | cons a l => exact ⟨a :: l, fun _ h => h, hsd.1, hsd.2, a, by simp⟩
  obtain ⟨x0, hx0⟩ := hne
  haveI : Inhabited {x // x ∈ S} := ⟨⟨x0, hx0⟩⟩
  have key := pSort_ok (α := {x // x ∈ S}) (enc := fun x => enc x.1) (dec := decOf (fun x : {x // x ∈ S} => enc x.1)) (cf := fun x y => cf x.1 y.1) (e := e') (k := k') (g := g') L hent aE zE (fun x => hk x.1) (fun x => hp x.1) decOf_ok
    ⟨fun x => hO.irrefl x.1, fun x y z h1 h2 => hO.trans x.1 y.1 z.1 h1 h2, fun x y z h1 h2 => hO.ntrans x.1 y.1 z.1 h1 h2⟩
    (fun x y h1 h2 => Subtype.ext (hS3 x.1 x.2 y.1 y.2 (hz x.1 y.1 h1 h2))) hE0 (fun x y => hcmp x.1 y.1 (hS2 _ x.2) (hS2 _ y.2)) hentg
  obtain ⟨xs', hxs'⟩ : ∃ xs' : List {x // x ∈ S}, xs'.map (·.1) = xs := ⟨xs.attach.map fun x => ⟨x.1, hS1 _ x.2⟩, by rw [List.map_map]; exact List.attach_map_subtype_val xs⟩
  have hm : ∀ l : List {x // x ∈ S}, l.map (fun x => enc x.1) = (l.map (·.1)).map enc := fun l => by rw [List.map_map]; rfl
  refine key _ bs _ _ ?_
  rw [pSort_run (xs := xs') (fun x y h => Subtype.ext (hi _ _ h)) (by rw [hid, hm, hxs', ← hrows]) (by rw [← hlen, hrows, ← hxs', List.length_map, List.length_map]) hbig, hm, sortL_sub, hxs']
theorem pSortD_run {β : Type} {enc : β → List AV} {ok : β → Prop} (hi : ∀ x y, enc x = enc y → x = y) {cf : β → β → Int} {e : TypeId} {k : Nat} {g : FuncId} {bs : List Blk} {id gn len : Nat} {xs : List β} (hb : bs[id]? = some (.lst 0 gn e k (xs.map enc))) (hl : xs.length = len) (hn : len < 4611686018427387904) (hd : SortD ok cf xs) :
    pSortD enc ok cf e k g [.lis id gn 0 len, .clo g []] bs = some (.tup [], bs.set id (.lst 0 gn e k ((sortL cf xs).map enc))) := by
  unfold pSortD
  simp only [hb, List.length_map, hl, true_and, and_self, hn, if_true, mapM_decOf hi]
  rw [if_pos hd]
theorem sortD_call {β : Type} {E : Env} {ys : List Hd} {pend : List (Option AExit)} {f g : FuncId} {enc : β → List AV} {ok : β → Prop} {cf : β → β → Int} {e : TypeId} {k : Nat} (h1 : E.prim f = some (pSortD enc ok cf e k g)) (hi : ∀ x y, enc x = enc y → x = y) {bs : List Blk} {id gn len : Nat} {xs : List β} (hb : bs[id]? = some (.lst 0 gn e k (xs.map enc))) (hl : xs.length = len) (hn : len < 4611686018427387904) (hd : SortD ok cf xs) :
    LR E ys f [.lis id gn 0 len, .clo g []] ⟨bs, pend⟩ = some (.tup [], ⟨bs.set id (.lst 0 gn e k ((sortL cf xs).map enc)), pend⟩) := by
  rw [LR_primS h1 rfl, pSortD_run hi hb hl hn hd]; rfl
end Go.Proofs.YtgajekpigkknnaaDoor.A

/- Routes and updates as data, and their cells. No condition. -/
set_option linter.unusedSimpArgs false
namespace Go.Proofs.YtgajekpigkknnaaDoor.D
open Go Go.Proofs.YtgajekpigkknnaaDoor.A
theorem pt_piece (p : Pfx) (t : List AV) (i k : Nat) : piece (pav p ++ t) (18 + i) k = piece t i k := by
  unfold piece
  have h := pav_len p
  rw [List.length_append, h]
  by_cases h1 : i + k ≤ t.length
  · rw [if_pos h1, if_pos (by omega), List.drop_append, h, List.drop_of_length_le (by omega), List.nil_append, show 18 + i - 18 = i by omega]
  · rw [if_neg h1, if_neg (by omega)]
theorem pt_pf (p : Pfx) (t : List AV) : piece (pav p ++ t) 0 18 = some (pav p) := by
  unfold piece
  have h := pav_len p
  rw [if_pos (by rw [List.length_append]; omega), List.drop_zero, ← h, List.take_left]
theorem pt_ovr (p : Pfx) (t : List AV) (i : Nat) (cs : List AV) : ovr (pav p ++ t) (18 + i) cs = (ovr t i cs).map (pav p ++ ·) := by
  unfold ovr
  have h := pav_len p
  rw [List.length_append, h]
  by_cases h1 : i + cs.length ≤ t.length
  · rw [if_pos h1, if_pos (by omega), Option.map_some, List.take_append, h, List.take_of_length_le (by omega), show 18 + i - 18 = i by omega, List.drop_append, h, List.drop_of_length_le (by omega), show 18 + i + cs.length - 18 = i + cs.length by omega]
    simp
  · rw [if_neg h1, if_neg (by omega)]; rfl
theorem pt_opf (p q : Pfx) (t : List AV) : ovr (pav p ++ t) 0 (pav q) = some (pav q ++ t) := by
  unfold ovr
  have h := pav_len p
  have h2 := pav_len q
  rw [if_pos (by rw [List.length_append]; omega), List.take_zero, List.nil_append, h2, Nat.zero_add, ← h, List.drop_left]
structure Rt where
  p : Pfx
  src : Int
  pref : Int
  hop : Int
  deriving DecidableEq
def zerT : Rt := ⟨zerP, 0, 0, 0⟩
def rtv (r : Rt) : List AV := pav r.p ++ [.int .i64 r.src, .int .i64 r.pref, .int .i64 r.hop]
theorem rtv_zer : rtv zerT = [.int .i64 0, .int .u8 0, .int .u8 0, .int .u8 0, .int .u8 0, .int .u8 0, .int .u8 0, .int .u8 0, .int .u8 0, .int .u8 0, .int .u8 0, .int .u8 0, .int .u8 0, .int .u8 0, .int .u8 0, .int .u8 0, .int .u8 0, .int .i64 0, .int .i64 0, .int .i64 0, .int .i64 0] := rfl
theorem rtv_len (r : Rt) : (rtv r).length = 21 := by simp [rtv, pav_len]
theorem rtv_data (r : Rt) : dataL (rtv r) = true := by unfold rtv; rw [all_data, pav_data]; rfl
theorem rtv_below (m : Nat) (r : Rt) : belowL m (rtv r) = true := below_data m (rtv_data r)
theorem rtv_p (r : Rt) : piece (rtv r) 0 21 = some (rtv r) := pc_all _ _ (rtv_len r)
theorem rtv_pf (r : Rt) : piece (rtv r) 0 18 = some (pav r.p) := pt_pf _ _
theorem rtv_v (r : Rt) : piece (rtv r) 0 1 = some [.int .i64 r.p.adr.ver] := rfl
theorem rtv_0 (r : Rt) : piece (rtv r) 18 1 = some [.int .i64 r.src] := pt_piece r.p _ 0 1
theorem rtv_1 (r : Rt) : piece (rtv r) 19 1 = some [.int .i64 r.pref] := pt_piece r.p _ 1 1
theorem rtv_2 (r : Rt) : piece (rtv r) 20 1 = some [.int .i64 r.hop] := pt_piece r.p _ 2 1
theorem rtv_o (l : List AV) (r : Rt) (h : l.length = 21) : ovr l 0 (rtv r) = some (rtv r) := ovr_all _ _ (by rw [h, rtv_len])
theorem rtv_opf (r : Rt) (p : Pfx) : ovr (rtv r) 0 (pav p) = some (rtv { r with p := p }) := pt_opf _ _ _
theorem rtv_o0 (r : Rt) (x : Int) : ovr (rtv r) 18 [.int .i64 x] = some (rtv { r with src := x }) := (pt_ovr r.p _ 0 _).trans rfl
theorem rtv_o1 (r : Rt) (x : Int) : ovr (rtv r) 19 [.int .i64 x] = some (rtv { r with pref := x }) := (pt_ovr r.p _ 1 _).trans rfl
theorem rtv_o2 (r : Rt) (x : Int) : ovr (rtv r) 20 [.int .i64 x] = some (rtv { r with hop := x }) := (pt_ovr r.p _ 2 _).trans rfl
theorem eq_rtv (a b : Rt) : eqCells [1, 1, 1, 1, 1, 1, 1, 1, 1, 1, 1, 1, 1, 1, 1, 1, 1, 1, 1, 1, 1] (rtv a) (rtv b) = some (decide (a = b)) := by
  have h1 : eqCells [1, 1, 1] [.int .i64 a.src, .int .i64 a.pref, .int .i64 a.hop] [.int .i64 b.src, .int .i64 b.pref, .int .i64 b.hop] = some (decide (a.src = b.src ∧ a.pref = b.pref ∧ a.hop = b.hop)) := by
    simp only [eqCells, A.kindOk, if_true, eqCell, Bool.and_true, Option.some.injEq]
    rw [Bool.eq_iff_iff]; simp
  have h2 := eqCells_append [1, 1, 1, 1, 1, 1, 1, 1, 1, 1, 1, 1, 1, 1, 1, 1, 1, 1] [1, 1, 1] (pav a.p) [.int .i64 a.src, .int .i64 a.pref, .int .i64 a.hop] (pav b.p) [.int .i64 b.src, .int .i64 b.pref, .int .i64 b.hop] (by rw [pav_len]; rfl) (by rw [pav_len, pav_len])
  rw [h1, eq_pav] at h2
  refine h2.trans (congrArg some ?_)
  obtain ⟨p, src, pref, hop⟩ := a; obtain ⟨q, src', pref', hop'⟩ := b
  by_cases h : p = q <;> simp [h]
def trows (l : List Rt) : List (List AV) := l.map rtv
theorem trows_len (l : List Rt) : (trows l).length = l.length := by simp [trows]
theorem trows_get (l : List Rt) {i : Nat} (h : i < l.length) : (trows l)[i]? = some (rtv l[i]) := by simp [trows, h]
theorem trows_snoc (l : List Rt) (x : Rt) : trows l ++ [rtv x] = trows (l ++ [x]) := by simp [trows]
theorem trows_append (l r : List Rt) : trows l ++ trows r = trows (l ++ r) := by simp [trows]
theorem trows_take (l : List Rt) (n : Nat) : (trows l).take n = trows (l.take n) := by simp [trows, List.map_take]
theorem trows_drop (l : List Rt) (n : Nat) : (trows l).drop n = trows (l.drop n) := by simp [trows, List.map_drop]
theorem trows_set (l : List Rt) (n : Nat) (x : Rt) : (trows l).set n (rtv x) = trows (l.set n x) := by simp [trows]
theorem trows_all (l : List Rt) : (trows l).take l.length = trows l := by rw [trows_take, List.take_length]
theorem trows_fit (l : List Rt) : headFits 21 (trows l) = true := by
  cases l with
  | nil => rfl
  | cons a l => simp [headFits, trows, rtv_len]
theorem rtv_fit1 (x : Rt) : headFits 21 [rtv x] = true := trows_fit [x]
theorem trows_fits (l : List Rt) {i n : Nat} (h : i ≤ n) (hn : n ≤ l.length) : rowFits 21 i n (trows l) = true := by
  unfold rowFits
  by_cases h2 : i = n
  · simp [h2]
  · rw [trows_get l (show i < l.length by omega)]; simp [rtv_len]
theorem trows_k (l : List Rt) : ∀ r ∈ l.map rtv, r.length = 21 := fun r hr => by
  obtain ⟨p, _, rfl⟩ := List.mem_map.1 hr; exact rtv_len p
theorem rtv_ids (r : Rt) : mutIds (rtv r) = [] := mutIds_data (rtv_data r)
structure Up where
  p : Pfx
  src : Int
  gone : Bool
  pref : Int
  hop : Int
  deriving DecidableEq
def zerU : Up := ⟨zerP, 0, false, 0, 0⟩
def upv (r : Up) : List AV := pav r.p ++ [.int .i64 r.src, .bool r.gone, .int .i64 r.pref, .int .i64 r.hop]
theorem upv_zer : upv zerU = [.int .i64 0, .int .u8 0, .int .u8 0, .int .u8 0, .int .u8 0, .int .u8 0, .int .u8 0, .int .u8 0, .int .u8 0, .int .u8 0, .int .u8 0, .int .u8 0, .int .u8 0, .int .u8 0, .int .u8 0, .int .u8 0, .int .u8 0, .int .i64 0, .int .i64 0, .bool false, .int .i64 0, .int .i64 0] := rfl
theorem upv_len (r : Up) : (upv r).length = 22 := by simp [upv, pav_len]
theorem upv_data (r : Up) : dataL (upv r) = true := by unfold upv; rw [all_data, pav_data]; rfl
theorem upv_below (m : Nat) (r : Up) : belowL m (upv r) = true := below_data m (upv_data r)
theorem upv_p (r : Up) : piece (upv r) 0 22 = some (upv r) := pc_all _ _ (upv_len r)
theorem upv_pf (r : Up) : piece (upv r) 0 18 = some (pav r.p) := pt_pf _ _
theorem upv_v (r : Up) : piece (upv r) 0 1 = some [.int .i64 r.p.adr.ver] := rfl
theorem upv_0 (r : Up) : piece (upv r) 18 1 = some [.int .i64 r.src] := pt_piece r.p _ 0 1
theorem upv_1 (r : Up) : piece (upv r) 19 1 = some [.bool r.gone] := pt_piece r.p _ 1 1
theorem upv_2 (r : Up) : piece (upv r) 20 1 = some [.int .i64 r.pref] := pt_piece r.p _ 2 1
theorem upv_3 (r : Up) : piece (upv r) 21 1 = some [.int .i64 r.hop] := pt_piece r.p _ 3 1
theorem upv_o (l : List AV) (r : Up) (h : l.length = 22) : ovr l 0 (upv r) = some (upv r) := ovr_all _ _ (by rw [h, upv_len])
theorem upv_opf (r : Up) (p : Pfx) : ovr (upv r) 0 (pav p) = some (upv { r with p := p }) := pt_opf _ _ _
theorem upv_o0 (r : Up) (x : Int) : ovr (upv r) 18 [.int .i64 x] = some (upv { r with src := x }) := (pt_ovr r.p _ 0 _).trans rfl
theorem upv_o1 (r : Up) (x : Bool) : ovr (upv r) 19 [.bool x] = some (upv { r with gone := x }) := (pt_ovr r.p _ 1 _).trans rfl
theorem upv_o2 (r : Up) (x : Int) : ovr (upv r) 20 [.int .i64 x] = some (upv { r with pref := x }) := (pt_ovr r.p _ 2 _).trans rfl
theorem upv_o3 (r : Up) (x : Int) : ovr (upv r) 21 [.int .i64 x] = some (upv { r with hop := x }) := (pt_ovr r.p _ 3 _).trans rfl
theorem eq_upv (a b : Up) : eqCells [1, 1, 1, 1, 1, 1, 1, 1, 1, 1, 1, 1, 1, 1, 1, 1, 1, 1, 1, 0, 1, 1] (upv a) (upv b) = some (decide (a = b)) := by
  have h1 : eqCells [1, 0, 1, 1] [.int .i64 a.src, .bool a.gone, .int .i64 a.pref, .int .i64 a.hop] [.int .i64 b.src, .bool b.gone, .int .i64 b.pref, .int .i64 b.hop] = some (decide (a.src = b.src ∧ a.gone = b.gone ∧ a.pref = b.pref ∧ a.hop = b.hop)) := by
    simp only [eqCells, A.kindOk, if_true, eqCell, Bool.and_true, Option.some.injEq]
    rw [Bool.eq_iff_iff]; simp
  have h2 := eqCells_append [1, 1, 1, 1, 1, 1, 1, 1, 1, 1, 1, 1, 1, 1, 1, 1, 1, 1] [1, 0, 1, 1] (pav a.p) [.int .i64 a.src, .bool a.gone, .int .i64 a.pref, .int .i64 a.hop] (pav b.p) [.int .i64 b.src, .bool b.gone, .int .i64 b.pref, .int .i64 b.hop] (by rw [pav_len]; rfl) (by rw [pav_len, pav_len])
  rw [h1, eq_pav] at h2
  refine h2.trans (congrArg some ?_)
  obtain ⟨p, src, gone, pref, hop⟩ := a; obtain ⟨q, src', gone', pref', hop'⟩ := b
  by_cases h : p = q <;> simp [h]
def vrows (l : List Up) : List (List AV) := l.map upv
theorem vrows_len (l : List Up) : (vrows l).length = l.length := by simp [vrows]
theorem vrows_get (l : List Up) {i : Nat} (h : i < l.length) : (vrows l)[i]? = some (upv l[i]) := by simp [vrows, h]
theorem vrows_snoc (l : List Up) (x : Up) : vrows l ++ [upv x] = vrows (l ++ [x]) := by simp [vrows]
theorem vrows_append (l r : List Up) : vrows l ++ vrows r = vrows (l ++ r) := by simp [vrows]
theorem vrows_take (l : List Up) (n : Nat) : (vrows l).take n = vrows (l.take n) := by simp [vrows, List.map_take]
theorem vrows_drop (l : List Up) (n : Nat) : (vrows l).drop n = vrows (l.drop n) := by simp [vrows, List.map_drop]
theorem vrows_all (l : List Up) : (vrows l).take l.length = vrows l := by rw [vrows_take, List.take_length]
theorem vrows_fit (l : List Up) : headFits 22 (vrows l) = true := by
  cases l with
  | nil => rfl
  | cons a l => simp [headFits, vrows, upv_len]
theorem upv_fit1 (x : Up) : headFits 22 [upv x] = true := vrows_fit [x]
theorem vrows_fits (l : List Up) {i n : Nat} (h : i ≤ n) (hn : n ≤ l.length) : rowFits 22 i n (vrows l) = true := by
  unfold rowFits
  by_cases h2 : i = n
  · simp [h2]
  · rw [vrows_get l (show i < l.length by omega)]; simp [upv_len]
theorem vrows_k (l : List Up) : ∀ r ∈ l.map upv, r.length = 22 := fun r hr => by
  obtain ⟨p, _, rfl⟩ := List.mem_map.1 hr; exact upv_len p
theorem upv_ids (r : Up) : mutIds (upv r) = [] := mutIds_data (upv_data r)
theorem DB4 : (((((type_of% (@rtv_len) ∧ (type_of% (@rtv_data) ∧ type_of% (@rtv_below))) ∧ (type_of% (@rtv_p) ∧ (type_of% (@rtv_pf) ∧ type_of% (@rtv_v)))) ∧ ((type_of% (@rtv_o) ∧ (type_of% (@rtv_opf) ∧ type_of% (@rtv_ids))) ∧ (type_of% (@rtv_fit1) ∧ (type_of% (@rtv_0) ∧ type_of% (@rtv_1))))) ∧ (((type_of% (@rtv_2) ∧ (type_of% (@rtv_o0) ∧ type_of% (@rtv_o1))) ∧ (type_of% (@rtv_o2) ∧ (type_of% (@eq_rtv) ∧ type_of% (@trows_len)))) ∧ ((type_of% (@trows_snoc) ∧ (type_of% (@trows_append) ∧ type_of% (@trows_take))) ∧ ((type_of% (@trows_drop) ∧ type_of% (@trows_all)) ∧ (type_of% (@trows_fit) ∧ type_of% (@upv_len)))))) ∧ ((((type_of% (@upv_data) ∧ (type_of% (@upv_below) ∧ type_of% (@upv_p))) ∧ (type_of% (@upv_pf) ∧ (type_of% (@upv_v) ∧ type_of% (@upv_o)))) ∧ ((type_of% (@upv_opf) ∧ (type_of% (@upv_ids) ∧ type_of% (@upv_fit1))) ∧ (type_of% (@upv_0) ∧ (type_of% (@upv_1) ∧ type_of% (@upv_2))))) ∧ (((type_of% (@upv_3) ∧ (type_of% (@upv_o0) ∧ type_of% (@upv_o1))) ∧ (type_of% (@upv_o2) ∧ (type_of% (@upv_o3) ∧ type_of% (@eq_upv)))) ∧ ((type_of% (@vrows_len) ∧ (type_of% (@vrows_snoc) ∧ type_of% (@vrows_append))) ∧ ((type_of% (@vrows_take) ∧ type_of% (@vrows_drop)) ∧ (type_of% (@vrows_all) ∧ type_of% (@vrows_fit))))))) := ⟨⟨⟨⟨⟨@rtv_len, ⟨@rtv_data, @rtv_below⟩⟩, ⟨@rtv_p, ⟨@rtv_pf, @rtv_v⟩⟩⟩, ⟨⟨@rtv_o, ⟨@rtv_opf, @rtv_ids⟩⟩, ⟨@rtv_fit1, ⟨@rtv_0, @rtv_1⟩⟩⟩⟩, ⟨⟨⟨@rtv_2, ⟨@rtv_o0, @rtv_o1⟩⟩, ⟨@rtv_o2, ⟨@eq_rtv, @trows_len⟩⟩⟩, ⟨⟨@trows_snoc, ⟨@trows_append, @trows_take⟩⟩, ⟨⟨@trows_drop, @trows_all⟩, ⟨@trows_fit, @upv_len⟩⟩⟩⟩⟩, ⟨⟨⟨⟨@upv_data, ⟨@upv_below, @upv_p⟩⟩, ⟨@upv_pf, ⟨@upv_v, @upv_o⟩⟩⟩, ⟨⟨@upv_opf, ⟨@upv_ids, @upv_fit1⟩⟩, ⟨@upv_0, ⟨@upv_1, @upv_2⟩⟩⟩⟩, ⟨⟨⟨@upv_3, ⟨@upv_o0, @upv_o1⟩⟩, ⟨@upv_o2, ⟨@upv_o3, @eq_upv⟩⟩⟩, ⟨⟨@vrows_len, ⟨@vrows_snoc, @vrows_append⟩⟩, ⟨⟨@vrows_take, @vrows_drop⟩, ⟨@vrows_all, @vrows_fit⟩⟩⟩⟩⟩⟩
end Go.Proofs.YtgajekpigkknnaaDoor.D

/- Routes in order: the order, ahead of the sort; the sort. No condition. -/
set_option linter.unusedSimpArgs false
namespace Go.Proofs.YtgajekpigkknnaaDoor.D
open Go Go.Proofs.YtgajekpigkknnaaDoor.A Go.Proofs.YtgajekpigkknnaaDoor.F
def cmpR (a b : Rt) : Int := if cmpP a.p b.p ≠ 0 then cmpP a.p b.p else a.src - b.src
def okR (r : Rt) : Prop := 0 ≤ r.src ∧ r.src ≤ 1000
theorem cmpR_lt (a b : Rt) : cmpR a b < 0 ↔ cmpP a.p b.p < 0 ∨ cmpP a.p b.p = 0 ∧ a.src < b.src := by
  unfold cmpR
  by_cases h : cmpP a.p b.p = 0
  · rw [if_neg (by simpa using h), h]; omega
  · rw [if_pos h]; omega
theorem ltR (a b : Rt) : ltOf cmpR a b = true ↔ cmpP a.p b.p < 0 ∨ cmpP a.p b.p = 0 ∧ a.src < b.src := by unfold ltOf; rw [decide_eq_true_eq, cmpR_lt]
theorem ltR_f (a b : Rt) : ltOf cmpR a b = false ↔ ¬ (cmpP a.p b.p < 0 ∨ cmpP a.p b.p = 0 ∧ a.src < b.src) := by rw [← Bool.not_eq_true, ltR]
theorem cmpR_swo : Sort.SWO (ltOf cmpR) where
  irrefl x := by rw [ltR_f, cmp_self]; omega
  trans x y z h1 h2 := by
    rw [ltR] at *
    rcases h1 with h1 | ⟨h1, h3⟩
    · rcases h2 with h2 | ⟨h2, _⟩
      · exact .inl (cmp_trans h1 h2)
      · rw [cmp_zero h2] at h1; exact .inl h1
    · rw [cmp_zero h1]
      rcases h2 with h2 | ⟨h2, h4⟩
      · exact .inl h2
      · exact .inr ⟨h2, by omega⟩
  ntrans x y z h1 h2 := by
    rw [ltR_f] at *
    rintro (h3 | ⟨h3, h4⟩)
    · have a1 := cmp_anti x.p y.p
      have a2 := cmp_anti y.p z.p
      by_cases e1 : cmpP x.p y.p = 0
      · rw [cmp_zero e1] at h3; exact h2 (.inl h3)
      · by_cases e2 : cmpP y.p z.p = 0
        · rw [← cmp_zero e2] at h3; exact h1 (.inl h3)
        · have t1 := @cmp_trans z.p y.p x.p
          have a3 := cmp_anti x.p z.p
          have h5 : ¬ cmpP x.p y.p < 0 := fun h => h1 (.inl h)
          have h6 : ¬ cmpP y.p z.p < 0 := fun h => h2 (.inl h)
          omega
    · have ep := cmp_zero h3
      have a1 := cmp_anti x.p y.p
      rw [← ep] at h2
      by_cases e1 : cmpP x.p y.p = 0
      · have : ¬ x.src < y.src := fun h => h1 (.inr ⟨e1, h⟩)
        have : ¬ y.src < z.src := fun h => h2 (.inr ⟨by omega, h⟩)
        omega
      · have h5 : ¬ cmpP x.p y.p < 0 := fun h => h1 (.inl h)
        exact h2 (.inl (by omega))
theorem cmpR_z (x y : Rt) (h1 : ltOf cmpR x y = false) (h2 : ltOf cmpR y x = false) : cmpR x y = 0 := by
  rw [ltR_f] at *
  have a1 := cmp_anti x.p y.p
  have h3 : cmpP x.p y.p = 0 := by omega
  unfold cmpR
  rw [if_neg (by simpa using h3)]
  omega
theorem rtv_inj (p q : Rt) (h : rtv p = rtv q) : p = q := by
  have h1 := eq_rtv p q
  have h2 := eq_rtv p p
  rw [← h, h2] at h1
  simpa using h1
theorem bav_plain (b : B16) : ∀ a ∈ bav b, plainA a = true := fun a h => by
  unfold bav at h
  obtain ⟨x, _, rfl⟩ := List.mem_map.1 h; rfl
theorem rtv_plain (r : Rt) : ∀ a ∈ rtv r, plainA a = true := fun a h => by
  unfold rtv pav at h
  simp only [List.cons_append, List.append_assoc, List.mem_cons, List.mem_append, List.not_mem_nil, or_false, List.nil_append] at h
  rcases h with rfl | h | rfl | rfl | rfl | rfl
  · rfl
  · exact bav_plain _ a h
  all_goals rfl
end Go.Proofs.YtgajekpigkknnaaDoor.D
namespace Go.Proofs.YtgajekpigkknnaaDoor.F0
open Go Go.Proofs.YtgajekpigkknnaaDoor.A Go.Proofs.YtgajekpigkknnaaDoor.D Go.Proofs.YtgajekpigkknnaaDoor.F
theorem e68 (a b : Rt) (ha : okR a) (hb : okR b) : LV E 68 [.agg (rtv a), .agg (rtv b)] = some (.int .i64 (cmpR a b)) := by
  rw [LV_R (fn := f68) rfl rfl rfl]
  have h1 := e_prefix_Compare a.p b.p
  have f1 : IntKind.i64.wrap (a.src - b.src) = a.src - b.src := by
    unfold okR at ha hb
    rw [IntWalk.i64_in _ (by omega)]
  by_cases h : cmpP a.p b.p = 0
  · have z0 : (cmpP a.p b.p != 0) = false := by rw [h]; rfl
    have e : cmpR a b = a.src - b.src := by unfold cmpR; rw [if_neg (by simpa using h)]
    rw [e]
    simp only [f68, RB, faddrV, abin, cmpInt, params, growLists, newAt, rdPtr, AV.cells, asVal, argIds, Nat.reduceAdd, Nat.reduceEqDiff, ↓reduceIte, reduceCtorEq, DB, DB4, h1, z0, f1]
  · have z0 : (cmpP a.p b.p != 0) = true := by simpa using h
    have e : cmpR a b = cmpP a.p b.p := by unfold cmpR; rw [if_pos h]
    rw [e]
    simp only [f68, RB, faddrV, abin, cmpInt, params, growLists, newAt, rdPtr, AV.cells, asVal, argIds, Nat.reduceAdd, Nat.reduceEqDiff, ↓reduceIte, reduceCtorEq, DB, DB4, h1, z0]
def sort67_ren : Go.Shelf.Ren := ⟨fun | 6 => 67 | 15 => 87 | 14 => 86 | 28 => 103 | 29 => 104 | 20 => 95 | 21 => 96 | 22 => 97 | 23 => 98 | 24 => 99 | 25 => 100 | 26 => 101 | 27 => 102 | 46 => 107 | 47 => 108 | 48 => 109 | 49 => 110 | 50 => 111 | 57 => 112 | n => n, fun | 22 => 44 | 24 => 53 | 25 => 90 | 3 => 3 | 39 => 71 | 0 => 0 | 53 => 138 | 55 => 140 | 4 => 4 | 46 => 132 | 45 => 131 | 50 => 92 | 5 => 5 | 9 => 9 | 66 => 143 | 70 => 147 | 76 => 149 | 77 => 150 | n => n, fun | n => n⟩
theorem sort67 : Go.Proofs.SlLaysF0.n6 Tryd.prog sort67_ren := {
  mixed := by kernel_rfl,
  f6 := ⟨Tryd.f67.name, by decide, Tryd.func67.trans (congrArg some (by kernel_rfl))⟩,
  f14 := ⟨Tryd.f86.name, by decide, Tryd.func86.trans (congrArg some (by kernel_rfl))⟩,
  f15 := Tryd.func87.trans (congrArg some (by kernel_rfl)),
  f20 := ⟨Tryd.f95.name, by decide, Tryd.func95.trans (congrArg some (by kernel_rfl))⟩,
  f21 := ⟨Tryd.f96.name, by decide, Tryd.func96.trans (congrArg some (by kernel_rfl))⟩,
  f22 := ⟨Tryd.f97.name, by decide, Tryd.func97.trans (congrArg some (by kernel_rfl))⟩,
  f23 := ⟨Tryd.f98.name, by decide, Tryd.func98.trans (congrArg some (by kernel_rfl))⟩,
  f24 := ⟨Tryd.f99.name, by decide, Tryd.func99.trans (congrArg some (by kernel_rfl))⟩,
  f25 := ⟨Tryd.f100.name, by decide, Tryd.func100.trans (congrArg some (by kernel_rfl))⟩,
  f26 := ⟨Tryd.f101.name, by decide, Tryd.func101.trans (congrArg some (by kernel_rfl))⟩,
  f27 := ⟨Tryd.f102.name, by decide, Tryd.func102.trans (congrArg some (by kernel_rfl))⟩,
  f28 := Tryd.func103.trans (congrArg some (by kernel_rfl)),
  f29 := Tryd.func104.trans (congrArg some (by kernel_rfl)),
  f46 := ⟨Tryd.f107.name, by decide, Tryd.func107.trans (congrArg some (by kernel_rfl))⟩,
  f47 := Tryd.func108.trans (congrArg some (by kernel_rfl)),
  f48 := Tryd.func109.trans (congrArg some (by kernel_rfl)),
  f49 := ⟨Tryd.f110.name, by decide, Tryd.func110.trans (congrArg some (by kernel_rfl))⟩,
  f50 := ⟨Tryd.f111.name, by decide, Tryd.func111.trans (congrArg some (by kernel_rfl))⟩,
  f57 := ⟨Tryd.f112.name, by decide, Tryd.func112.trans (congrArg some (by kernel_rfl))⟩,
  t0 := Tryd.underlying0,
  a0 := Tryd.isAgg0,
  z0 := Tryd.sizeOf0,
  v0 := Tryd.zeroValue0,
  t3 := Tryd.underlying3,
  a3 := Tryd.isAgg3,
  z3 := Tryd.sizeOf3,
  v3 := Tryd.zeroValue3,
  t4 := Tryd.underlying4,
  a4 := Tryd.isAgg4,
  z4 := Tryd.sizeOf4,
  v4 := Tryd.zeroValue4,
  t5 := Tryd.underlying5,
  a5 := Tryd.isAgg5,
  z5 := Tryd.sizeOf5,
  v5 := Tryd.zeroValue5,
  t9 := Tryd.underlying9,
  a9 := Tryd.isAgg9,
  z9 := Tryd.sizeOf9,
  v9 := Tryd.zeroValue9,
  t22 := Tryd.underlying44,
  a22 := Tryd.isAgg44,
  z22 := Tryd.sizeOf44,
  v22 := Tryd.zeroValue44,
  t25 := Tryd.underlying90,
  a25 := Tryd.isAgg90,
  z25 := Tryd.sizeOf90,
  v25 := Tryd.zeroValue90,
  t39 := Tryd.underlying71,
  a39 := Tryd.isAgg71,
  z39 := Tryd.sizeOf71,
  v39 := Tryd.zeroValue71,
  t45 := Tryd.underlying131,
  a45 := Tryd.isAgg131,
  z45 := Tryd.sizeOf131,
  v45 := Tryd.zeroValue131,
  t46 := Tryd.underlying132,
  a46 := Tryd.isAgg132,
  z46 := Tryd.sizeOf132,
  v46 := Tryd.zeroValue132,
  t50 := Tryd.underlying92,
  a50 := Tryd.isAgg92,
  z50 := Tryd.sizeOf92,
  v50 := Tryd.zeroValue92,
  t53 := Tryd.underlying138,
  a53 := Tryd.isAgg138,
  z53 := Tryd.sizeOf138,
  v53 := Tryd.zeroValue138,
  t55 := Tryd.underlying140,
  a55 := Tryd.isAgg140,
  z55 := Tryd.sizeOf140,
  v55 := Tryd.zeroValue140,
  t66 := Tryd.underlying143,
  a66 := Tryd.isAgg143,
  z66 := Tryd.sizeOf143,
  v66 := Tryd.zeroValue143,
  t70 := Tryd.underlying147,
  a70 := Tryd.isAgg147,
  z70 := Tryd.sizeOf147,
  v70 := Tryd.zeroValue147,
  t76 := Tryd.underlying149,
  a76 := Tryd.isAgg149,
  z76 := Tryd.sizeOf149,
  v76 := Tryd.zeroValue149,
  t77 := Tryd.underlying150,
  a77 := Tryd.isAgg150,
  z77 := Tryd.sizeOf150,
  v77 := Tryd.zeroValue150 }
theorem sort_ok : PrimOk Tryd.prog G 67 (pSortD rtv okR cmpR 53 21 68) :=
  pSortD_ok zerT (ρ := sort67_ren) sort67 (ent_of Tryd.func67 (by kernel_rfl) (c := _) rfl) Tryd.isAgg53 Tryd.sizeOf53 rtv_len rtv_plain rtv_inj ⟨by decide, by decide⟩ cmpR_swo cmpR_z envOk e68 (ent_of Tryd.func68 (by kernel_rfl) (c := _) rfl)
end Go.Proofs.YtgajekpigkknnaaDoor.F0

/- What the evaluator is told of the functions. No condition. -/
namespace Go.Proofs.YtgajekpigkknnaaDoor.F
open Go Go.Proofs.YtgajekpigkknnaaDoor.A
def fns : FuncId → Option AFunc
  | 5 => some f5
  | 9 => some f9
  | 11 => some f11
  | 15 => some f15
  | 16 => some f16
  | 19 => some f19
  | 20 => some f20
  | 21 => some f21
  | 23 => some f23
  | 24 => some f24
  | 30 => some f30
  | 31 => some f31
  | 33 => some f33
  | 34 => some f34
  | 41 => some f41
  | 42 => some f42
  | 43 => some f43
  | 44 => some f44
  | 47 => some f47
  | 48 => some f48
  | 49 => some f49
  | 50 => some f50
  | 51 => some f51
  | 52 => some f52
  | 57 => some f57
  | 58 => some f58
  | 59 => some f59
  | 60 => some f60
  | 61 => some f61
  | 62 => some f62
  | 63 => some f63
  | 64 => some f64
  | 65 => some f65
  | 66 => some f66
  | 68 => some f68
  | 70 => some f70
  | 71 => some f71
  | 72 => some f72
  | 73 => some f73
  | 74 => some f74
  | 75 => some f75
  | 76 => some f76
  | 83 => some f83
  | 85 => some f85
  | 88 => some f88
  | 89 => some f89
  | 90 => some f90
  | 91 => some f91
  | 92 => some f92
  | 93 => some f93
  | _ => none
noncomputable def prims : FuncId → Option (List AV → List Blk → Option (AV × List Blk))
  | 22 => some (pClone 42 22 64)
  | 36 => some (pClone 53 21 56)
  | 53 => some (pInsertT 53 21 56)
  | 67 => some (pSortD D.rtv D.okR D.cmpR 53 21 68)
  | 84 => some (pGrow 53 21 56)
  | 105 => some (pCmp)
  | _ => none
noncomputable def E : Env := ⟨fns, prims⟩
theorem envOk : EnvOk Tryd.prog G E := by
  refine ⟨fun f af _ h => ?_, fun f p h => ?_⟩
  · show ∃ fm g, _
    change fns f = some af at h
    unfold fns at h
    split at h
    · cases h; exact ⟨Tryd.f5, f5, Tryd.func5, by kernel_rfl, c5⟩
    · cases h; exact ⟨Tryd.f9, f9, Tryd.func9, by kernel_rfl, c9⟩
    · cases h; exact ⟨Tryd.f11, f11, Tryd.func11, by kernel_rfl, c11⟩
    · cases h; exact ⟨Tryd.f15, f15, Tryd.func15, by kernel_rfl, c15⟩
    · cases h; exact ⟨Tryd.f16, f16, Tryd.func16, by kernel_rfl, c16⟩
    · cases h; exact ⟨Tryd.f19, f19, Tryd.func19, by kernel_rfl, c19⟩
    · cases h; exact ⟨Tryd.f20, f20, Tryd.func20, by kernel_rfl, c20⟩
    · cases h; exact ⟨Tryd.f21, f21, Tryd.func21, by kernel_rfl, c21⟩
    · cases h; exact ⟨Tryd.f23, f23, Tryd.func23, by kernel_rfl, c23⟩
    · cases h; exact ⟨Tryd.f24, f24, Tryd.func24, by kernel_rfl, c24⟩
    · cases h; exact ⟨Tryd.f30, f30, Tryd.func30, by kernel_rfl, c30⟩
    · cases h; exact ⟨Tryd.f31, f31, Tryd.func31, by kernel_rfl, c31⟩
    · cases h; exact ⟨Tryd.f33, f33, Tryd.func33, by kernel_rfl, c33⟩
    · cases h; exact ⟨Tryd.f34, f34, Tryd.func34, by kernel_rfl, c34⟩
    · cases h; exact ⟨Tryd.f41, f41, Tryd.func41, by kernel_rfl, c41⟩
    · cases h; exact ⟨Tryd.f42, f42, Tryd.func42, by kernel_rfl, c42⟩
    · cases h; exact ⟨Tryd.f43, f43, Tryd.func43, by kernel_rfl, c43⟩
    · cases h; exact ⟨Tryd.f44, f44, Tryd.func44, by kernel_rfl, c44⟩
    · cases h; exact ⟨Tryd.f47, f47, Tryd.func47, by kernel_rfl, c47⟩
    · cases h; exact ⟨Tryd.f48, f48, Tryd.func48, by kernel_rfl, c48⟩
    · cases h; exact ⟨Tryd.f49, f49, Tryd.func49, by kernel_rfl, c49⟩
    · cases h; exact ⟨Tryd.f50, f50, Tryd.func50, by kernel_rfl, c50⟩
    · cases h; exact ⟨Tryd.f51, f51, Tryd.func51, by kernel_rfl, c51⟩
    · cases h; exact ⟨Tryd.f52, f52, Tryd.func52, by kernel_rfl, c52⟩
    · cases h; exact ⟨Tryd.f57, f57, Tryd.func57, by kernel_rfl, c57⟩
    · cases h; exact ⟨Tryd.f58, f58, Tryd.func58, by kernel_rfl, c58⟩
    · cases h; exact ⟨Tryd.f59, f59, Tryd.func59, by kernel_rfl, c59⟩
    · cases h; exact ⟨Tryd.f60, f60, Tryd.func60, by kernel_rfl, c60⟩
    · cases h; exact ⟨Tryd.f61, f61, Tryd.func61, by kernel_rfl, c61⟩
    · cases h; exact ⟨Tryd.f62, f62, Tryd.func62, by kernel_rfl, c62⟩
    · cases h; exact ⟨Tryd.f63, f63, Tryd.func63, by kernel_rfl, c63⟩
    · cases h; exact ⟨Tryd.f64, f64, Tryd.func64, by kernel_rfl, c64⟩
    · cases h; exact ⟨Tryd.f65, f65, Tryd.func65, by kernel_rfl, c65⟩
    · cases h; exact ⟨Tryd.f66, f66, Tryd.func66, by kernel_rfl, c66⟩
    · cases h; exact ⟨Tryd.f68, f68, Tryd.func68, by kernel_rfl, c68⟩
    · cases h; exact ⟨Tryd.f70, f70, Tryd.func70, by kernel_rfl, c70⟩
    · cases h; exact ⟨Tryd.f71, f71, Tryd.func71, by kernel_rfl, c71⟩
    · cases h; exact ⟨Tryd.f72, f72, Tryd.func72, by kernel_rfl, c72⟩
    · cases h; exact ⟨Tryd.f73, f73, Tryd.func73, by kernel_rfl, c73⟩
    · cases h; exact ⟨Tryd.f74, f74, Tryd.func74, by kernel_rfl, c74⟩
    · cases h; exact ⟨Tryd.f75, f75, Tryd.func75, by kernel_rfl, c75⟩
    · cases h; exact ⟨Tryd.f76, f76, Tryd.func76, by kernel_rfl, c76⟩
    · cases h; exact ⟨Tryd.f83, f83, Tryd.func83, by kernel_rfl, c83⟩
    · cases h; exact ⟨Tryd.f85, f85, Tryd.func85, by kernel_rfl, c85⟩
    · cases h; exact ⟨Tryd.f88, f88, Tryd.func88, by kernel_rfl, c88⟩
    · cases h; exact ⟨Tryd.f89, f89, Tryd.func89, by kernel_rfl, c89⟩
    · cases h; exact ⟨Tryd.f90, f90, Tryd.func90, by kernel_rfl, c90⟩
    · cases h; exact ⟨Tryd.f91, f91, Tryd.func91, by kernel_rfl, c91⟩
    · cases h; exact ⟨Tryd.f92, f92, Tryd.func92, by kernel_rfl, c92⟩
    · cases h; exact ⟨Tryd.f93, f93, Tryd.func93, by kernel_rfl, c93⟩
    · cases h
  · change prims f = some p at h
    unfold prims at h
    split at h
    · cases h; exact pClone_ok (ent_of Tryd.func22 (by kernel_rfl) (c := _) rfl) clone_f22
    · cases h; exact pClone_ok (ent_of Tryd.func36 (by kernel_rfl) (c := _) rfl) clone_f36
    · cases h; exact pInsertT_ok (pInsert_ok' (ent_of Tryd.func53 (by kernel_rfl) (c := _) rfl) (by kernel_rfl) elemT_44 ins_mid_f53 ins_end_f53)
    · cases h; exact F0.sort_ok
    · cases h; exact grow84_ok
    · cases h; exact pCmp_ok Tryd.func105 (by kernel_rfl) (by kernel_rfl) (by kernel_rfl) (by kernel_rfl)
    · cases h
end Go.Proofs.YtgajekpigkknnaaDoor.F
